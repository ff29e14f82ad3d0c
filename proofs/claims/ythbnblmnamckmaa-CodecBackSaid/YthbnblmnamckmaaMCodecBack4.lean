-- Laid by a program of this seat (wip/merge.py): PAllx30.
import Derived.Test.YthbnblmnamckmaaMCodecBack0
import Derived.Test.YthbnblmnamckmaaMCodecBack1
import Derived.Test.YthbnblmnamckmaaMCodecBack2
import Derived.Test.YthbnblmnamckmaaMCodecBack3
-- Laid by a program of this seat (wip/xprint.py over the kit's print).
namespace Go.Proofs.Ythbnblmnamckmaa.PAll
open Go.RowKit Go.Proofs.YthbnblmnamckmaaW.PrintWords Go.Proofs.YthbnblmnamckmaaW.PrintLast Go.Proofs.YthbnblmnamckmaaW.PrintMore
attribute [local go_sem] max2_int min2_int max_two min_two max_three min_three max_four min_four   -- for this text's walks alone
set_option linter.unusedVariables false
set_option linter.unusedSimpArgs false

/-! ### windlasslaw2_CodecBack: function 8 -/
mutual
def windlasslaw2_CodecBack.j0 : Nat → List Int → List Int → Bool → Int → Int → ByteArray → Int → List (S24) → ByteArray → List (S24) → Option (Bool)
 | 0,_,_,_,_,_,_,_,_,_,_ => none
 | k + 1,x2,x3,x47,x337000,x337001,x337002,x337003,x337004,x338000,x338001 => if x47 = true then (some true) else ((codec_PutValue.f k x337000 x337001 x337002 x337003 x337004).bind fun bt341 => (if bt341.2 = 0 then (if ([] : List Int).length + bt341.1.length < 140737488355328 then ((some (([] : List Int) ++ bt341.1 : List Int)).bind fun y345 => (if y345.length + x2.length < 140737488355328 then ((codec_Value.f k (y345 ++ x2)).bind fun bt351 => (if bt351.2.2.2.2.2.2 = 0 then (if bt351.2.2.2.2.2.1 = (bt341.1.length : Int) then ((windlassref3_Same.f k x337000 x337001 x337002 x337003 x337004 bt351.1 bt351.2.1 bt351.2.2.1 bt351.2.2.2.1 bt351.2.2.2.2.1).bind fun t361 => (windlasslaw2_CodecBack.j1 k x2 x3 (!t361) x338000 x338001)) else (windlasslaw2_CodecBack.j1 k x2 x3 true x338000 x338001)) else (windlasslaw2_CodecBack.j1 k x2 x3 true x338000 x338001))) else (none))) else (none)) else (windlasslaw2_CodecBack.j2 k x2 x3 x338000 x338001)))
def windlasslaw2_CodecBack.j2 : Nat → List Int → List Int → ByteArray → List (S24) → Option (Bool)
 | 0,_,_,_,_ => none
 | k + 1,x2,x3,x338000,x338001 => (codec_PutEvent.f k x338000 x338001).bind fun bt362 => (if bt362.2 = 0 then (if ([] : List Int).length + bt362.1.length < 140737488355328 then ((some (([] : List Int) ++ bt362.1 : List Int)).bind fun y366 => (if y366.length + x2.length < 140737488355328 then ((codec_Event.f k (y366 ++ x2)).bind fun bt372 => (if bt372.2.2.2 = 0 then (if bt372.2.2.1 = (bt362.1.length : Int) then (if bt372.1.toList = x338000.toList then ((windlassref3_All.f k bt372.2.1 x338001).bind fun t379 => (windlasslaw2_CodecBack.j3 k x3 (!t379))) else (windlasslaw2_CodecBack.j3 k x3 true)) else (windlasslaw2_CodecBack.j3 k x3 true)) else (windlasslaw2_CodecBack.j3 k x3 true))) else (none))) else (none)) else (windlasslaw2_CodecBack.j4 k x3))
def windlasslaw2_CodecBack.j4 : Nat → List Int → Option (Bool)
 | 0,_ => none
 | k + 1,x3 => (codec_Value.f k x3).bind fun bt380 => (if bt380.2.2.2.2.2.2 = 0 then ((codec_PutValue.f k bt380.1 bt380.2.1 bt380.2.2.1 bt380.2.2.2.1 bt380.2.2.2.2.1).bind fun bt390 => (if bt390.2 = 0 then (if bt380.2.2.2.2.2.1 = (bt390.1.length : Int) then (if 0 ≤ bt380.2.2.2.2.2.1 then (if bt380.2.2.2.2.2.1 ≤ (x3.length : Int) then ((windlasshelp_Bytes.f bt390.1 (x3.take (bt380.2.2.2.2.2.1 : Int).toNat)).bind fun t395 => (windlasslaw2_CodecBack.j5 k x3 (!t395))) else (none)) else (none)) else (windlasslaw2_CodecBack.j5 k x3 true)) else (windlasslaw2_CodecBack.j5 k x3 true))) else (windlasslaw2_CodecBack.j6 k x3))
def windlasslaw2_CodecBack.j6 : Nat → List Int → Option (Bool)
 | 0,_ => none
 | k + 1,x3 => (codec_Event.f k x3).bind fun bt396 => (if bt396.2.2.2 = 0 then ((codec_PutEvent.f k bt396.1 bt396.2.1).bind fun bt403 => (if bt403.2 = 0 then (if bt396.2.2.1 = (bt403.1.length : Int) then (if 0 ≤ bt396.2.2.1 then (if bt396.2.2.1 ≤ (x3.length : Int) then ((windlasshelp_Bytes.f bt403.1 (x3.take (bt396.2.2.1 : Int).toNat)).bind fun t408 => (some t408)) else (none)) else (none)) else (some false)) else (some false))) else (some true))
def windlasslaw2_CodecBack.j5 : Nat → List Int → Bool → Option (Bool)
 | 0,_,_ => none
 | k + 1,x3,x145 => if x145 = true then (some false) else (windlasslaw2_CodecBack.j6 k x3)
def windlasslaw2_CodecBack.j3 : Nat → List Int → Bool → Option (Bool)
 | 0,_,_ => none
 | k + 1,x3,x116 => if x116 = true then (some false) else (windlasslaw2_CodecBack.j4 k x3)
def windlasslaw2_CodecBack.j1 : Nat → List Int → List Int → Bool → ByteArray → List (S24) → Option (Bool)
 | 0,_,_,_,_,_ => none
 | k + 1,x2,x3,x77,x338000,x338001 => if x77 = true then (some false) else (windlasslaw2_CodecBack.j2 k x2 x3 x338000 x338001)
end
def windlasslaw2_CodecBack.f (k : Nat) (a0_0 : Int) (a0_1 : Int) (a0_2 : ByteArray) (a0_3 : Int) (l0_4 : List (S24)) (a1_0 : ByteArray) (l1_1 : List (S24)) (l2 : List Int) (l3 : List Int) : Option (Bool):=(windlasslaw2_known.f k).bind fun t338 => (if t338 = true then ((windlasshelp_Small.f k a0_0 a0_1 a0_2 a0_3 l0_4).bind fun t339 => (if t339 = true then ((windlasshelp_Smalls.f k l1_1).bind fun t340 => (if t340 = true then (if (a1_0.size : Int) > 100 then (windlasslaw2_CodecBack.j0 k l2 l3 true a0_0 a0_1 a0_2 a0_3 l0_4 a1_0 l1_1) else (if (l2.length : Int) > 200 then (windlasslaw2_CodecBack.j0 k l2 l3 true a0_0 a0_1 a0_2 a0_3 l0_4 a1_0 l1_1) else (windlasslaw2_CodecBack.j0 k l2 l3 (decide ((l3.length : Int) > 1500)) a0_0 a0_1 a0_2 a0_3 l0_4 a1_0 l1_1))) else (windlasslaw2_CodecBack.j0 k l2 l3 true a0_0 a0_1 a0_2 a0_3 l0_4 a1_0 l1_1))) else (windlasslaw2_CodecBack.j0 k l2 l3 true a0_0 a0_1 a0_2 a0_3 l0_4 a1_0 l1_1))) else (some false))
theorem windlasslaw2_CodecBack.mono_l : ∀ k,(∀ y0 y1 y2 y3 y4 y5 y6 y7 y8 y9,LeO (windlasslaw2_CodecBack.j0 k y0 y1 y2 y3 y4 y5 y6 y7 y8 y9) (windlasslaw2_CodecBack.j0 (k + 1) y0 y1 y2 y3 y4 y5 y6 y7 y8 y9)) ∧ (∀ y0 y1 y2 y3,LeO (windlasslaw2_CodecBack.j2 k y0 y1 y2 y3) (windlasslaw2_CodecBack.j2 (k + 1) y0 y1 y2 y3)) ∧ (∀ y0,LeO (windlasslaw2_CodecBack.j4 k y0) (windlasslaw2_CodecBack.j4 (k + 1) y0)) ∧ (∀ y0,LeO (windlasslaw2_CodecBack.j6 k y0) (windlasslaw2_CodecBack.j6 (k + 1) y0)) ∧ (∀ y0 y1,LeO (windlasslaw2_CodecBack.j5 k y0 y1) (windlasslaw2_CodecBack.j5 (k + 1) y0 y1)) ∧ (∀ y0 y1,LeO (windlasslaw2_CodecBack.j3 k y0 y1) (windlasslaw2_CodecBack.j3 (k + 1) y0 y1)) ∧ (∀ y0 y1 y2 y3 y4,LeO (windlasslaw2_CodecBack.j1 k y0 y1 y2 y3 y4) (windlasslaw2_CodecBack.j1 (k + 1) y0 y1 y2 y3 y4))
 | 0 => ⟨fun _ _ _ _ _ _ _ _ _ _ r h => by simp [windlasslaw2_CodecBack.j0] at h,fun _ _ _ _ r h => by simp [windlasslaw2_CodecBack.j2] at h,fun _ r h => by simp [windlasslaw2_CodecBack.j4] at h,fun _ r h => by simp [windlasslaw2_CodecBack.j6] at h,fun _ _ r h => by simp [windlasslaw2_CodecBack.j5] at h,fun _ _ r h => by simp [windlasslaw2_CodecBack.j3] at h,fun _ _ _ _ _ r h => by simp [windlasslaw2_CodecBack.j1] at h⟩
 | k + 1 => by
  obtain ⟨ih0,ih1,ih2,ih3,ih4,ih5,ih6⟩:=windlasslaw2_CodecBack.mono_l k
  refine ⟨?_,?_,?_,?_,?_,?_,?_⟩
  ·intro y0 y1 y2 y3 y4 y5 y6 y7 y8 y9
   unfold windlasslaw2_CodecBack.j0
   repeat' first
   | (with_reducible exact ih0 _ _ _ _ _ _ _ _ _ _)
   | (with_reducible exact ih1 _ _ _ _)
   | (with_reducible exact ih2 _)
   | (with_reducible exact ih3 _)
   | (with_reducible exact ih4 _ _)
   | (with_reducible exact ih5 _ _)
   | (with_reducible exact ih6 _ _ _ _ _)
   | (with_reducible exact codec_Event.mono _ _)
   | (with_reducible exact codec_PutEvent.mono _ _ _)
   | (with_reducible exact codec_PutValue.mono _ _ _ _ _ _)
   | (with_reducible exact codec_Value.mono _ _)
   | (with_reducible exact windlasshelp_Small.mono _ _ _ _ _ _)
   | (with_reducible exact windlasshelp_Smalls.mono _ _)
   | (with_reducible exact windlasslaw2_known.mono _)
   | (with_reducible exact windlassref3_All.mono _ _ _)
   | (with_reducible exact windlassref3_Same.mono _ _ _ _ _ _ _ _ _ _ _)
   | (with_reducible exact LeO.refl _)
   | (with_reducible exact LeO.none _)
   | (with_reducible refine LeO.ite ?_ ?_)
   | (with_reducible refine LeO.bind ?_ (fun _ => ?_))
   | exact ih0 _ _ _ _ _ _ _ _ _ _
   | exact ih1 _ _ _ _
   | exact ih2 _
   | exact ih3 _
   | exact ih4 _ _
   | exact ih5 _ _
   | exact ih6 _ _ _ _ _
   | exact codec_Event.mono _ _
   | exact codec_PutEvent.mono _ _ _
   | exact codec_PutValue.mono _ _ _ _ _ _
   | exact codec_Value.mono _ _
   | exact windlasshelp_Small.mono _ _ _ _ _ _
   | exact windlasshelp_Smalls.mono _ _
   | exact windlasslaw2_known.mono _
   | exact windlassref3_All.mono _ _ _
   | exact windlassref3_Same.mono _ _ _ _ _ _ _ _ _ _ _
   | exact LeO.none _
   | refine LeO.ite ?_ ?_
   | refine LeO.bind ?_ (fun _ => ?_)
  ·intro y0 y1 y2 y3
   unfold windlasslaw2_CodecBack.j2
   repeat' first
   | (with_reducible exact ih0 _ _ _ _ _ _ _ _ _ _)
   | (with_reducible exact ih1 _ _ _ _)
   | (with_reducible exact ih2 _)
   | (with_reducible exact ih3 _)
   | (with_reducible exact ih4 _ _)
   | (with_reducible exact ih5 _ _)
   | (with_reducible exact ih6 _ _ _ _ _)
   | (with_reducible exact codec_Event.mono _ _)
   | (with_reducible exact codec_PutEvent.mono _ _ _)
   | (with_reducible exact codec_PutValue.mono _ _ _ _ _ _)
   | (with_reducible exact codec_Value.mono _ _)
   | (with_reducible exact windlasshelp_Small.mono _ _ _ _ _ _)
   | (with_reducible exact windlasshelp_Smalls.mono _ _)
   | (with_reducible exact windlasslaw2_known.mono _)
   | (with_reducible exact windlassref3_All.mono _ _ _)
   | (with_reducible exact windlassref3_Same.mono _ _ _ _ _ _ _ _ _ _ _)
   | (with_reducible exact LeO.refl _)
   | (with_reducible exact LeO.none _)
   | (with_reducible refine LeO.ite ?_ ?_)
   | (with_reducible refine LeO.bind ?_ (fun _ => ?_))
   | exact ih0 _ _ _ _ _ _ _ _ _ _
   | exact ih1 _ _ _ _
   | exact ih2 _
   | exact ih3 _
   | exact ih4 _ _
   | exact ih5 _ _
   | exact ih6 _ _ _ _ _
   | exact codec_Event.mono _ _
   | exact codec_PutEvent.mono _ _ _
   | exact codec_PutValue.mono _ _ _ _ _ _
   | exact codec_Value.mono _ _
   | exact windlasshelp_Small.mono _ _ _ _ _ _
   | exact windlasshelp_Smalls.mono _ _
   | exact windlasslaw2_known.mono _
   | exact windlassref3_All.mono _ _ _
   | exact windlassref3_Same.mono _ _ _ _ _ _ _ _ _ _ _
   | exact LeO.none _
   | refine LeO.ite ?_ ?_
   | refine LeO.bind ?_ (fun _ => ?_)
  ·intro y0
   unfold windlasslaw2_CodecBack.j4
   repeat' first
   | (with_reducible exact ih0 _ _ _ _ _ _ _ _ _ _)
   | (with_reducible exact ih1 _ _ _ _)
   | (with_reducible exact ih2 _)
   | (with_reducible exact ih3 _)
   | (with_reducible exact ih4 _ _)
   | (with_reducible exact ih5 _ _)
   | (with_reducible exact ih6 _ _ _ _ _)
   | (with_reducible exact codec_Event.mono _ _)
   | (with_reducible exact codec_PutEvent.mono _ _ _)
   | (with_reducible exact codec_PutValue.mono _ _ _ _ _ _)
   | (with_reducible exact codec_Value.mono _ _)
   | (with_reducible exact windlasshelp_Small.mono _ _ _ _ _ _)
   | (with_reducible exact windlasshelp_Smalls.mono _ _)
   | (with_reducible exact windlasslaw2_known.mono _)
   | (with_reducible exact windlassref3_All.mono _ _ _)
   | (with_reducible exact windlassref3_Same.mono _ _ _ _ _ _ _ _ _ _ _)
   | (with_reducible exact LeO.refl _)
   | (with_reducible exact LeO.none _)
   | (with_reducible refine LeO.ite ?_ ?_)
   | (with_reducible refine LeO.bind ?_ (fun _ => ?_))
   | exact ih0 _ _ _ _ _ _ _ _ _ _
   | exact ih1 _ _ _ _
   | exact ih2 _
   | exact ih3 _
   | exact ih4 _ _
   | exact ih5 _ _
   | exact ih6 _ _ _ _ _
   | exact codec_Event.mono _ _
   | exact codec_PutEvent.mono _ _ _
   | exact codec_PutValue.mono _ _ _ _ _ _
   | exact codec_Value.mono _ _
   | exact windlasshelp_Small.mono _ _ _ _ _ _
   | exact windlasshelp_Smalls.mono _ _
   | exact windlasslaw2_known.mono _
   | exact windlassref3_All.mono _ _ _
   | exact windlassref3_Same.mono _ _ _ _ _ _ _ _ _ _ _
   | exact LeO.none _
   | refine LeO.ite ?_ ?_
   | refine LeO.bind ?_ (fun _ => ?_)
  ·intro y0
   unfold windlasslaw2_CodecBack.j6
   repeat' first
   | (with_reducible exact ih0 _ _ _ _ _ _ _ _ _ _)
   | (with_reducible exact ih1 _ _ _ _)
   | (with_reducible exact ih2 _)
   | (with_reducible exact ih3 _)
   | (with_reducible exact ih4 _ _)
   | (with_reducible exact ih5 _ _)
   | (with_reducible exact ih6 _ _ _ _ _)
   | (with_reducible exact codec_Event.mono _ _)
   | (with_reducible exact codec_PutEvent.mono _ _ _)
   | (with_reducible exact codec_PutValue.mono _ _ _ _ _ _)
   | (with_reducible exact codec_Value.mono _ _)
   | (with_reducible exact windlasshelp_Small.mono _ _ _ _ _ _)
   | (with_reducible exact windlasshelp_Smalls.mono _ _)
   | (with_reducible exact windlasslaw2_known.mono _)
   | (with_reducible exact windlassref3_All.mono _ _ _)
   | (with_reducible exact windlassref3_Same.mono _ _ _ _ _ _ _ _ _ _ _)
   | (with_reducible exact LeO.refl _)
   | (with_reducible exact LeO.none _)
   | (with_reducible refine LeO.ite ?_ ?_)
   | (with_reducible refine LeO.bind ?_ (fun _ => ?_))
   | exact ih0 _ _ _ _ _ _ _ _ _ _
   | exact ih1 _ _ _ _
   | exact ih2 _
   | exact ih3 _
   | exact ih4 _ _
   | exact ih5 _ _
   | exact ih6 _ _ _ _ _
   | exact codec_Event.mono _ _
   | exact codec_PutEvent.mono _ _ _
   | exact codec_PutValue.mono _ _ _ _ _ _
   | exact codec_Value.mono _ _
   | exact windlasshelp_Small.mono _ _ _ _ _ _
   | exact windlasshelp_Smalls.mono _ _
   | exact windlasslaw2_known.mono _
   | exact windlassref3_All.mono _ _ _
   | exact windlassref3_Same.mono _ _ _ _ _ _ _ _ _ _ _
   | exact LeO.none _
   | refine LeO.ite ?_ ?_
   | refine LeO.bind ?_ (fun _ => ?_)
  ·intro y0 y1
   unfold windlasslaw2_CodecBack.j5
   repeat' first
   | (with_reducible exact ih0 _ _ _ _ _ _ _ _ _ _)
   | (with_reducible exact ih1 _ _ _ _)
   | (with_reducible exact ih2 _)
   | (with_reducible exact ih3 _)
   | (with_reducible exact ih4 _ _)
   | (with_reducible exact ih5 _ _)
   | (with_reducible exact ih6 _ _ _ _ _)
   | (with_reducible exact codec_Event.mono _ _)
   | (with_reducible exact codec_PutEvent.mono _ _ _)
   | (with_reducible exact codec_PutValue.mono _ _ _ _ _ _)
   | (with_reducible exact codec_Value.mono _ _)
   | (with_reducible exact windlasshelp_Small.mono _ _ _ _ _ _)
   | (with_reducible exact windlasshelp_Smalls.mono _ _)
   | (with_reducible exact windlasslaw2_known.mono _)
   | (with_reducible exact windlassref3_All.mono _ _ _)
   | (with_reducible exact windlassref3_Same.mono _ _ _ _ _ _ _ _ _ _ _)
   | (with_reducible exact LeO.refl _)
   | (with_reducible exact LeO.none _)
   | (with_reducible refine LeO.ite ?_ ?_)
   | (with_reducible refine LeO.bind ?_ (fun _ => ?_))
   | exact ih0 _ _ _ _ _ _ _ _ _ _
   | exact ih1 _ _ _ _
   | exact ih2 _
   | exact ih3 _
   | exact ih4 _ _
   | exact ih5 _ _
   | exact ih6 _ _ _ _ _
   | exact codec_Event.mono _ _
   | exact codec_PutEvent.mono _ _ _
   | exact codec_PutValue.mono _ _ _ _ _ _
   | exact codec_Value.mono _ _
   | exact windlasshelp_Small.mono _ _ _ _ _ _
   | exact windlasshelp_Smalls.mono _ _
   | exact windlasslaw2_known.mono _
   | exact windlassref3_All.mono _ _ _
   | exact windlassref3_Same.mono _ _ _ _ _ _ _ _ _ _ _
   | exact LeO.none _
   | refine LeO.ite ?_ ?_
   | refine LeO.bind ?_ (fun _ => ?_)
  ·intro y0 y1
   unfold windlasslaw2_CodecBack.j3
   repeat' first
   | (with_reducible exact ih0 _ _ _ _ _ _ _ _ _ _)
   | (with_reducible exact ih1 _ _ _ _)
   | (with_reducible exact ih2 _)
   | (with_reducible exact ih3 _)
   | (with_reducible exact ih4 _ _)
   | (with_reducible exact ih5 _ _)
   | (with_reducible exact ih6 _ _ _ _ _)
   | (with_reducible exact codec_Event.mono _ _)
   | (with_reducible exact codec_PutEvent.mono _ _ _)
   | (with_reducible exact codec_PutValue.mono _ _ _ _ _ _)
   | (with_reducible exact codec_Value.mono _ _)
   | (with_reducible exact windlasshelp_Small.mono _ _ _ _ _ _)
   | (with_reducible exact windlasshelp_Smalls.mono _ _)
   | (with_reducible exact windlasslaw2_known.mono _)
   | (with_reducible exact windlassref3_All.mono _ _ _)
   | (with_reducible exact windlassref3_Same.mono _ _ _ _ _ _ _ _ _ _ _)
   | (with_reducible exact LeO.refl _)
   | (with_reducible exact LeO.none _)
   | (with_reducible refine LeO.ite ?_ ?_)
   | (with_reducible refine LeO.bind ?_ (fun _ => ?_))
   | exact ih0 _ _ _ _ _ _ _ _ _ _
   | exact ih1 _ _ _ _
   | exact ih2 _
   | exact ih3 _
   | exact ih4 _ _
   | exact ih5 _ _
   | exact ih6 _ _ _ _ _
   | exact codec_Event.mono _ _
   | exact codec_PutEvent.mono _ _ _
   | exact codec_PutValue.mono _ _ _ _ _ _
   | exact codec_Value.mono _ _
   | exact windlasshelp_Small.mono _ _ _ _ _ _
   | exact windlasshelp_Smalls.mono _ _
   | exact windlasslaw2_known.mono _
   | exact windlassref3_All.mono _ _ _
   | exact windlassref3_Same.mono _ _ _ _ _ _ _ _ _ _ _
   | exact LeO.none _
   | refine LeO.ite ?_ ?_
   | refine LeO.bind ?_ (fun _ => ?_)
  ·intro y0 y1 y2 y3 y4
   unfold windlasslaw2_CodecBack.j1
   repeat' first
   | (with_reducible exact ih0 _ _ _ _ _ _ _ _ _ _)
   | (with_reducible exact ih1 _ _ _ _)
   | (with_reducible exact ih2 _)
   | (with_reducible exact ih3 _)
   | (with_reducible exact ih4 _ _)
   | (with_reducible exact ih5 _ _)
   | (with_reducible exact ih6 _ _ _ _ _)
   | (with_reducible exact codec_Event.mono _ _)
   | (with_reducible exact codec_PutEvent.mono _ _ _)
   | (with_reducible exact codec_PutValue.mono _ _ _ _ _ _)
   | (with_reducible exact codec_Value.mono _ _)
   | (with_reducible exact windlasshelp_Small.mono _ _ _ _ _ _)
   | (with_reducible exact windlasshelp_Smalls.mono _ _)
   | (with_reducible exact windlasslaw2_known.mono _)
   | (with_reducible exact windlassref3_All.mono _ _ _)
   | (with_reducible exact windlassref3_Same.mono _ _ _ _ _ _ _ _ _ _ _)
   | (with_reducible exact LeO.refl _)
   | (with_reducible exact LeO.none _)
   | (with_reducible refine LeO.ite ?_ ?_)
   | (with_reducible refine LeO.bind ?_ (fun _ => ?_))
   | exact ih0 _ _ _ _ _ _ _ _ _ _
   | exact ih1 _ _ _ _
   | exact ih2 _
   | exact ih3 _
   | exact ih4 _ _
   | exact ih5 _ _
   | exact ih6 _ _ _ _ _
   | exact codec_Event.mono _ _
   | exact codec_PutEvent.mono _ _ _
   | exact codec_PutValue.mono _ _ _ _ _ _
   | exact codec_Value.mono _ _
   | exact windlasshelp_Small.mono _ _ _ _ _ _
   | exact windlasshelp_Smalls.mono _ _
   | exact windlasslaw2_known.mono _
   | exact windlassref3_All.mono _ _ _
   | exact windlassref3_Same.mono _ _ _ _ _ _ _ _ _ _ _
   | exact LeO.none _
   | refine LeO.ite ?_ ?_
   | refine LeO.bind ?_ (fun _ => ?_)
theorem windlasslaw2_CodecBack.mono : ∀ a0 a1 a2 a3 a4 a5 a6 a7 a8 k,LeO (windlasslaw2_CodecBack.f k a0 a1 a2 a3 a4 a5 a6 a7 a8) (windlasslaw2_CodecBack.f (k + 1) a0 a1 a2 a3 a4 a5 a6 a7 a8):=by
 intro a0 a1 a2 a3 a4 a5 a6 a7 a8 k
 obtain ⟨ih0,ih1,ih2,ih3,ih4,ih5,ih6⟩:=windlasslaw2_CodecBack.mono_l k
 unfold windlasslaw2_CodecBack.f
 repeat' first
   | (with_reducible exact ih0 _ _ _ _ _ _ _ _ _ _)
   | (with_reducible exact ih1 _ _ _ _)
   | (with_reducible exact ih2 _)
   | (with_reducible exact ih3 _)
   | (with_reducible exact ih4 _ _)
   | (with_reducible exact ih5 _ _)
   | (with_reducible exact ih6 _ _ _ _ _)
   | (with_reducible exact codec_Event.mono _ _)
   | (with_reducible exact codec_PutEvent.mono _ _ _)
   | (with_reducible exact codec_PutValue.mono _ _ _ _ _ _)
   | (with_reducible exact codec_Value.mono _ _)
   | (with_reducible exact windlasshelp_Small.mono _ _ _ _ _ _)
   | (with_reducible exact windlasshelp_Smalls.mono _ _)
   | (with_reducible exact windlasslaw2_known.mono _)
   | (with_reducible exact windlassref3_All.mono _ _ _)
   | (with_reducible exact windlassref3_Same.mono _ _ _ _ _ _ _ _ _ _ _)
   | (with_reducible exact LeO.refl _)
   | (with_reducible exact LeO.none _)
   | (with_reducible refine LeO.ite ?_ ?_)
   | (with_reducible refine LeO.bind ?_ (fun _ => ?_))
   | exact ih0 _ _ _ _ _ _ _ _ _ _
   | exact ih1 _ _ _ _
   | exact ih2 _
   | exact ih3 _
   | exact ih4 _ _
   | exact ih5 _ _
   | exact ih6 _ _ _ _ _
   | exact codec_Event.mono _ _
   | exact codec_PutEvent.mono _ _ _
   | exact codec_PutValue.mono _ _ _ _ _ _
   | exact codec_Value.mono _ _
   | exact windlasshelp_Small.mono _ _ _ _ _ _
   | exact windlasshelp_Smalls.mono _ _
   | exact windlasslaw2_known.mono _
   | exact windlassref3_All.mono _ _ _
   | exact windlassref3_Same.mono _ _ _ _ _ _ _ _ _ _ _
   | exact LeO.none _
   | refine LeO.ite ?_ ?_
   | refine LeO.bind ?_ (fun _ => ?_)
/-- A walk cut in two: what is left to show at the cut, and that it is enough. -/
structure windlasslaw2_CodecBack.Cut (G : Prop) where
  P : Prop
  ok : P → G
def windlasslaw2_CodecBack.cut_mk {G P : Prop} (h : Aside0 P → G) : windlasslaw2_CodecBack.Cut G:=⟨P,fun p => h (Aside0.mk p)⟩
set_option maxHeartbeats 8000000 in
set_option maxRecDepth 100000 in
noncomputable def windlasslaw2_CodecBack.p0 (k : Nat) (a0_0 : Int) (a0_1 : Int) (a0_2 : ByteArray) (a0_3 : Int) (A0_4 : Option Addr) (c0_4 : Nat) (l0_4 : List (S24)) (a1_0 : ByteArray) (A1_1 : Option Addr) (c1_1 : Nat) (l1_1 : List (S24)) (A2 : Option Addr) (c2 : Nat) (l2 : List Int) (A3 : Option Addr) (c3 : Nat) (l3 : List Int) (r : Bool) (w : World) : windlasslaw2_CodecBack.Cut (∀ (hr0_4 : Kd.C k24 w A0_4 l0_4.length l0_4) (hc0_4 : l0_4.length ≤ c0_4) (hr1_1 : Kd.C k24 w A1_1 l1_1.length l1_1) (hc1_1 : l1_1.length ≤ c1_1) (hr2 : Kd.C (Kd.int .u8) w A2 l2.length l2) (hc2 : l2.length ≤ c2) (hr3 : Kd.C (Kd.int .u8) w A3 l3.length l3) (hc3 : l3.length ≤ c3) (h : windlasslaw2_CodecBack.f k a0_0 a0_1 a0_2 a0_3 l0_4 a1_0 l1_1 l2 l3 = some r),Calls Try.prog 8 #[.agg #[.int .i64 a0_0, .int .i64 a0_1, .string a0_2, .int .i64 a0_3, .slice A0_4 l0_4.length c0_4], .agg #[.string a1_0, .slice A1_1 l1_1.length c1_1], .slice A2 l2.length c2, .slice A3 l3.length c3] w fun e w' => e = .returned (.bool r) ∧ Below w.heap.size w w'):=by
 apply windlasslaw2_CodecBack.cut_mk
 intro hcutP hr0_4 hc0_4 hr1_1 hc1_1 hr2 hc2 hr3 hc3 h
 have hu24:=Try.underlying24
 have hu26:=Try.underlying26
 have HR0_4:=Aside0.mk hr0_4
 have HC0_4:=Aside0.mk hc0_4
 clear hr0_4 hc0_4
 have HR1_1:=Aside0.mk hr1_1
 have HC1_1:=Aside0.mk hc1_1
 clear hr1_1 hc1_1
 have HR2:=Aside0.mk hr2
 have HC2:=Aside0.mk hc2
 clear hr2 hc2
 have HR3:=Aside0.mk hr3
 have HC3:=Aside0.mk hc3
 clear hr3 hc3
 have HB:=Aside0.mk (Below.refl w.heap.size w)
 have H : ((windlasslaw2_known.f k).bind fun t338 => (if t338 = true then ((windlasshelp_Small.f k a0_0 a0_1 a0_2 a0_3 l0_4).bind fun t339 => (if t339 = true then ((windlasshelp_Smalls.f k l1_1).bind fun t340 => (if t340 = true then (if (a1_0.size : Int) > 100 then (windlasslaw2_CodecBack.j0 k l2 l3 true a0_0 a0_1 a0_2 a0_3 l0_4 a1_0 l1_1) else (if (l2.length : Int) > 200 then (windlasslaw2_CodecBack.j0 k l2 l3 true a0_0 a0_1 a0_2 a0_3 l0_4 a1_0 l1_1) else (windlasslaw2_CodecBack.j0 k l2 l3 (decide ((l3.length : Int) > 1500)) a0_0 a0_1 a0_2 a0_3 l0_4 a1_0 l1_1))) else (windlasslaw2_CodecBack.j0 k l2 l3 true a0_0 a0_1 a0_2 a0_3 l0_4 a1_0 l1_1))) else (windlasslaw2_CodecBack.j0 k l2 l3 true a0_0 a0_1 a0_2 a0_3 l0_4 a1_0 l1_1))) else (some false))) = some r:=h
 clear h
 replace H:=Option.bind_eq_some_iff.mp H
 obtain ⟨t338,A50,H⟩:=H
 replace H : (if t338 = true then ((windlasshelp_Small.f k a0_0 a0_1 a0_2 a0_3 l0_4).bind fun t339 => (if t339 = true then ((windlasshelp_Smalls.f k l1_1).bind fun t340 => (if t340 = true then (if (a1_0.size : Int) > 100 then (windlasslaw2_CodecBack.j0 k l2 l3 true a0_0 a0_1 a0_2 a0_3 l0_4 a1_0 l1_1) else (if (l2.length : Int) > 200 then (windlasslaw2_CodecBack.j0 k l2 l3 true a0_0 a0_1 a0_2 a0_3 l0_4 a1_0 l1_1) else (windlasslaw2_CodecBack.j0 k l2 l3 (decide ((l3.length : Int) > 1500)) a0_0 a0_1 a0_2 a0_3 l0_4 a1_0 l1_1))) else (windlasslaw2_CodecBack.j0 k l2 l3 true a0_0 a0_1 a0_2 a0_3 l0_4 a1_0 l1_1))) else (windlasslaw2_CodecBack.j0 k l2 l3 true a0_0 a0_1 a0_2 a0_3 l0_4 a1_0 l1_1))) else (some false)) = some r:=H
 have A5:=Aside0.mk A50
 clear A50
 by_cases c6 : t338 = true
 ·subst c6
  have H1 : ((windlasshelp_Small.f k a0_0 a0_1 a0_2 a0_3 l0_4).bind fun t339 => (if t339 = true then ((windlasshelp_Smalls.f k l1_1).bind fun t340 => (if t340 = true then (if (a1_0.size : Int) > 100 then (windlasslaw2_CodecBack.j0 k l2 l3 true a0_0 a0_1 a0_2 a0_3 l0_4 a1_0 l1_1) else (if (l2.length : Int) > 200 then (windlasslaw2_CodecBack.j0 k l2 l3 true a0_0 a0_1 a0_2 a0_3 l0_4 a1_0 l1_1) else (windlasslaw2_CodecBack.j0 k l2 l3 (decide ((l3.length : Int) > 1500)) a0_0 a0_1 a0_2 a0_3 l0_4 a1_0 l1_1))) else (windlasslaw2_CodecBack.j0 k l2 l3 true a0_0 a0_1 a0_2 a0_3 l0_4 a1_0 l1_1))) else (windlasslaw2_CodecBack.j0 k l2 l3 true a0_0 a0_1 a0_2 a0_3 l0_4 a1_0 l1_1))) = some r:=by rw [if_pos rfl] at H;exact H
  clear H
  have H:=H1
  clear H1
  have HC7:=Aside0.mk H
  clear H
  go_enter Try.func8,Try.ntmps8
  go_upto_region 3 with (first|((with_reducible refine gate_dst (N:=4) rfl ?_);(try (refine gate_guard (by rfl) ?_;dsimp only));refine box_event ?hg (N:=4) ?hd (cs:=#[.int .i64 a0_0, .int .i64 a0_1, .string a0_2, .int .i64 a0_3, .slice A0_4 l0_4.length c0_4]) (t:=24) ?hr ?_;(case hd => rfl);(case hg => rfl);(case hr => first|(go_simp;done)|(go_simp;rfl));intro gb336 hg w8 hbox hb;have n0_:=Aside0.mk (below_step (by repeat (first|(with_reducible first|exact HB.out|apply below_alloc|apply pw_below_drewN|apply below_drew1)|exact HB.out)) hb);have n1_:=Aside0.mk (hbox);have n2_:=Aside0.mk ((by rw [hg];exact (below_size (by repeat (first|(with_reducible first|exact HB.out|apply below_alloc|apply pw_below_drewN|apply below_drew1)|exact HB.out))) : w.heap.size ≤ gb336));have n3_:=Aside0.mk ((by rw [hg];exact (below_size (by repeat (first|(with_reducible first|exact HB.out|apply below_alloc|apply pw_below_drewN|apply below_drew1)|exact HB.out))) : w.heap.size ≤ gb336));clear HB;have HB:=n0_;have BK336:=n1_;have GW336:=n2_;have GE336:=n3_;clear n0_ n1_ n2_ n3_;clear hb hbox hg)|((with_reducible refine gate_dst (N:=5) rfl ?_);(try (refine gate_guard (by rfl) ?_;dsimp only));refine box_event ?hg (N:=5) ?hd (cs:=#[.string a1_0, .slice A1_1 l1_1.length c1_1]) (t:=26) ?hr ?_;(case hd => rfl);(case hg => rfl);(case hr => first|(go_simp;done)|(go_simp;rfl));intro gb337 hg w9 hbox hb;have n0_:=Aside0.mk (blk_below (g:=gb336) (o := .cells #[.int .i64 a0_0, .int .i64 a0_1, .string a0_2, .int .i64 a0_3, .slice A0_4 l0_4.length c0_4] 24 (0,0)) (by (with_reducible repeat (first|refine blk_drewN ?_ _|refine blk_drew ?_|refine blk_alloc ?_ _));exact BK336.out) hb);have n1_:=Aside0.mk (below_step (by repeat (first|(with_reducible first|exact HB.out|apply below_alloc|apply pw_below_drewN|apply below_drew1|refine below_set ?_ GE336.out)|exact HB.out)) hb);have n2_:=Aside0.mk (hbox);have n3_:=Aside0.mk ((by rw [hg];exact (below_size (by repeat (first|(with_reducible first|exact HB.out|apply below_alloc|apply pw_below_drewN|apply below_drew1|refine below_set ?_ GE336.out)|exact HB.out))) : w.heap.size ≤ gb337));have n4_:=Aside0.mk ((by rw [hg];exact (below_size (by repeat (first|(with_reducible first|exact HB.out|apply below_alloc|apply pw_below_drewN|apply below_drew1|refine below_set ?_ GE336.out)|exact HB.out))) : w.heap.size ≤ gb337));have n5_:=Aside0.mk ((by rw [hg];exact Nat.ne_of_lt (blk_lt (g:=gb336) (o := .cells #[.int .i64 a0_0, .int .i64 a0_1, .string a0_2, .int .i64 a0_3, .slice A0_4 l0_4.length c0_4] 24 (0,0)) (by (with_reducible repeat (first|refine blk_drewN ?_ _|refine blk_drew ?_|refine blk_alloc ?_ _));exact BK336.out)) : gb336 ≠ gb337));have n6_:=Aside0.mk ((by rw [hg];exact Nat.ne_of_gt (blk_lt (g:=gb336) (o := .cells #[.int .i64 a0_0, .int .i64 a0_1, .string a0_2, .int .i64 a0_3, .slice A0_4 l0_4.length c0_4] 24 (0,0)) (by (with_reducible repeat (first|refine blk_drewN ?_ _|refine blk_drew ?_|refine blk_alloc ?_ _));exact BK336.out)) : gb337 ≠ gb336));clear BK336;clear HB;have BK336:=n0_;have HB:=n1_;have BK337:=n2_;have GW337:=n3_;have GE337:=n4_;have NB336_337:=n5_;have NB337_336:=n6_;clear n0_ n1_ n2_ n3_ n4_ n5_ n6_;clear hb hbox hg)|((with_reducible refine gate_callee (f:=9) rfl ?_);refine goesL_ (some 21) rfl rfl Try.func9 (by kernel_rfl) rfl #[] rfl (by (try simp only [List.map_toArray,List.map_cons,List.map_nil]);first|done|rfl|(simp only [List.length_drop,List.length_take];rfl)|(go_simp;done)|(go_simp;simp;done)) ?_;(with_reducible refine (windlasslaw2_known.calls k  true _ A5.out).mono ?_);rintro e w10 ⟨rfl,hb⟩;refine ⟨_,rfl,?_⟩;have n0_:=Aside0.mk (blk_below (g:=gb336) (o := .cells #[.int .i64 a0_0, .int .i64 a0_1, .string a0_2, .int .i64 a0_3, .slice A0_4 l0_4.length c0_4] 24 (0,0)) (by (with_reducible repeat (first|refine blk_drewN ?_ _|refine blk_drew ?_|refine blk_alloc ?_ _));exact BK336.out) hb);have n1_:=Aside0.mk (blk_below (g:=gb337) (o := .cells #[.string a1_0, .slice A1_1 l1_1.length c1_1] 26 (0,0)) (by (with_reducible repeat (first|refine blk_drewN ?_ _|refine blk_drew ?_|refine blk_alloc ?_ _));exact BK337.out) hb);have n2_:=Aside0.mk (below_step (by repeat (first|(with_reducible first|exact HB.out|apply below_alloc|apply pw_below_drewN|apply below_drew1|refine below_set ?_ GE336.out|refine below_set ?_ GE337.out)|exact HB.out)) hb);clear BK336;clear BK337;clear HB;have BK336:=n0_;have BK337:=n1_;have HB:=n2_;clear n0_ n1_ n2_;(try clear hb);(try clear hb2);(try clear hk);(try clear hi)))
  (try simp only [Act.put,List.setIfInBounds_toArray,List.set_cons_zero,List.set_cons_succ])
  go_cut [47] (fun v47 wc => ∃ (kq : Nat) (x47_6 : Bool),v47 = .bool x47_6 ∧ Aside0 (windlasslaw2_CodecBack.j0 kq l2 l3 x47_6 a0_0 a0_1 a0_2 a0_3 l0_4 a1_0 l1_1 = some r) ∧ Aside0 (kq ≤ k) ∧ Aside0 (wc.heap[gb336]? = some (.cells #[.int .i64 a0_0, .int .i64 a0_1, .string a0_2, .int .i64 a0_3,(.slice A0_4 l0_4.length c0_4)] 24 (0,0))) ∧ Aside0 (wc.heap[gb337]? = some (.cells #[.string a1_0,(.slice A1_1 l1_1.length c1_1)] 26 (0,0))) ∧ Aside0 (Below w.heap.size w wc))
  case first =>
   have H:=HC7.out
   clear HC7
   replace H:=Option.bind_eq_some_iff.mp H
   obtain ⟨t339,A110,H⟩:=H
   replace H : (if t339 = true then ((windlasshelp_Smalls.f k l1_1).bind fun t340 => (if t340 = true then (if (a1_0.size : Int) > 100 then (windlasslaw2_CodecBack.j0 k l2 l3 true a0_0 a0_1 a0_2 a0_3 l0_4 a1_0 l1_1) else (if (l2.length : Int) > 200 then (windlasslaw2_CodecBack.j0 k l2 l3 true a0_0 a0_1 a0_2 a0_3 l0_4 a1_0 l1_1) else (windlasslaw2_CodecBack.j0 k l2 l3 (decide ((l3.length : Int) > 1500)) a0_0 a0_1 a0_2 a0_3 l0_4 a1_0 l1_1))) else (windlasslaw2_CodecBack.j0 k l2 l3 true a0_0 a0_1 a0_2 a0_3 l0_4 a1_0 l1_1))) else (windlasslaw2_CodecBack.j0 k l2 l3 true a0_0 a0_1 a0_2 a0_3 l0_4 a1_0 l1_1)) = some r:=H
   have A11:=Aside0.mk A110
   clear A110
   by_cases c12 : t339 = true
   ·subst c12
    have H1 : ((windlasshelp_Smalls.f k l1_1).bind fun t340 => (if t340 = true then (if (a1_0.size : Int) > 100 then (windlasslaw2_CodecBack.j0 k l2 l3 true a0_0 a0_1 a0_2 a0_3 l0_4 a1_0 l1_1) else (if (l2.length : Int) > 200 then (windlasslaw2_CodecBack.j0 k l2 l3 true a0_0 a0_1 a0_2 a0_3 l0_4 a1_0 l1_1) else (windlasslaw2_CodecBack.j0 k l2 l3 (decide ((l3.length : Int) > 1500)) a0_0 a0_1 a0_2 a0_3 l0_4 a1_0 l1_1))) else (windlasslaw2_CodecBack.j0 k l2 l3 true a0_0 a0_1 a0_2 a0_3 l0_4 a1_0 l1_1))) = some r:=by rw [if_pos rfl] at H;exact H
    clear H
    have H:=H1
    clear H1
    replace H:=Option.bind_eq_some_iff.mp H
    obtain ⟨t340,A130,H⟩:=H
    replace H : (if t340 = true then (if (a1_0.size : Int) > 100 then (windlasslaw2_CodecBack.j0 k l2 l3 true a0_0 a0_1 a0_2 a0_3 l0_4 a1_0 l1_1) else (if (l2.length : Int) > 200 then (windlasslaw2_CodecBack.j0 k l2 l3 true a0_0 a0_1 a0_2 a0_3 l0_4 a1_0 l1_1) else (windlasslaw2_CodecBack.j0 k l2 l3 (decide ((l3.length : Int) > 1500)) a0_0 a0_1 a0_2 a0_3 l0_4 a1_0 l1_1))) else (windlasslaw2_CodecBack.j0 k l2 l3 true a0_0 a0_1 a0_2 a0_3 l0_4 a1_0 l1_1)) = some r:=H
    have A13:=Aside0.mk A130
    clear A130
    by_cases c14 : t340 = true
    ·subst c14
     have H1 : (if (a1_0.size : Int) > 100 then (windlasslaw2_CodecBack.j0 k l2 l3 true a0_0 a0_1 a0_2 a0_3 l0_4 a1_0 l1_1) else (if (l2.length : Int) > 200 then (windlasslaw2_CodecBack.j0 k l2 l3 true a0_0 a0_1 a0_2 a0_3 l0_4 a1_0 l1_1) else (windlasslaw2_CodecBack.j0 k l2 l3 (decide ((l3.length : Int) > 1500)) a0_0 a0_1 a0_2 a0_3 l0_4 a1_0 l1_1))) = some r:=by rw [if_pos rfl] at H;exact H
     clear H
     have H:=H1
     clear H1
     by_cases c15 : (a1_0.size : Int) > 100
     ·rw [if_pos c15] at H
      have c15b0 : decide (100 < (a1_0.size : Int)) = true:=decide_eq_true c15
      have c15b1 : decide (100 < a1_0.size) = true:=decide_eq_true (by omega)
      clear c15
      (first|rw [c15b0]|(simp only [i64_w,i32_w];rw [c15b0])|skip)
      have H':=Aside0.mk H
      clear H
      have hnb16:=NB336_337.out
      have hnc16:=NB337_336.out
      have hcz17_0 : w10.cell? ⟨gb336,0,none⟩ = some (.int .i64 a0_0):=(blk_cell BK336.out 0).trans rfl
      have hcz17_1 : w10.cell? ⟨gb336,1,none⟩ = some (.int .i64 a0_1):=(blk_cell BK336.out 1).trans rfl
      have hcz17_2 : w10.cell? ⟨gb336,2,none⟩ = some (.string a0_2):=(blk_cell BK336.out 2).trans rfl
      have hcz17_3 : w10.cell? ⟨gb336,3,none⟩ = some (.int .i64 a0_3):=(blk_cell BK336.out 3).trans rfl
      have hcz17_4 : w10.cell? ⟨gb336,4,none⟩ = some (.slice A0_4 l0_4.length c0_4):=(blk_cell BK336.out 4).trans rfl
      have hfz17_0:=blk_frozen BK336.out 0
      have hfz17_1:=blk_frozen BK336.out 1
      have hfz17_2:=blk_frozen BK336.out 2
      have hfz17_3:=blk_frozen BK336.out 3
      have hfz17_4:=blk_frozen BK336.out 4
      go_wp2_with (first|((with_reducible refine gate_callee (f:=10) rfl ?_);refine goesL_ (some 24) rfl rfl Try.func10 (by kernel_rfl) rfl #[.agg #[.int .i64 a0_0, .int .i64 a0_1, .string a0_2, .int .i64 a0_3, .slice A0_4 l0_4.length c0_4]] rfl (by (try simp only [List.map_toArray,List.map_cons,List.map_nil]);first|done|rfl|(simp only [List.length_drop,List.length_take];rfl)|(go_simp;done)|(go_simp;simp;done)) ?_;(with_reducible refine (windlasshelp_Small.calls k a0_0 a0_1 a0_2 a0_3 _ _ l0_4 true _ ?side1 ?side2 A11.out).mono ?_);(case side1 => repeat (first|exact (Kd.C_below HR0_4.out HB.out)|(with_reducible refine Kd.C_alloc ?_ _)|(with_reducible refine Kd.C_drewN ?_ _)|(with_reducible refine Kd.C_drew ?_)));(case side2 => exact HC0_4.out);rintro e w18 ⟨rfl,hb⟩;refine ⟨_,rfl,?_⟩;have n0_:=Aside0.mk (blk_below (g:=gb336) (o := .cells #[.int .i64 a0_0, .int .i64 a0_1, .string a0_2, .int .i64 a0_3, .slice A0_4 l0_4.length c0_4] 24 (0,0)) (by (with_reducible repeat (first|refine blk_drewN ?_ _|refine blk_drew ?_|refine blk_alloc ?_ _));exact BK336.out) hb);have n1_:=Aside0.mk (blk_below (g:=gb337) (o := .cells #[.string a1_0, .slice A1_1 l1_1.length c1_1] 26 (0,0)) (by (with_reducible repeat (first|refine blk_drewN ?_ _|refine blk_drew ?_|refine blk_alloc ?_ _));exact BK337.out) hb);have n2_:=Aside0.mk (below_step (by repeat (first|(with_reducible first|exact HB.out|apply below_alloc|apply pw_below_drewN|apply below_drew1|refine below_set ?_ GE336.out|refine below_set ?_ GE337.out)|exact HB.out)) hb);clear BK336;clear BK337;clear HB;have BK336:=n0_;have BK337:=n1_;have HB:=n2_;clear n0_ n1_ n2_;(try clear hb);(try clear hb2);(try clear hk);(try clear hi);have hcz19_0 : w18.cell? ⟨gb337,0,none⟩ = some (.string a1_0):=(blk_cell BK337.out 0).trans rfl;have hcz19_1 : w18.cell? ⟨gb337,1,none⟩ = some (.slice A1_1 l1_1.length c1_1):=(blk_cell BK337.out 1).trans rfl;have hfz19_0:=blk_frozen BK337.out 0;have hfz19_1:=blk_frozen BK337.out 1)|(go_at_call 11;(with_reducible refine (windlasshelp_Smalls.calls k _ _ l1_1 true _ ?side1 ?side2 A13.out).mono ?_);(case side1 => repeat (first|exact (Kd.C_below HR1_1.out HB.out)|(with_reducible refine Kd.C_alloc ?_ _)|(with_reducible refine Kd.C_drewN ?_ _)|(with_reducible refine Kd.C_drew ?_)));(case side2 => exact HC1_1.out);rintro e w20 ⟨rfl,hb⟩;have n0_:=Aside0.mk (blk_below (g:=gb336) (o := .cells #[.int .i64 a0_0, .int .i64 a0_1, .string a0_2, .int .i64 a0_3, .slice A0_4 l0_4.length c0_4] 24 (0,0)) (by (with_reducible repeat (first|refine blk_drewN ?_ _|refine blk_drew ?_|refine blk_alloc ?_ _));exact BK336.out) hb);have n1_:=Aside0.mk (blk_below (g:=gb337) (o := .cells #[.string a1_0, .slice A1_1 l1_1.length c1_1] 26 (0,0)) (by (with_reducible repeat (first|refine blk_drewN ?_ _|refine blk_drew ?_|refine blk_alloc ?_ _));exact BK337.out) hb);have n2_:=Aside0.mk (below_step (by repeat (first|(with_reducible first|exact HB.out|apply below_alloc|apply pw_below_drewN|apply below_drew1|refine below_set ?_ GE336.out|refine below_set ?_ GE337.out)|exact HB.out)) hb);clear BK336;clear BK337;clear HB;have BK336:=n0_;have BK337:=n1_;have HB:=n2_;clear n0_ n1_ n2_;(try clear hb);(try clear hb2);(try clear hk);(try clear hi);have hcz21_0 : w20.cell? ⟨gb337,0,none⟩ = some (.string a1_0):=(blk_cell BK337.out 0).trans rfl;have hcz21_1 : w20.cell? ⟨gb337,1,none⟩ = some (.slice A1_1 l1_1.length c1_1):=(blk_cell BK337.out 1).trans rfl;have hfz21_0:=blk_frozen BK337.out 0;have hfz21_1:=blk_frozen BK337.out 1))
      go_meet
      case rel => exact ⟨_,(true),(by first|rfl|(simp;done)|(simp [*];done)),H',⟨by first|omega|exact Nat.le_refl _⟩,⟨by (with_reducible repeat (first|refine blk_drewN ?_ _|refine blk_drew ?_|refine blk_alloc ?_ _));exact BK336.out⟩,⟨by (with_reducible repeat (first|refine blk_drewN ?_ _|refine blk_drew ?_|refine blk_alloc ?_ _));exact BK337.out⟩,⟨by repeat (first|(with_reducible first|exact HB.out|apply below_alloc|apply pw_below_drewN|apply below_drew1|refine below_set ?_ GE336.out|refine below_set ?_ GE337.out)|exact HB.out)⟩⟩
     ·rw [if_neg c15] at H
      have c15b0 : decide (100 < (a1_0.size : Int)) = false:=decide_eq_false c15
      have c15b1 : decide (100 < a1_0.size) = false:=decide_eq_false (by omega)
      clear c15
      (first|rw [c15b0]|(simp only [i64_w,i32_w];rw [c15b0])|skip)
      by_cases c22 : (l2.length : Int) > 200
      ·rw [if_pos c22] at H
       have c22b0 : decide (200 < (l2.length : Int)) = true:=decide_eq_true c22
       have c22b1 : decide (200 < l2.length) = true:=decide_eq_true (by omega)
       clear c22
       have H':=Aside0.mk H
       clear H
       have hnb23:=NB336_337.out
       have hnc23:=NB337_336.out
       have hcz24_0 : w10.cell? ⟨gb336,0,none⟩ = some (.int .i64 a0_0):=(blk_cell BK336.out 0).trans rfl
       have hcz24_1 : w10.cell? ⟨gb336,1,none⟩ = some (.int .i64 a0_1):=(blk_cell BK336.out 1).trans rfl
       have hcz24_2 : w10.cell? ⟨gb336,2,none⟩ = some (.string a0_2):=(blk_cell BK336.out 2).trans rfl
       have hcz24_3 : w10.cell? ⟨gb336,3,none⟩ = some (.int .i64 a0_3):=(blk_cell BK336.out 3).trans rfl
       have hcz24_4 : w10.cell? ⟨gb336,4,none⟩ = some (.slice A0_4 l0_4.length c0_4):=(blk_cell BK336.out 4).trans rfl
       have hfz24_0:=blk_frozen BK336.out 0
       have hfz24_1:=blk_frozen BK336.out 1
       have hfz24_2:=blk_frozen BK336.out 2
       have hfz24_3:=blk_frozen BK336.out 3
       have hfz24_4:=blk_frozen BK336.out 4
       go_wp2_with (first|((with_reducible refine gate_callee (f:=10) rfl ?_);refine goesL_ (some 24) rfl rfl Try.func10 (by kernel_rfl) rfl #[.agg #[.int .i64 a0_0, .int .i64 a0_1, .string a0_2, .int .i64 a0_3, .slice A0_4 l0_4.length c0_4]] rfl (by (try simp only [List.map_toArray,List.map_cons,List.map_nil]);first|done|rfl|(simp only [List.length_drop,List.length_take];rfl)|(go_simp;done)|(go_simp;simp;done)) ?_;(with_reducible refine (windlasshelp_Small.calls k a0_0 a0_1 a0_2 a0_3 _ _ l0_4 true _ ?side1 ?side2 A11.out).mono ?_);(case side1 => repeat (first|exact (Kd.C_below HR0_4.out HB.out)|(with_reducible refine Kd.C_alloc ?_ _)|(with_reducible refine Kd.C_drewN ?_ _)|(with_reducible refine Kd.C_drew ?_)));(case side2 => exact HC0_4.out);rintro e w25 ⟨rfl,hb⟩;refine ⟨_,rfl,?_⟩;have n0_:=Aside0.mk (blk_below (g:=gb336) (o := .cells #[.int .i64 a0_0, .int .i64 a0_1, .string a0_2, .int .i64 a0_3, .slice A0_4 l0_4.length c0_4] 24 (0,0)) (by (with_reducible repeat (first|refine blk_drewN ?_ _|refine blk_drew ?_|refine blk_alloc ?_ _));exact BK336.out) hb);have n1_:=Aside0.mk (blk_below (g:=gb337) (o := .cells #[.string a1_0, .slice A1_1 l1_1.length c1_1] 26 (0,0)) (by (with_reducible repeat (first|refine blk_drewN ?_ _|refine blk_drew ?_|refine blk_alloc ?_ _));exact BK337.out) hb);have n2_:=Aside0.mk (below_step (by repeat (first|(with_reducible first|exact HB.out|apply below_alloc|apply pw_below_drewN|apply below_drew1|refine below_set ?_ GE336.out|refine below_set ?_ GE337.out)|exact HB.out)) hb);clear BK336;clear BK337;clear HB;have BK336:=n0_;have BK337:=n1_;have HB:=n2_;clear n0_ n1_ n2_;(try clear hb);(try clear hb2);(try clear hk);(try clear hi);have hcz26_0 : w25.cell? ⟨gb337,0,none⟩ = some (.string a1_0):=(blk_cell BK337.out 0).trans rfl;have hcz26_1 : w25.cell? ⟨gb337,1,none⟩ = some (.slice A1_1 l1_1.length c1_1):=(blk_cell BK337.out 1).trans rfl;have hfz26_0:=blk_frozen BK337.out 0;have hfz26_1:=blk_frozen BK337.out 1)|(go_at_call 11;(with_reducible refine (windlasshelp_Smalls.calls k _ _ l1_1 true _ ?side1 ?side2 A13.out).mono ?_);(case side1 => repeat (first|exact (Kd.C_below HR1_1.out HB.out)|(with_reducible refine Kd.C_alloc ?_ _)|(with_reducible refine Kd.C_drewN ?_ _)|(with_reducible refine Kd.C_drew ?_)));(case side2 => exact HC1_1.out);rintro e w27 ⟨rfl,hb⟩;have n0_:=Aside0.mk (blk_below (g:=gb336) (o := .cells #[.int .i64 a0_0, .int .i64 a0_1, .string a0_2, .int .i64 a0_3, .slice A0_4 l0_4.length c0_4] 24 (0,0)) (by (with_reducible repeat (first|refine blk_drewN ?_ _|refine blk_drew ?_|refine blk_alloc ?_ _));exact BK336.out) hb);have n1_:=Aside0.mk (blk_below (g:=gb337) (o := .cells #[.string a1_0, .slice A1_1 l1_1.length c1_1] 26 (0,0)) (by (with_reducible repeat (first|refine blk_drewN ?_ _|refine blk_drew ?_|refine blk_alloc ?_ _));exact BK337.out) hb);have n2_:=Aside0.mk (below_step (by repeat (first|(with_reducible first|exact HB.out|apply below_alloc|apply pw_below_drewN|apply below_drew1|refine below_set ?_ GE336.out|refine below_set ?_ GE337.out)|exact HB.out)) hb);clear BK336;clear BK337;clear HB;have BK336:=n0_;have BK337:=n1_;have HB:=n2_;clear n0_ n1_ n2_;(try clear hb);(try clear hb2);(try clear hk);(try clear hi);have hcz28_0 : w27.cell? ⟨gb337,0,none⟩ = some (.string a1_0):=(blk_cell BK337.out 0).trans rfl;have hcz28_1 : w27.cell? ⟨gb337,1,none⟩ = some (.slice A1_1 l1_1.length c1_1):=(blk_cell BK337.out 1).trans rfl;have hfz28_0:=blk_frozen BK337.out 0;have hfz28_1:=blk_frozen BK337.out 1))
       go_meet
       case rel => exact ⟨_,(true),(by first|rfl|(simp;done)|(simp [*];done)),H',⟨by first|omega|exact Nat.le_refl _⟩,⟨by (with_reducible repeat (first|refine blk_drewN ?_ _|refine blk_drew ?_|refine blk_alloc ?_ _));exact BK336.out⟩,⟨by (with_reducible repeat (first|refine blk_drewN ?_ _|refine blk_drew ?_|refine blk_alloc ?_ _));exact BK337.out⟩,⟨by repeat (first|(with_reducible first|exact HB.out|apply below_alloc|apply pw_below_drewN|apply below_drew1|refine below_set ?_ GE336.out|refine below_set ?_ GE337.out)|exact HB.out)⟩⟩
      ·rw [if_neg c22] at H
       have c22b0 : decide (200 < (l2.length : Int)) = false:=decide_eq_false c22
       have c22b1 : decide (200 < l2.length) = false:=decide_eq_false (by omega)
       clear c22
       have H':=Aside0.mk H
       clear H
       have hnb29:=NB336_337.out
       have hnc29:=NB337_336.out
       have hcz30_0 : w10.cell? ⟨gb336,0,none⟩ = some (.int .i64 a0_0):=(blk_cell BK336.out 0).trans rfl
       have hcz30_1 : w10.cell? ⟨gb336,1,none⟩ = some (.int .i64 a0_1):=(blk_cell BK336.out 1).trans rfl
       have hcz30_2 : w10.cell? ⟨gb336,2,none⟩ = some (.string a0_2):=(blk_cell BK336.out 2).trans rfl
       have hcz30_3 : w10.cell? ⟨gb336,3,none⟩ = some (.int .i64 a0_3):=(blk_cell BK336.out 3).trans rfl
       have hcz30_4 : w10.cell? ⟨gb336,4,none⟩ = some (.slice A0_4 l0_4.length c0_4):=(blk_cell BK336.out 4).trans rfl
       have hfz30_0:=blk_frozen BK336.out 0
       have hfz30_1:=blk_frozen BK336.out 1
       have hfz30_2:=blk_frozen BK336.out 2
       have hfz30_3:=blk_frozen BK336.out 3
       have hfz30_4:=blk_frozen BK336.out 4
       go_wp2_with (first|((with_reducible refine gate_callee (f:=10) rfl ?_);refine goesL_ (some 24) rfl rfl Try.func10 (by kernel_rfl) rfl #[.agg #[.int .i64 a0_0, .int .i64 a0_1, .string a0_2, .int .i64 a0_3, .slice A0_4 l0_4.length c0_4]] rfl (by (try simp only [List.map_toArray,List.map_cons,List.map_nil]);first|done|rfl|(simp only [List.length_drop,List.length_take];rfl)|(go_simp;done)|(go_simp;simp;done)) ?_;(with_reducible refine (windlasshelp_Small.calls k a0_0 a0_1 a0_2 a0_3 _ _ l0_4 true _ ?side1 ?side2 A11.out).mono ?_);(case side1 => repeat (first|exact (Kd.C_below HR0_4.out HB.out)|(with_reducible refine Kd.C_alloc ?_ _)|(with_reducible refine Kd.C_drewN ?_ _)|(with_reducible refine Kd.C_drew ?_)));(case side2 => exact HC0_4.out);rintro e w31 ⟨rfl,hb⟩;refine ⟨_,rfl,?_⟩;have n0_:=Aside0.mk (blk_below (g:=gb336) (o := .cells #[.int .i64 a0_0, .int .i64 a0_1, .string a0_2, .int .i64 a0_3, .slice A0_4 l0_4.length c0_4] 24 (0,0)) (by (with_reducible repeat (first|refine blk_drewN ?_ _|refine blk_drew ?_|refine blk_alloc ?_ _));exact BK336.out) hb);have n1_:=Aside0.mk (blk_below (g:=gb337) (o := .cells #[.string a1_0, .slice A1_1 l1_1.length c1_1] 26 (0,0)) (by (with_reducible repeat (first|refine blk_drewN ?_ _|refine blk_drew ?_|refine blk_alloc ?_ _));exact BK337.out) hb);have n2_:=Aside0.mk (below_step (by repeat (first|(with_reducible first|exact HB.out|apply below_alloc|apply pw_below_drewN|apply below_drew1|refine below_set ?_ GE336.out|refine below_set ?_ GE337.out)|exact HB.out)) hb);clear BK336;clear BK337;clear HB;have BK336:=n0_;have BK337:=n1_;have HB:=n2_;clear n0_ n1_ n2_;(try clear hb);(try clear hb2);(try clear hk);(try clear hi);have hcz32_0 : w31.cell? ⟨gb337,0,none⟩ = some (.string a1_0):=(blk_cell BK337.out 0).trans rfl;have hcz32_1 : w31.cell? ⟨gb337,1,none⟩ = some (.slice A1_1 l1_1.length c1_1):=(blk_cell BK337.out 1).trans rfl;have hfz32_0:=blk_frozen BK337.out 0;have hfz32_1:=blk_frozen BK337.out 1)|(go_at_call 11;(with_reducible refine (windlasshelp_Smalls.calls k _ _ l1_1 true _ ?side1 ?side2 A13.out).mono ?_);(case side1 => repeat (first|exact (Kd.C_below HR1_1.out HB.out)|(with_reducible refine Kd.C_alloc ?_ _)|(with_reducible refine Kd.C_drewN ?_ _)|(with_reducible refine Kd.C_drew ?_)));(case side2 => exact HC1_1.out);rintro e w33 ⟨rfl,hb⟩;have n0_:=Aside0.mk (blk_below (g:=gb336) (o := .cells #[.int .i64 a0_0, .int .i64 a0_1, .string a0_2, .int .i64 a0_3, .slice A0_4 l0_4.length c0_4] 24 (0,0)) (by (with_reducible repeat (first|refine blk_drewN ?_ _|refine blk_drew ?_|refine blk_alloc ?_ _));exact BK336.out) hb);have n1_:=Aside0.mk (blk_below (g:=gb337) (o := .cells #[.string a1_0, .slice A1_1 l1_1.length c1_1] 26 (0,0)) (by (with_reducible repeat (first|refine blk_drewN ?_ _|refine blk_drew ?_|refine blk_alloc ?_ _));exact BK337.out) hb);have n2_:=Aside0.mk (below_step (by repeat (first|(with_reducible first|exact HB.out|apply below_alloc|apply pw_below_drewN|apply below_drew1|refine below_set ?_ GE336.out|refine below_set ?_ GE337.out)|exact HB.out)) hb);clear BK336;clear BK337;clear HB;have BK336:=n0_;have BK337:=n1_;have HB:=n2_;clear n0_ n1_ n2_;(try clear hb);(try clear hb2);(try clear hk);(try clear hi);have hcz34_0 : w33.cell? ⟨gb337,0,none⟩ = some (.string a1_0):=(blk_cell BK337.out 0).trans rfl;have hcz34_1 : w33.cell? ⟨gb337,1,none⟩ = some (.slice A1_1 l1_1.length c1_1):=(blk_cell BK337.out 1).trans rfl;have hfz34_0:=blk_frozen BK337.out 0;have hfz34_1:=blk_frozen BK337.out 1))
       go_meet
       case rel => exact ⟨_,(decide ((l3.length : Int) > 1500)),(by first|rfl|(simp;done)|(simp [*];done)),H',⟨by first|omega|exact Nat.le_refl _⟩,⟨by (with_reducible repeat (first|refine blk_drewN ?_ _|refine blk_drew ?_|refine blk_alloc ?_ _));exact BK336.out⟩,⟨by (with_reducible repeat (first|refine blk_drewN ?_ _|refine blk_drew ?_|refine blk_alloc ?_ _));exact BK337.out⟩,⟨by repeat (first|(with_reducible first|exact HB.out|apply below_alloc|apply pw_below_drewN|apply below_drew1|refine below_set ?_ GE336.out|refine below_set ?_ GE337.out)|exact HB.out)⟩⟩
    ·replace c14:=Bool.eq_false_iff.mpr c14
     subst c14
     have H1 : (windlasslaw2_CodecBack.j0 k l2 l3 true a0_0 a0_1 a0_2 a0_3 l0_4 a1_0 l1_1) = some r:=by rw [if_neg (show ¬ (false = true) by decide)] at H;exact H
     clear H
     have H:=H1
     clear H1
     have H':=Aside0.mk H
     clear H
     have hnb35:=NB336_337.out
     have hnc35:=NB337_336.out
     have hcz36_0 : w10.cell? ⟨gb336,0,none⟩ = some (.int .i64 a0_0):=(blk_cell BK336.out 0).trans rfl
     have hcz36_1 : w10.cell? ⟨gb336,1,none⟩ = some (.int .i64 a0_1):=(blk_cell BK336.out 1).trans rfl
     have hcz36_2 : w10.cell? ⟨gb336,2,none⟩ = some (.string a0_2):=(blk_cell BK336.out 2).trans rfl
     have hcz36_3 : w10.cell? ⟨gb336,3,none⟩ = some (.int .i64 a0_3):=(blk_cell BK336.out 3).trans rfl
     have hcz36_4 : w10.cell? ⟨gb336,4,none⟩ = some (.slice A0_4 l0_4.length c0_4):=(blk_cell BK336.out 4).trans rfl
     have hfz36_0:=blk_frozen BK336.out 0
     have hfz36_1:=blk_frozen BK336.out 1
     have hfz36_2:=blk_frozen BK336.out 2
     have hfz36_3:=blk_frozen BK336.out 3
     have hfz36_4:=blk_frozen BK336.out 4
     go_wp2_with (first|((with_reducible refine gate_callee (f:=10) rfl ?_);refine goesL_ (some 24) rfl rfl Try.func10 (by kernel_rfl) rfl #[.agg #[.int .i64 a0_0, .int .i64 a0_1, .string a0_2, .int .i64 a0_3, .slice A0_4 l0_4.length c0_4]] rfl (by (try simp only [List.map_toArray,List.map_cons,List.map_nil]);first|done|rfl|(simp only [List.length_drop,List.length_take];rfl)|(go_simp;done)|(go_simp;simp;done)) ?_;(with_reducible refine (windlasshelp_Small.calls k a0_0 a0_1 a0_2 a0_3 _ _ l0_4 true _ ?side1 ?side2 A11.out).mono ?_);(case side1 => repeat (first|exact (Kd.C_below HR0_4.out HB.out)|(with_reducible refine Kd.C_alloc ?_ _)|(with_reducible refine Kd.C_drewN ?_ _)|(with_reducible refine Kd.C_drew ?_)));(case side2 => exact HC0_4.out);rintro e w37 ⟨rfl,hb⟩;refine ⟨_,rfl,?_⟩;have n0_:=Aside0.mk (blk_below (g:=gb336) (o := .cells #[.int .i64 a0_0, .int .i64 a0_1, .string a0_2, .int .i64 a0_3, .slice A0_4 l0_4.length c0_4] 24 (0,0)) (by (with_reducible repeat (first|refine blk_drewN ?_ _|refine blk_drew ?_|refine blk_alloc ?_ _));exact BK336.out) hb);have n1_:=Aside0.mk (blk_below (g:=gb337) (o := .cells #[.string a1_0, .slice A1_1 l1_1.length c1_1] 26 (0,0)) (by (with_reducible repeat (first|refine blk_drewN ?_ _|refine blk_drew ?_|refine blk_alloc ?_ _));exact BK337.out) hb);have n2_:=Aside0.mk (below_step (by repeat (first|(with_reducible first|exact HB.out|apply below_alloc|apply pw_below_drewN|apply below_drew1|refine below_set ?_ GE336.out|refine below_set ?_ GE337.out)|exact HB.out)) hb);clear BK336;clear BK337;clear HB;have BK336:=n0_;have BK337:=n1_;have HB:=n2_;clear n0_ n1_ n2_;(try clear hb);(try clear hb2);(try clear hk);(try clear hi);have hcz38_0 : w37.cell? ⟨gb337,0,none⟩ = some (.string a1_0):=(blk_cell BK337.out 0).trans rfl;have hcz38_1 : w37.cell? ⟨gb337,1,none⟩ = some (.slice A1_1 l1_1.length c1_1):=(blk_cell BK337.out 1).trans rfl;have hfz38_0:=blk_frozen BK337.out 0;have hfz38_1:=blk_frozen BK337.out 1)|(go_at_call 11;(with_reducible refine (windlasshelp_Smalls.calls k _ _ l1_1 false _ ?side1 ?side2 A13.out).mono ?_);(case side1 => repeat (first|exact (Kd.C_below HR1_1.out HB.out)|(with_reducible refine Kd.C_alloc ?_ _)|(with_reducible refine Kd.C_drewN ?_ _)|(with_reducible refine Kd.C_drew ?_)));(case side2 => exact HC1_1.out);rintro e w39 ⟨rfl,hb⟩;have n0_:=Aside0.mk (blk_below (g:=gb336) (o := .cells #[.int .i64 a0_0, .int .i64 a0_1, .string a0_2, .int .i64 a0_3, .slice A0_4 l0_4.length c0_4] 24 (0,0)) (by (with_reducible repeat (first|refine blk_drewN ?_ _|refine blk_drew ?_|refine blk_alloc ?_ _));exact BK336.out) hb);have n1_:=Aside0.mk (blk_below (g:=gb337) (o := .cells #[.string a1_0, .slice A1_1 l1_1.length c1_1] 26 (0,0)) (by (with_reducible repeat (first|refine blk_drewN ?_ _|refine blk_drew ?_|refine blk_alloc ?_ _));exact BK337.out) hb);have n2_:=Aside0.mk (below_step (by repeat (first|(with_reducible first|exact HB.out|apply below_alloc|apply pw_below_drewN|apply below_drew1|refine below_set ?_ GE336.out|refine below_set ?_ GE337.out)|exact HB.out)) hb);clear BK336;clear BK337;clear HB;have BK336:=n0_;have BK337:=n1_;have HB:=n2_;clear n0_ n1_ n2_;(try clear hb);(try clear hb2);(try clear hk);(try clear hi)))
     go_meet
     case rel => exact ⟨_,(true),(by first|rfl|(simp;done)|(simp [*];done)),H',⟨by first|omega|exact Nat.le_refl _⟩,⟨by (with_reducible repeat (first|refine blk_drewN ?_ _|refine blk_drew ?_|refine blk_alloc ?_ _));exact BK336.out⟩,⟨by (with_reducible repeat (first|refine blk_drewN ?_ _|refine blk_drew ?_|refine blk_alloc ?_ _));exact BK337.out⟩,⟨by repeat (first|(with_reducible first|exact HB.out|apply below_alloc|apply pw_below_drewN|apply below_drew1|refine below_set ?_ GE336.out|refine below_set ?_ GE337.out)|exact HB.out)⟩⟩
   ·replace c12:=Bool.eq_false_iff.mpr c12
    subst c12
    have H1 : (windlasslaw2_CodecBack.j0 k l2 l3 true a0_0 a0_1 a0_2 a0_3 l0_4 a1_0 l1_1) = some r:=by rw [if_neg (show ¬ (false = true) by decide)] at H;exact H
    clear H
    have H:=H1
    clear H1
    have H':=Aside0.mk H
    clear H
    have hnb40:=NB336_337.out
    have hnc40:=NB337_336.out
    have hcz41_0 : w10.cell? ⟨gb336,0,none⟩ = some (.int .i64 a0_0):=(blk_cell BK336.out 0).trans rfl
    have hcz41_1 : w10.cell? ⟨gb336,1,none⟩ = some (.int .i64 a0_1):=(blk_cell BK336.out 1).trans rfl
    have hcz41_2 : w10.cell? ⟨gb336,2,none⟩ = some (.string a0_2):=(blk_cell BK336.out 2).trans rfl
    have hcz41_3 : w10.cell? ⟨gb336,3,none⟩ = some (.int .i64 a0_3):=(blk_cell BK336.out 3).trans rfl
    have hcz41_4 : w10.cell? ⟨gb336,4,none⟩ = some (.slice A0_4 l0_4.length c0_4):=(blk_cell BK336.out 4).trans rfl
    have hfz41_0:=blk_frozen BK336.out 0
    have hfz41_1:=blk_frozen BK336.out 1
    have hfz41_2:=blk_frozen BK336.out 2
    have hfz41_3:=blk_frozen BK336.out 3
    have hfz41_4:=blk_frozen BK336.out 4
    go_wp2_with (first|((with_reducible refine gate_callee (f:=10) rfl ?_);refine goesL_ (some 24) rfl rfl Try.func10 (by kernel_rfl) rfl #[.agg #[.int .i64 a0_0, .int .i64 a0_1, .string a0_2, .int .i64 a0_3, .slice A0_4 l0_4.length c0_4]] rfl (by (try simp only [List.map_toArray,List.map_cons,List.map_nil]);first|done|rfl|(simp only [List.length_drop,List.length_take];rfl)|(go_simp;done)|(go_simp;simp;done)) ?_;(with_reducible refine (windlasshelp_Small.calls k a0_0 a0_1 a0_2 a0_3 _ _ l0_4 false _ ?side1 ?side2 A11.out).mono ?_);(case side1 => repeat (first|exact (Kd.C_below HR0_4.out HB.out)|(with_reducible refine Kd.C_alloc ?_ _)|(with_reducible refine Kd.C_drewN ?_ _)|(with_reducible refine Kd.C_drew ?_)));(case side2 => exact HC0_4.out);rintro e w42 ⟨rfl,hb⟩;refine ⟨_,rfl,?_⟩;have n0_:=Aside0.mk (blk_below (g:=gb336) (o := .cells #[.int .i64 a0_0, .int .i64 a0_1, .string a0_2, .int .i64 a0_3, .slice A0_4 l0_4.length c0_4] 24 (0,0)) (by (with_reducible repeat (first|refine blk_drewN ?_ _|refine blk_drew ?_|refine blk_alloc ?_ _));exact BK336.out) hb);have n1_:=Aside0.mk (blk_below (g:=gb337) (o := .cells #[.string a1_0, .slice A1_1 l1_1.length c1_1] 26 (0,0)) (by (with_reducible repeat (first|refine blk_drewN ?_ _|refine blk_drew ?_|refine blk_alloc ?_ _));exact BK337.out) hb);have n2_:=Aside0.mk (below_step (by repeat (first|(with_reducible first|exact HB.out|apply below_alloc|apply pw_below_drewN|apply below_drew1|refine below_set ?_ GE336.out|refine below_set ?_ GE337.out)|exact HB.out)) hb);clear BK336;clear BK337;clear HB;have BK336:=n0_;have BK337:=n1_;have HB:=n2_;clear n0_ n1_ n2_;(try clear hb);(try clear hb2);(try clear hk);(try clear hi)))
    go_meet
    case rel => exact ⟨_,(true),(by first|rfl|(simp;done)|(simp [*];done)),H',⟨by first|omega|exact Nat.le_refl _⟩,⟨by (with_reducible repeat (first|refine blk_drewN ?_ _|refine blk_drew ?_|refine blk_alloc ?_ _));exact BK336.out⟩,⟨by (with_reducible repeat (first|refine blk_drewN ?_ _|refine blk_drew ?_|refine blk_alloc ?_ _));exact BK337.out⟩,⟨by repeat (first|(with_reducible first|exact HB.out|apply below_alloc|apply pw_below_drewN|apply below_drew1|refine below_set ?_ GE336.out|refine below_set ?_ GE337.out)|exact HB.out)⟩⟩
  case rest =>
   clear HC7
   try clear c1
   try clear c2
   try clear p2
   try clear c3
   try clear c4
   try clear c6
   try clear c8
   try clear c9
   try clear c10
   try clear c12
   try clear c14
   try clear c15
   try clear c15b0
   try clear c15b1
   try clear c16
   try clear c22
   try clear c22b0
   try clear c22b1
   try clear c23
   try clear c29
   try clear c35
   try clear c40
   try clear hcz17_0
   try clear hcz17_1
   try clear hcz17_2
   try clear hcz17_3
   try clear hcz17_4
   try clear hcz19_0
   try clear hcz19_1
   try clear hcz21_0
   try clear hcz21_1
   try clear hcz24_0
   try clear hcz24_1
   try clear hcz24_2
   try clear hcz24_3
   try clear hcz24_4
   try clear hcz26_0
   try clear hcz26_1
   try clear hcz28_0
   try clear hcz28_1
   try clear hcz30_0
   try clear hcz30_1
   try clear hcz30_2
   try clear hcz30_3
   try clear hcz30_4
   try clear hcz32_0
   try clear hcz32_1
   try clear hcz34_0
   try clear hcz34_1
   try clear hcz36_0
   try clear hcz36_1
   try clear hcz36_2
   try clear hcz36_3
   try clear hcz36_4
   try clear hcz38_0
   try clear hcz38_1
   try clear hcz41_0
   try clear hcz41_1
   try clear hcz41_2
   try clear hcz41_3
   try clear hcz41_4
   try clear hfz17_0
   try clear hfz17_1
   try clear hfz17_2
   try clear hfz17_3
   try clear hfz17_4
   try clear hfz19_0
   try clear hfz19_1
   try clear hfz21_0
   try clear hfz21_1
   try clear hfz24_0
   try clear hfz24_1
   try clear hfz24_2
   try clear hfz24_3
   try clear hfz24_4
   try clear hfz26_0
   try clear hfz26_1
   try clear hfz28_0
   try clear hfz28_1
   try clear hfz30_0
   try clear hfz30_1
   try clear hfz30_2
   try clear hfz30_3
   try clear hfz30_4
   try clear hfz32_0
   try clear hfz32_1
   try clear hfz34_0
   try clear hfz34_1
   try clear hfz36_0
   try clear hfz36_1
   try clear hfz36_2
   try clear hfz36_3
   try clear hfz36_4
   try clear hfz38_0
   try clear hfz38_1
   try clear hfz41_0
   try clear hfz41_1
   try clear hfz41_2
   try clear hfz41_3
   try clear hfz41_4
   obtain ⟨kq,x47_6,rfl,HA,HJ6,BK336,BK337,HB⟩:=hcut
   cases kq with
   | zero => exact absurd HA.out (by simp [windlasslaw2_CodecBack.j0])
   | succ kj6 =>
    have H:=HA.out
    clear HA
    simp only [windlasslaw2_CodecBack.j0] at H
    by_cases c43 : x47_6 = true
    ·subst c43
     have H1 : (some true) = some r:=by rw [if_pos rfl] at H;exact H
     clear H
     have H:=H1
     clear H1
     obtain rfl:=Option.some.inj H
     go_wp2
     go_ret
     exact ⟨by first|rfl|(simp [errW_none,errW_some] <;> rfl)|(simp [*,errW_none,errW_some] <;> rfl),by repeat (first|(with_reducible first|exact HB.out|apply below_alloc|apply pw_below_drewN|apply below_drew1|refine below_set ?_ GE336.out|refine below_set ?_ GE337.out)|exact HB.out)⟩
    ·replace c43:=Bool.eq_false_iff.mpr c43
     subst c43
     have H1 : ((codec_PutValue.f kj6 a0_0 a0_1 a0_2 a0_3 l0_4).bind fun bt341 => (if bt341.2 = 0 then (if ([] : List Int).length + bt341.1.length < 140737488355328 then ((some (([] : List Int) ++ bt341.1 : List Int)).bind fun y345 => (if y345.length + l2.length < 140737488355328 then ((codec_Value.f kj6 (y345 ++ l2)).bind fun bt351 => (if bt351.2.2.2.2.2.2 = 0 then (if bt351.2.2.2.2.2.1 = (bt341.1.length : Int) then ((windlassref3_Same.f kj6 a0_0 a0_1 a0_2 a0_3 l0_4 bt351.1 bt351.2.1 bt351.2.2.1 bt351.2.2.2.1 bt351.2.2.2.2.1).bind fun t361 => (windlasslaw2_CodecBack.j1 kj6 l2 l3 (!t361) a1_0 l1_1)) else (windlasslaw2_CodecBack.j1 kj6 l2 l3 true a1_0 l1_1)) else (windlasslaw2_CodecBack.j1 kj6 l2 l3 true a1_0 l1_1))) else (none))) else (none)) else (windlasslaw2_CodecBack.j2 kj6 l2 l3 a1_0 l1_1))) = some r:=by rw [if_neg (show ¬ (false = true) by decide)] at H;exact H
     clear H
     have H:=H1
     clear H1
     replace H:=Option.bind_eq_some_iff.mp H
     obtain ⟨⟨t341,t344⟩,A440,H⟩:=H
     replace H : (if t344 = 0 then (if ([] : List Int).length + t341.length < 140737488355328 then ((some (([] : List Int) ++ t341 : List Int)).bind fun y345 => (if y345.length + l2.length < 140737488355328 then ((codec_Value.f kj6 (y345 ++ l2)).bind fun bt351 => (if bt351.2.2.2.2.2.2 = 0 then (if bt351.2.2.2.2.2.1 = (t341.length : Int) then ((windlassref3_Same.f kj6 a0_0 a0_1 a0_2 a0_3 l0_4 bt351.1 bt351.2.1 bt351.2.2.1 bt351.2.2.2.1 bt351.2.2.2.2.1).bind fun t361 => (windlasslaw2_CodecBack.j1 kj6 l2 l3 (!t361) a1_0 l1_1)) else (windlasslaw2_CodecBack.j1 kj6 l2 l3 true a1_0 l1_1)) else (windlasslaw2_CodecBack.j1 kj6 l2 l3 true a1_0 l1_1))) else (none))) else (none)) else (windlasslaw2_CodecBack.j2 kj6 l2 l3 a1_0 l1_1)) = some r:=H
     have A44:=Aside0.mk A440
     clear A440
     have HC45:=Aside0.mk H
     clear H
     have hnb46:=NB336_337.out
     have hnc46:=NB337_336.out
     have hcz47_0 : wc.cell? ⟨gb336,0,none⟩ = some (.int .i64 a0_0):=(blk_cell BK336.out 0).trans rfl
     have hcz47_1 : wc.cell? ⟨gb336,1,none⟩ = some (.int .i64 a0_1):=(blk_cell BK336.out 1).trans rfl
     have hcz47_2 : wc.cell? ⟨gb336,2,none⟩ = some (.string a0_2):=(blk_cell BK336.out 2).trans rfl
     have hcz47_3 : wc.cell? ⟨gb336,3,none⟩ = some (.int .i64 a0_3):=(blk_cell BK336.out 3).trans rfl
     have hcz47_4 : wc.cell? ⟨gb336,4,none⟩ = some (.slice A0_4 l0_4.length c0_4):=(blk_cell BK336.out 4).trans rfl
     have hfz47_0:=blk_frozen BK336.out 0
     have hfz47_1:=blk_frozen BK336.out 1
     have hfz47_2:=blk_frozen BK336.out 2
     have hfz47_3:=blk_frozen BK336.out 3
     have hfz47_4:=blk_frozen BK336.out 4
     go_upto_if 54 with (first|((with_reducible refine gate_callee (f:=12) rfl ?_);refine goesL_ (some 50) rfl rfl Try.func12 (by kernel_rfl) rfl #[.agg #[.int .i64 a0_0, .int .i64 a0_1, .string a0_2, .int .i64 a0_3, .slice A0_4 l0_4.length c0_4]] rfl (by (try simp only [List.map_toArray,List.map_cons,List.map_nil]);first|done|rfl|(simp only [List.length_drop,List.length_take];rfl)|(go_simp;done)|(go_simp;simp;done)) ?_;(with_reducible refine (codec_PutValue.calls kj6 a0_0 a0_1 a0_2 a0_3 _ _ l0_4 t341 t344 _ ?side1 ?side2 A44.out).mono ?_);(case side1 => repeat (first|exact (Kd.C_below HR0_4.out HB.out)|(with_reducible refine Kd.C_alloc ?_ _)|(with_reducible refine Kd.C_drewN ?_ _)|(with_reducible refine Kd.C_drew ?_)));(case side2 => exact HC0_4.out);rintro e w48 ⟨v342,rfl,ho0,hb⟩;refine ⟨_,rfl,?_⟩;have n0_:=Aside0.mk (Kd.R_lower ho0 (below_size (by repeat (first|(with_reducible first|exact HB.out|apply below_alloc|apply pw_below_drewN|apply below_drew1|refine below_set ?_ GE336.out|refine below_set ?_ GE337.out)|exact HB.out))));have n1_:=Aside0.mk (blk_below (g:=gb336) (o := .cells #[.int .i64 a0_0, .int .i64 a0_1, .string a0_2, .int .i64 a0_3, .slice A0_4 l0_4.length c0_4] 24 (0,0)) (by (with_reducible repeat (first|refine blk_drewN ?_ _|refine blk_drew ?_|refine blk_alloc ?_ _));exact BK336.out) hb);have n2_:=Aside0.mk (blk_below (g:=gb337) (o := .cells #[.string a1_0, .slice A1_1 l1_1.length c1_1] 26 (0,0)) (by (with_reducible repeat (first|refine blk_drewN ?_ _|refine blk_drew ?_|refine blk_alloc ?_ _));exact BK337.out) hb);have n3_:=Aside0.mk (below_step (by repeat (first|(with_reducible first|exact HB.out|apply below_alloc|apply pw_below_drewN|apply below_drew1|refine below_set ?_ GE336.out|refine below_set ?_ GE337.out)|exact HB.out)) hb);clear BK336;clear BK337;clear HB;have HO343:=n0_;have BK336:=n1_;have BK337:=n2_;have HB:=n3_;clear n0_ n1_ n2_ n3_;(try clear hb);(try clear hb2);(try clear hk);(try clear hi);(try clear ho0)))
     (try simp only [Act.put,List.setIfInBounds_toArray,List.set_cons_zero,List.set_cons_succ])
     go_cut [] (fun wc => ∃ (kq : Nat),Aside0 (windlasslaw2_CodecBack.j2 kq l2 l3 a1_0 l1_1 = some r) ∧ Aside0 (kq ≤ kj6) ∧ Aside0 (wc.heap[gb336]? = some (.cells #[.int .i64 a0_0, .int .i64 a0_1, .string a0_2, .int .i64 a0_3,(.slice A0_4 l0_4.length c0_4)] 24 (0,0))) ∧ Aside0 (wc.heap[gb337]? = some (.cells #[.string a1_0,(.slice A1_1 l1_1.length c1_1)] 26 (0,0))) ∧ Aside0 (Below w.heap.size w wc))
     case first =>
      have H:=HC45.out
      clear HC45
      by_cases c49 : t344 = 0
      ·rw [if_pos c49] at H
       have c49b0 : (t344 == 0) = true:=beq_iff_eq.mpr c49
       have c49b1 : (t344 != 0) = false:=bne_eq_false_iff_eq.mpr c49
       clear c49
       (first|rw [c49b0]|(simp only [i64_w,i32_w];rw [c49b0])|skip)
       by_cases c50 : ([] : List Int).length + t341.length < 140737488355328
       ·rw [if_pos c50] at H
        have LMc50:=Aside0.mk c50
        clear c50
        obtain ⟨y345,hy345⟩ : ∃ y_ : List Int,y_ = (([] : List Int) ++ t341):=⟨_,rfl⟩
        replace H : (if y345.length + l2.length < 140737488355328 then ((codec_Value.f kj6 (y345 ++ l2)).bind fun bt351 => (if bt351.2.2.2.2.2.2 = 0 then (if bt351.2.2.2.2.2.1 = (t341.length : Int) then ((windlassref3_Same.f kj6 a0_0 a0_1 a0_2 a0_3 l0_4 bt351.1 bt351.2.1 bt351.2.2.1 bt351.2.2.2.1 bt351.2.2.2.2.1).bind fun t361 => (windlasslaw2_CodecBack.j1 kj6 l2 l3 (!t361) a1_0 l1_1)) else (windlasslaw2_CodecBack.j1 kj6 l2 l3 true a1_0 l1_1)) else (windlasslaw2_CodecBack.j1 kj6 l2 l3 true a1_0 l1_1))) else (none)) = some r:=by first|(rw [hy345];with_reducible exact H)|(have H2_:=(Option.bind_some _ _).symm.trans H;rw [hy345];with_reducible exact H2_)|(have H2_:=(Option.bind_some _ _).symm.trans H;with_reducible exact H2_)|with_reducible exact H|(rw [hy345];exact H)|exact H
        have Ny345:=Aside0.mk hy345
        clear hy345
        by_cases c51 : y345.length + l2.length < 140737488355328
        ·rw [if_pos c51] at H
         have LMc51:=Aside0.mk c51
         clear c51
         obtain ⟨y348,hy348⟩ : ∃ y_ : List Int,y_ = (y345 ++ l2):=⟨_,rfl⟩
         replace H : ((codec_Value.f kj6 y348).bind fun bt351 => (if bt351.2.2.2.2.2.2 = 0 then (if bt351.2.2.2.2.2.1 = (t341.length : Int) then ((windlassref3_Same.f kj6 a0_0 a0_1 a0_2 a0_3 l0_4 bt351.1 bt351.2.1 bt351.2.2.1 bt351.2.2.2.1 bt351.2.2.2.2.1).bind fun t361 => (windlasslaw2_CodecBack.j1 kj6 l2 l3 (!t361) a1_0 l1_1)) else (windlasslaw2_CodecBack.j1 kj6 l2 l3 true a1_0 l1_1)) else (windlasslaw2_CodecBack.j1 kj6 l2 l3 true a1_0 l1_1))) = some r:=by first|(rw [hy348];with_reducible exact H)|(have H2_:=(Option.bind_some _ _).symm.trans H;rw [hy348];with_reducible exact H2_)|(have H2_:=(Option.bind_some _ _).symm.trans H;with_reducible exact H2_)|with_reducible exact H|(rw [hy348];exact H)|exact H
         have Ny348:=Aside0.mk hy348
         clear hy348
         replace H:=Option.bind_eq_some_iff.mp H
         obtain ⟨⟨t351,t352,t353,t354,t355,t358,t359⟩,A520,H⟩:=H
         replace H : (if t359 = 0 then (if t358 = (t341.length : Int) then ((windlassref3_Same.f kj6 a0_0 a0_1 a0_2 a0_3 l0_4 t351 t352 t353 t354 t355).bind fun t361 => (windlasslaw2_CodecBack.j1 kj6 l2 l3 (!t361) a1_0 l1_1)) else (windlasslaw2_CodecBack.j1 kj6 l2 l3 true a1_0 l1_1)) else (windlasslaw2_CodecBack.j1 kj6 l2 l3 true a1_0 l1_1)) = some r:=H
         have A52:=Aside0.mk A520
         clear A520
         have HC53:=Aside0.mk H
         clear H
         obtain ⟨Ao55,co55,eo55⟩:=Kd.R_slice HO343.out
         subst eo55
         go_upto_region 8 with (first|((with_reducible refine gate_builtin (b := .append) (xs:=#[(.const (.slice none 0 0)), .tmp 56]) rfl ?_);(try (refine gate_guard (by rfl) ?_;dsimp only));at_builtin;refine Kd.R_append_rows (Kd.int .u8) (w0:=w) w.heap.size rfl (.const (.slice none 0 0)) (.tmp 56) 30 5 (.int .u8 0) 1 rfl Try.underlying30 info5 rfl (by decide) (by omega) (.slice none 0 0) ([] : List Int) t341 _ _ _ (fun k_ => some k_ ≠ (.slice Ao55 t341.length co55 : Value).ownBlock) (fun _ => False) rfl rfl ?aO ?aR (fun _ _ h => h) (fun _ h => h.elim) ?aF ?aB ?aS ?aL ?_;(case aR => repeat (first|exact (Kd.R_reads' HO343.out).2.2|(with_reducible refine Kd.C_alloc ?_ _)|(with_reducible refine Kd.C_drewN ?_ _)|(with_reducible refine Kd.C_drew ?_)));(case aB => exact (by repeat (first|(with_reducible first|exact HB.out|apply below_alloc|apply pw_below_drewN|apply below_drew1|refine below_set ?_ GE336.out|refine below_set ?_ GE337.out)|exact HB.out)));(case aF => exact (fun k_ hk => Kd.fresh' (Kd.R_lt (by (with_reducible repeat (first|apply Kd.R_alloc|apply Kd.R_drewN|apply Kd.R_drew));exact HO343.out)) k_ hk));(case aO => exact ((Kd.R_nil _ _ _ _ (fun k_ => some k_ ≠ (.slice Ao55 t341.length co55 : Value).ownBlock))));(case aS => exact (below_size (by repeat (first|(with_reducible first|exact HB.out|apply below_alloc|apply pw_below_drewN|apply below_drew1|refine below_set ?_ GE336.out|refine below_set ?_ GE337.out)|exact HB.out))));(case aL => have:=LMc50.out;omega);intro v346 w54 ho hb hg hat;rw [← Ny345.out] at ho;have n0_:=Aside0.mk (blk_grown (g:=gb336) (o := .cells #[.int .i64 a0_0, .int .i64 a0_1, .string a0_2, .int .i64 a0_3, .slice A0_4 l0_4.length c0_4] 24 (0,0)) (by (with_reducible repeat (first|refine blk_drewN ?_ _|refine blk_drew ?_|refine blk_alloc ?_ _));exact BK336.out) hg (by simp [Value.ownBlock]));have n1_:=Aside0.mk (blk_grown (g:=gb337) (o := .cells #[.string a1_0, .slice A1_1 l1_1.length c1_1] 26 (0,0)) (by (with_reducible repeat (first|refine blk_drewN ?_ _|refine blk_drew ?_|refine blk_alloc ?_ _));exact BK337.out) hg (by simp [Value.ownBlock]));have n2_:=Aside0.mk (Kd.R_after (Kd.R_apart_nil (by (with_reducible repeat (first|apply Kd.R_alloc|apply Kd.R_drewN|apply Kd.R_drew));exact HO343.out)) hg hat);have n3_:=Aside0.mk (hb);have n4_:=Aside0.mk (ho);clear BK336;clear BK337;clear HO343;clear HB;have BK336:=n0_;have BK337:=n1_;have HO343:=n2_;have HB:=n3_;have HO347:=n4_;clear n0_ n1_ n2_ n3_ n4_;clear ho hb hg hat)|((with_reducible refine gate_builtin (b := .append) (xs:=#[.tmp 57, .tmp 58]) rfl ?_);(try (refine gate_guard (by rfl) ?_;dsimp only));at_builtin;refine Kd.R_append_rows (Kd.int .u8) (w0:=w) w.heap.size rfl (.tmp 57) (.tmp 58) 30 5 (.int .u8 0) 1 rfl Try.underlying30 info5 rfl (by decide) (by omega) v346 y345 l2 _ _ _ (fun k_ => some k_ ≠ (.slice Ao55 t341.length co55 : Value).ownBlock) (fun _ => False) rfl rfl ?aO ?aR (fun _ _ h => h) (fun _ h => h.elim) ?aF ?aB ?aS ?aL ?_;(case aR => repeat (first|exact (Kd.C_below HR2.out HB.out)|(with_reducible refine Kd.C_alloc ?_ _)|(with_reducible refine Kd.C_drewN ?_ _)|(with_reducible refine Kd.C_drew ?_)));(case aB => exact (by repeat (first|(with_reducible first|exact HB.out|apply below_alloc|apply pw_below_drewN|apply below_drew1|refine below_set ?_ GE336.out|refine below_set ?_ GE337.out)|exact HB.out)));(case aF => exact (fun k_ hk => Kd.fresh' (Kd.R_lt (by (with_reducible repeat (first|apply Kd.R_alloc|apply Kd.R_drewN|apply Kd.R_drew));exact HO343.out)) k_ hk));(case aO => exact (by (with_reducible repeat (first|apply Kd.R_alloc|apply Kd.R_drewN|apply Kd.R_drew));exact HO347.out));(case aS => exact (below_size (by repeat (first|(with_reducible first|exact HB.out|apply below_alloc|apply pw_below_drewN|apply below_drew1|refine below_set ?_ GE336.out|refine below_set ?_ GE337.out)|exact HB.out))));(case aL => have:=LMc51.out;omega);intro v349 w56 ho hb hg hat;rw [← Ny348.out] at ho;have n0_:=Aside0.mk (blk_grown (g:=gb336) (o := .cells #[.int .i64 a0_0, .int .i64 a0_1, .string a0_2, .int .i64 a0_3, .slice A0_4 l0_4.length c0_4] 24 (0,0)) (by (with_reducible repeat (first|refine blk_drewN ?_ _|refine blk_drew ?_|refine blk_alloc ?_ _));exact BK336.out) hg (Kd.R_ne HO347.out BK336.out (by decide)));have n1_:=Aside0.mk (blk_grown (g:=gb337) (o := .cells #[.string a1_0, .slice A1_1 l1_1.length c1_1] 26 (0,0)) (by (with_reducible repeat (first|refine blk_drewN ?_ _|refine blk_drew ?_|refine blk_alloc ?_ _));exact BK337.out) hg (Kd.R_ne HO347.out BK337.out (by decide)));have n2_:=Aside0.mk (Kd.R_after (ok:=(fun _ => True)) (by (with_reducible repeat (first|apply Kd.R_alloc|apply Kd.R_drewN|apply Kd.R_drew));exact HO343.out) hg hat);have n3_:=Aside0.mk (hb);have n4_:=Aside0.mk (ho);clear BK336;clear BK337;clear HO343;clear HB;clear HO347;have BK336:=n0_;have BK337:=n1_;have HO343:=n2_;have HB:=n3_;have HO350:=n4_;clear n0_ n1_ n2_ n3_ n4_;clear ho hb hg hat;obtain ⟨Ao57,co57,eo57⟩:=Kd.R_slice HO350.out;subst eo57)|((with_reducible refine gate_callee (f:=26) rfl ?_);refine goesL_ (some 60) rfl rfl Try.func26 (by kernel_rfl) rfl #[.slice Ao57 y348.length co57] rfl (by (try simp only [List.map_toArray,List.map_cons,List.map_nil]);first|done|rfl|(simp only [List.length_drop,List.length_take];rfl)|(go_simp;done)|(go_simp;simp;done)) ?_;(with_reducible refine (codec_Value.calls kj6 _ _ y348 t351 t352 t353 t354 t355 t358 t359 _ ?side1 ?side2 A52.out).mono ?_);(case side1 => repeat (first|exact (Kd.R_reads' HO350.out).2.2|(with_reducible refine Kd.C_alloc ?_ _)|(with_reducible refine Kd.C_drewN ?_ _)|(with_reducible refine Kd.C_drew ?_)));(case side2 => exact (Kd.R_reads' HO350.out).2.1);rintro e w58 ⟨v356,rfl,ho0,hb⟩;refine ⟨_,rfl,?_⟩;have n0_:=Aside0.mk (Kd.R_below (by (with_reducible repeat (first|apply Kd.R_alloc|apply Kd.R_drewN|apply Kd.R_drew));exact HO343.out) hb);have n1_:=Aside0.mk (Kd.R_below (by (with_reducible repeat (first|apply Kd.R_alloc|apply Kd.R_drewN|apply Kd.R_drew));exact HO350.out) hb);have n2_:=Aside0.mk (Kd.R_lower (Kd.R_newB ho0 (g:=gb336) (o := .cells #[.int .i64 a0_0, .int .i64 a0_1, .string a0_2, .int .i64 a0_3, .slice A0_4 l0_4.length c0_4] 24 (0,0)) (by (with_reducible repeat (first|refine blk_drewN ?_ _|refine blk_drew ?_|refine blk_alloc ?_ _));exact BK336.out)) (below_size (by repeat (first|(with_reducible first|exact HB.out|apply below_alloc|apply pw_below_drewN|apply below_drew1|refine below_set ?_ GE336.out|refine below_set ?_ GE337.out)|exact HB.out))));have n3_:=Aside0.mk (blk_below (g:=gb336) (o := .cells #[.int .i64 a0_0, .int .i64 a0_1, .string a0_2, .int .i64 a0_3, .slice A0_4 l0_4.length c0_4] 24 (0,0)) (by (with_reducible repeat (first|refine blk_drewN ?_ _|refine blk_drew ?_|refine blk_alloc ?_ _));exact BK336.out) hb);have n4_:=Aside0.mk (blk_below (g:=gb337) (o := .cells #[.string a1_0, .slice A1_1 l1_1.length c1_1] 26 (0,0)) (by (with_reducible repeat (first|refine blk_drewN ?_ _|refine blk_drew ?_|refine blk_alloc ?_ _));exact BK337.out) hb);have n5_:=Aside0.mk (below_step (by repeat (first|(with_reducible first|exact HB.out|apply below_alloc|apply pw_below_drewN|apply below_drew1|refine below_set ?_ GE336.out|refine below_set ?_ GE337.out)|exact HB.out)) hb);clear HO343;clear HO350;clear BK336;clear BK337;clear HB;have HO343:=n0_;have HO350:=n1_;have HO357:=n2_;have BK336:=n3_;have BK337:=n4_;have HB:=n5_;clear n0_ n1_ n2_ n3_ n4_ n5_;(try clear hb);(try clear hb2);(try clear hk);(try clear hi);(try clear ho0))|((with_reducible refine gate_dst (N:=11) rfl ?_);(try (refine gate_guard (by rfl) ?_;dsimp only));refine box_event ?hg (N:=11) ?hd (cs:=#[.int .i64 0, .int .i64 0, .string (⟨#[]⟩ : ByteArray), .int .i64 0, .slice none 0 0]) (t:=24) ?hr ?_;(case hd => rfl);(case hg => rfl);(case hr => first|(go_simp;done)|(go_simp;rfl));intro gb360 hg w59 hbox hb;have n0_:=Aside0.mk (Kd.R_below (by (with_reducible repeat (first|apply Kd.R_alloc|apply Kd.R_drewN|apply Kd.R_drew));exact HO343.out) hb);have n1_:=Aside0.mk (Kd.R_below (by (with_reducible repeat (first|apply Kd.R_alloc|apply Kd.R_drewN|apply Kd.R_drew));exact HO350.out) hb);have n2_:=Aside0.mk (Kd.R_below (Kd.R_elderB (by (with_reducible repeat (first|apply Kd.R_alloc|apply Kd.R_drewN|apply Kd.R_drew));exact HO357.out) gb360 (Nat.le_of_eq hg.symm)) hb);have n3_:=Aside0.mk (blk_below (g:=gb336) (o := .cells #[.int .i64 a0_0, .int .i64 a0_1, .string a0_2, .int .i64 a0_3, .slice A0_4 l0_4.length c0_4] 24 (0,0)) (by (with_reducible repeat (first|refine blk_drewN ?_ _|refine blk_drew ?_|refine blk_alloc ?_ _));exact BK336.out) hb);have n4_:=Aside0.mk (blk_below (g:=gb337) (o := .cells #[.string a1_0, .slice A1_1 l1_1.length c1_1] 26 (0,0)) (by (with_reducible repeat (first|refine blk_drewN ?_ _|refine blk_drew ?_|refine blk_alloc ?_ _));exact BK337.out) hb);have n5_:=Aside0.mk (below_step (by repeat (first|(with_reducible first|exact HB.out|apply below_alloc|apply pw_below_drewN|apply below_drew1|refine below_set ?_ GE336.out|refine below_set ?_ GE337.out)|exact HB.out)) hb);have n6_:=Aside0.mk (hbox);have n7_:=Aside0.mk ((by rw [hg];exact (below_size (by repeat (first|(with_reducible first|exact HB.out|apply below_alloc|apply pw_below_drewN|apply below_drew1|refine below_set ?_ GE336.out|refine below_set ?_ GE337.out)|exact HB.out))) : w.heap.size ≤ gb360));have n8_:=Aside0.mk ((by rw [hg];exact (below_size (by repeat (first|(with_reducible first|exact HB.out|apply below_alloc|apply pw_below_drewN|apply below_drew1|refine below_set ?_ GE336.out|refine below_set ?_ GE337.out)|exact HB.out))) : w.heap.size ≤ gb360));have n9_:=Aside0.mk ((by rw [hg];exact Nat.ne_of_lt (blk_lt (g:=gb336) (o := .cells #[.int .i64 a0_0, .int .i64 a0_1, .string a0_2, .int .i64 a0_3, .slice A0_4 l0_4.length c0_4] 24 (0,0)) (by (with_reducible repeat (first|refine blk_drewN ?_ _|refine blk_drew ?_|refine blk_alloc ?_ _));exact BK336.out)) : gb336 ≠ gb360));have n10_:=Aside0.mk ((by rw [hg];exact Nat.ne_of_gt (blk_lt (g:=gb336) (o := .cells #[.int .i64 a0_0, .int .i64 a0_1, .string a0_2, .int .i64 a0_3, .slice A0_4 l0_4.length c0_4] 24 (0,0)) (by (with_reducible repeat (first|refine blk_drewN ?_ _|refine blk_drew ?_|refine blk_alloc ?_ _));exact BK336.out)) : gb360 ≠ gb336));have n11_:=Aside0.mk ((by rw [hg];exact Nat.ne_of_lt (blk_lt (g:=gb337) (o := .cells #[.string a1_0, .slice A1_1 l1_1.length c1_1] 26 (0,0)) (by (with_reducible repeat (first|refine blk_drewN ?_ _|refine blk_drew ?_|refine blk_alloc ?_ _));exact BK337.out)) : gb337 ≠ gb360));have n12_:=Aside0.mk ((by rw [hg];exact Nat.ne_of_gt (blk_lt (g:=gb337) (o := .cells #[.string a1_0, .slice A1_1 l1_1.length c1_1] 26 (0,0)) (by (with_reducible repeat (first|refine blk_drewN ?_ _|refine blk_drew ?_|refine blk_alloc ?_ _));exact BK337.out)) : gb360 ≠ gb337));clear HO343;clear HO350;clear HO357;clear BK336;clear BK337;clear HB;have HO343:=n0_;have HO350:=n1_;have HO357:=n2_;have BK336:=n3_;have BK337:=n4_;have HB:=n5_;have BK360:=n6_;have GW360:=n7_;have GE360:=n8_;have NB336_360:=n9_;have NB360_336:=n10_;have NB337_360:=n11_;have NB360_337:=n12_;clear n0_ n1_ n2_ n3_ n4_ n5_ n6_ n7_ n8_ n9_ n10_ n11_ n12_;clear hb hbox hg;have hnb60:=NB360_336.out;have hnc60:=NB336_360.out;have hnb61:=NB360_337.out;have hnc61:=NB337_360.out;have hcz62_0 : w59.cell? ⟨gb360,0,none⟩ = some (.int .i64 0):=(blk_cell BK360.out 0).trans rfl;have hcz62_1 : w59.cell? ⟨gb360,1,none⟩ = some (.int .i64 0):=(blk_cell BK360.out 1).trans rfl;have hcz62_2 : w59.cell? ⟨gb360,2,none⟩ = some (.string (⟨#[]⟩ : ByteArray)):=(blk_cell BK360.out 2).trans rfl;have hcz62_3 : w59.cell? ⟨gb360,3,none⟩ = some (.int .i64 0):=(blk_cell BK360.out 3).trans rfl;have hcz62_4 : w59.cell? ⟨gb360,4,none⟩ = some (.slice none 0 0):=(blk_cell BK360.out 4).trans rfl;have hfz62_0:=blk_frozen BK360.out 0;have hfz62_1:=blk_frozen BK360.out 1;have hfz62_2:=blk_frozen BK360.out 2;have hfz62_3:=blk_frozen BK360.out 3;have hfz62_4:=blk_frozen BK360.out 4;obtain ⟨Ao63,co63,eo63⟩:=Kd.R_slice HO357.out;subst eo63))
         (try simp only [Act.put,List.setIfInBounds_toArray,List.set_cons_zero,List.set_cons_succ])
         go_cut [77] (fun v77 wc => ∃ (kq : Nat) (x77_52 : Bool),v77 = .bool x77_52 ∧ Aside0 (windlasslaw2_CodecBack.j1 kq l2 l3 x77_52 a1_0 l1_1 = some r) ∧ Aside0 (kq ≤ kj6) ∧ Aside0 (Kd.R k24 24 wc w.heap.size (fun k_ => k_ ≠ gb336 ∧ k_ ≠ gb360) (.slice Ao63 t355.length co63) t355) ∧ Aside0 (wc.heap[gb336]? = some (.cells #[.int .i64 a0_0, .int .i64 a0_1, .string a0_2, .int .i64 a0_3,(.slice A0_4 l0_4.length c0_4)] 24 (0,0))) ∧ Aside0 (wc.heap[gb337]? = some (.cells #[.string a1_0,(.slice A1_1 l1_1.length c1_1)] 26 (0,0))) ∧ Aside0 (wc.heap[gb360]? = some (.cells #[.int .i64 t351, .int .i64 t352, .string t353, .int .i64 t354,(.slice Ao63 t355.length co63)] 24 (0,0))) ∧ Aside0 (Below w.heap.size w wc))
         case first =>
          have H:=HC53.out
          clear HC53
          by_cases c64 : t359 = 0
          ·rw [if_pos c64] at H
           have c64b0 : (t359 == 0) = true:=beq_iff_eq.mpr c64
           have c64b1 : (t359 != 0) = false:=bne_eq_false_iff_eq.mpr c64
           clear c64
           (first|rw [c64b0]|(simp only [i64_w,i32_w];rw [c64b0])|skip)
           by_cases c65 : t358 = (t341.length : Int)
           ·rw [if_pos c65] at H
            have c65b0 : (t358 == (t341.length : Int)) = true:=beq_iff_eq.mpr c65
            have c65b1 : (t358 != (t341.length : Int)) = false:=bne_eq_false_iff_eq.mpr c65
            clear c65
            replace H:=Option.bind_eq_some_iff.mp H
            obtain ⟨t361,A660,H⟩:=H
            replace H : (windlasslaw2_CodecBack.j1 kj6 l2 l3 (!t361) a1_0 l1_1) = some r:=H
            have A66:=Aside0.mk A660
            clear A660
            have H':=Aside0.mk H
            clear H
            have hnb67:=NB336_337.out
            have hnc67:=NB337_336.out
            have hnb68:=NB336_360.out
            have hnc68:=NB360_336.out
            have hcz69_0 : w59.cell? ⟨gb336,0,none⟩ = some (.int .i64 a0_0):=(blk_cell BK336.out 0).trans rfl
            have hcz69_1 : w59.cell? ⟨gb336,1,none⟩ = some (.int .i64 a0_1):=(blk_cell BK336.out 1).trans rfl
            have hcz69_2 : w59.cell? ⟨gb336,2,none⟩ = some (.string a0_2):=(blk_cell BK336.out 2).trans rfl
            have hcz69_3 : w59.cell? ⟨gb336,3,none⟩ = some (.int .i64 a0_3):=(blk_cell BK336.out 3).trans rfl
            have hcz69_4 : w59.cell? ⟨gb336,4,none⟩ = some (.slice A0_4 l0_4.length c0_4):=(blk_cell BK336.out 4).trans rfl
            have hfz69_0:=blk_frozen BK336.out 0
            have hfz69_1:=blk_frozen BK336.out 1
            have hfz69_2:=blk_frozen BK336.out 2
            have hfz69_3:=blk_frozen BK336.out 3
            have hfz69_4:=blk_frozen BK336.out 4
            have hnb70:=NB360_337.out
            have hnc70:=NB337_360.out
            have hcz71_0 : w59.cell? ⟨gb360,0,none⟩ = some (.int .i64 0):=(blk_cell BK360.out 0).trans rfl
            have hcz71_1 : w59.cell? ⟨gb360,1,none⟩ = some (.int .i64 0):=(blk_cell BK360.out 1).trans rfl
            have hcz71_2 : w59.cell? ⟨gb360,2,none⟩ = some (.string (⟨#[]⟩ : ByteArray)):=(blk_cell BK360.out 2).trans rfl
            have hcz71_3 : w59.cell? ⟨gb360,3,none⟩ = some (.int .i64 0):=(blk_cell BK360.out 3).trans rfl
            have hcz71_4 : w59.cell? ⟨gb360,4,none⟩ = some (.slice none 0 0):=(blk_cell BK360.out 4).trans rfl
            have hfz71_0:=blk_frozen BK360.out 0
            have hfz71_1:=blk_frozen BK360.out 1
            have hfz71_2:=blk_frozen BK360.out 2
            have hfz71_3:=blk_frozen BK360.out 3
            have hfz71_4:=blk_frozen BK360.out 4
            go_wp2_with (first|(go_at_call 31;(with_reducible refine (windlassref3_Same.calls kj6 a0_0 a0_1 a0_2 a0_3 _ _ l0_4 t351 t352 t353 t354 _ _ t355 t361 _ ?side1 ?side2 ?side3 ?side4 A66.out).mono ?_);(case side1 => exact Kd.C_below HR0_4.out (by repeat (first|(with_reducible first|exact HB.out|apply below_alloc|apply pw_below_drewN|apply below_drew1|refine below_set ?_ GE336.out|refine below_set ?_ GE337.out|refine below_set ?_ GE360.out)|exact HB.out)));(case side2 => exact HC0_4.out);(case side3 => refine (Kd.R_reads' (e:=24) (base:=w.heap.size) (ok:=fun k_ => ((True ∧ k_ ≠ gb336) ∧ k_ ≠ gb360)) (n:=t355.length) (c:=co63) ?_).2.2;exact (by (with_reducible repeat (first|apply Kd.R_alloc|apply Kd.R_drewN|apply Kd.R_drew));exact (Kd.R_mono (Kd.R_far (p:=⟨gb360,4,none⟩) (Kd.R_far (p:=⟨gb360,3,none⟩) (Kd.R_far (p:=⟨gb360,2,none⟩) (Kd.R_far (p:=⟨gb360,1,none⟩) (Kd.R_far (p:=⟨gb360,0,none⟩) (Kd.R_mono HO357.out (fun k_ hk => (⟨hk,hk.2⟩ : _ ∧ k_ ≠ gb360))) (fun _ hk => hk.2) (.int .i64 t351)) (fun _ hk => hk.2) (.int .i64 t352)) (fun _ hk => hk.2) (.string t353)) (fun _ hk => hk.2) (.int .i64 t354)) (fun _ hk => hk.2) (.slice Ao63 t355.length co63)) (fun _ h_ => h_.1))));(case side4 => exact (Kd.R_reads' HO357.out).2.1);rintro e w72 ⟨rfl,hb⟩;have n0_:=Aside0.mk (Kd.R_below (by (with_reducible repeat (first|apply Kd.R_alloc|apply Kd.R_drewN|apply Kd.R_drew));exact (Kd.R_mono (Kd.R_far (p:=⟨gb360,4,none⟩) (Kd.R_far (p:=⟨gb360,3,none⟩) (Kd.R_far (p:=⟨gb360,2,none⟩) (Kd.R_far (p:=⟨gb360,1,none⟩) (Kd.R_far (p:=⟨gb360,0,none⟩) (Kd.R_types HO343.out BK360.out (by decide)) (fun _ hk => hk.2) (.int .i64 t351)) (fun _ hk => hk.2) (.int .i64 t352)) (fun _ hk => hk.2) (.string t353)) (fun _ hk => hk.2) (.int .i64 t354)) (fun _ hk => hk.2) (.slice Ao63 t355.length co63)) (fun _ h_ => h_.1))) hb);have n1_:=Aside0.mk (Kd.R_below (by (with_reducible repeat (first|apply Kd.R_alloc|apply Kd.R_drewN|apply Kd.R_drew));exact (Kd.R_mono (Kd.R_far (p:=⟨gb360,4,none⟩) (Kd.R_far (p:=⟨gb360,3,none⟩) (Kd.R_far (p:=⟨gb360,2,none⟩) (Kd.R_far (p:=⟨gb360,1,none⟩) (Kd.R_far (p:=⟨gb360,0,none⟩) (Kd.R_types HO350.out BK360.out (by decide)) (fun _ hk => hk.2) (.int .i64 t351)) (fun _ hk => hk.2) (.int .i64 t352)) (fun _ hk => hk.2) (.string t353)) (fun _ hk => hk.2) (.int .i64 t354)) (fun _ hk => hk.2) (.slice Ao63 t355.length co63)) (fun _ h_ => h_.1))) hb);have n2_:=Aside0.mk (Kd.R_below (by (with_reducible repeat (first|apply Kd.R_alloc|apply Kd.R_drewN|apply Kd.R_drew));exact (Kd.R_mono (Kd.R_far (p:=⟨gb360,4,none⟩) (Kd.R_far (p:=⟨gb360,3,none⟩) (Kd.R_far (p:=⟨gb360,2,none⟩) (Kd.R_far (p:=⟨gb360,1,none⟩) (Kd.R_far (p:=⟨gb360,0,none⟩) (Kd.R_mono HO357.out (fun k_ hk => (⟨hk,hk.2⟩ : _ ∧ k_ ≠ gb360))) (fun _ hk => hk.2) (.int .i64 t351)) (fun _ hk => hk.2) (.int .i64 t352)) (fun _ hk => hk.2) (.string t353)) (fun _ hk => hk.2) (.int .i64 t354)) (fun _ hk => hk.2) (.slice Ao63 t355.length co63)) (fun _ h_ => h_.1))) hb);have n3_:=Aside0.mk (blk_below (g:=gb336) (o := .cells #[.int .i64 a0_0, .int .i64 a0_1, .string a0_2, .int .i64 a0_3, .slice A0_4 l0_4.length c0_4] 24 (0,0)) (by (with_reducible repeat (first|refine blk_drewN ?_ _|refine blk_drew ?_|refine blk_alloc ?_ _));refine blk_far ?_ NB336_360.out _;(with_reducible repeat (first|refine blk_drewN ?_ _|refine blk_drew ?_|refine blk_alloc ?_ _));refine blk_far ?_ NB336_360.out _;(with_reducible repeat (first|refine blk_drewN ?_ _|refine blk_drew ?_|refine blk_alloc ?_ _));refine blk_far ?_ NB336_360.out _;(with_reducible repeat (first|refine blk_drewN ?_ _|refine blk_drew ?_|refine blk_alloc ?_ _));refine blk_far ?_ NB336_360.out _;(with_reducible repeat (first|refine blk_drewN ?_ _|refine blk_drew ?_|refine blk_alloc ?_ _));refine blk_far ?_ NB336_360.out _;(with_reducible repeat (first|refine blk_drewN ?_ _|refine blk_drew ?_|refine blk_alloc ?_ _));exact BK336.out) hb);have n4_:=Aside0.mk (blk_below (g:=gb337) (o := .cells #[.string a1_0, .slice A1_1 l1_1.length c1_1] 26 (0,0)) (by (with_reducible repeat (first|refine blk_drewN ?_ _|refine blk_drew ?_|refine blk_alloc ?_ _));refine blk_far ?_ NB337_360.out _;(with_reducible repeat (first|refine blk_drewN ?_ _|refine blk_drew ?_|refine blk_alloc ?_ _));refine blk_far ?_ NB337_360.out _;(with_reducible repeat (first|refine blk_drewN ?_ _|refine blk_drew ?_|refine blk_alloc ?_ _));refine blk_far ?_ NB337_360.out _;(with_reducible repeat (first|refine blk_drewN ?_ _|refine blk_drew ?_|refine blk_alloc ?_ _));refine blk_far ?_ NB337_360.out _;(with_reducible repeat (first|refine blk_drewN ?_ _|refine blk_drew ?_|refine blk_alloc ?_ _));refine blk_far ?_ NB337_360.out _;(with_reducible repeat (first|refine blk_drewN ?_ _|refine blk_drew ?_|refine blk_alloc ?_ _));exact BK337.out) hb);have n5_:=Aside0.mk (blk_below (g:=gb360) (o := .cells #[.int .i64 t351, .int .i64 t352, .string t353, .int .i64 t354, .slice Ao63 t355.length co63] 24 (0,0)) (by (with_reducible repeat (first|refine blk_drewN ?_ _|refine blk_drew ?_|refine blk_alloc ?_ _));refine blk_put (cs:=#[.int .i64 t351, .int .i64 t352, .string t353, .int .i64 t354, .slice none 0 0]) ?_ 4 _ rfl;(with_reducible repeat (first|refine blk_drewN ?_ _|refine blk_drew ?_|refine blk_alloc ?_ _));refine blk_put (cs:=#[.int .i64 t351, .int .i64 t352, .string t353, .int .i64 0, .slice none 0 0]) ?_ 3 _ rfl;(with_reducible repeat (first|refine blk_drewN ?_ _|refine blk_drew ?_|refine blk_alloc ?_ _));refine blk_put (cs:=#[.int .i64 t351, .int .i64 t352, .string (⟨#[]⟩ : ByteArray), .int .i64 0, .slice none 0 0]) ?_ 2 _ rfl;(with_reducible repeat (first|refine blk_drewN ?_ _|refine blk_drew ?_|refine blk_alloc ?_ _));refine blk_put (cs:=#[.int .i64 t351, .int .i64 0, .string (⟨#[]⟩ : ByteArray), .int .i64 0, .slice none 0 0]) ?_ 1 _ rfl;(with_reducible repeat (first|refine blk_drewN ?_ _|refine blk_drew ?_|refine blk_alloc ?_ _));refine blk_put (cs:=#[.int .i64 0, .int .i64 0, .string (⟨#[]⟩ : ByteArray), .int .i64 0, .slice none 0 0]) ?_ 0 _ rfl;(with_reducible repeat (first|refine blk_drewN ?_ _|refine blk_drew ?_|refine blk_alloc ?_ _));exact BK360.out) hb);have n6_:=Aside0.mk (below_step (by repeat (first|(with_reducible first|exact HB.out|apply below_alloc|apply pw_below_drewN|apply below_drew1|refine below_set ?_ GE336.out|refine below_set ?_ GE337.out|refine below_set ?_ GE360.out)|exact HB.out)) hb);clear HO343;clear HO350;clear HO357;clear BK336;clear BK337;clear BK360;clear HB;have HO343:=n0_;have HO350:=n1_;have HO357:=n2_;have BK336:=n3_;have BK337:=n4_;have BK360:=n5_;have HB:=n6_;clear n0_ n1_ n2_ n3_ n4_ n5_ n6_;(try clear hb);(try clear hb2);(try clear hk);(try clear hi)))
            go_meet
            case rel => exact ⟨_,(!t361),(by first|rfl|(simp;done)|(simp [*];done)),H',⟨by have:=HJ6.out;first|omega|exact Nat.le_refl _⟩,⟨by (with_reducible repeat (first|apply Kd.R_alloc|apply Kd.R_drewN|apply Kd.R_drew));exact Kd.R_mono HO357.out (fun _ hk => ⟨hk.1.2,hk.2⟩)⟩,⟨by (with_reducible repeat (first|refine blk_drewN ?_ _|refine blk_drew ?_|refine blk_alloc ?_ _));exact BK336.out⟩,⟨by (with_reducible repeat (first|refine blk_drewN ?_ _|refine blk_drew ?_|refine blk_alloc ?_ _));exact BK337.out⟩,⟨by (with_reducible repeat (first|refine blk_drewN ?_ _|refine blk_drew ?_|refine blk_alloc ?_ _));exact BK360.out⟩,⟨by repeat (first|(with_reducible first|exact HB.out|apply below_alloc|apply pw_below_drewN|apply below_drew1|refine below_set ?_ GE336.out|refine below_set ?_ GE337.out|refine below_set ?_ GE360.out)|exact HB.out)⟩⟩
           ·rw [if_neg c65] at H
            have c65b0 : (t358 == (t341.length : Int)) = false:=beq_eq_false_iff_ne.mpr c65
            have c65b1 : (t358 != (t341.length : Int)) = true:=bne_iff_ne.mpr c65
            have H':=Aside0.mk H
            clear H
            go_wp2
            go_meet
            case rel => exact ⟨_,(true),(by first|rfl|(simp;done)|(simp [*];done)),H',⟨by have:=HJ6.out;first|omega|exact Nat.le_refl _⟩,⟨by (with_reducible repeat (first|apply Kd.R_alloc|apply Kd.R_drewN|apply Kd.R_drew));exact Kd.R_mono (Kd.R_far (p:=⟨gb360,4,none⟩) (Kd.R_far (p:=⟨gb360,3,none⟩) (Kd.R_far (p:=⟨gb360,2,none⟩) (Kd.R_far (p:=⟨gb360,1,none⟩) (Kd.R_far (p:=⟨gb360,0,none⟩) (Kd.R_mono HO357.out (fun k_ hk => (⟨hk,hk.2⟩ : _ ∧ k_ ≠ gb360))) (fun _ hk => hk.2) (.int .i64 t351)) (fun _ hk => hk.2) (.int .i64 t352)) (fun _ hk => hk.2) (.string t353)) (fun _ hk => hk.2) (.int .i64 t354)) (fun _ hk => hk.2) (.slice Ao63 t355.length co63)) (fun _ hk => ⟨hk.1.1.2,hk.1.2⟩)⟩,⟨by (with_reducible repeat (first|refine blk_drewN ?_ _|refine blk_drew ?_|refine blk_alloc ?_ _));refine blk_far ?_ NB336_360.out _;(with_reducible repeat (first|refine blk_drewN ?_ _|refine blk_drew ?_|refine blk_alloc ?_ _));refine blk_far ?_ NB336_360.out _;(with_reducible repeat (first|refine blk_drewN ?_ _|refine blk_drew ?_|refine blk_alloc ?_ _));refine blk_far ?_ NB336_360.out _;(with_reducible repeat (first|refine blk_drewN ?_ _|refine blk_drew ?_|refine blk_alloc ?_ _));refine blk_far ?_ NB336_360.out _;(with_reducible repeat (first|refine blk_drewN ?_ _|refine blk_drew ?_|refine blk_alloc ?_ _));refine blk_far ?_ NB336_360.out _;(with_reducible repeat (first|refine blk_drewN ?_ _|refine blk_drew ?_|refine blk_alloc ?_ _));exact BK336.out⟩,⟨by (with_reducible repeat (first|refine blk_drewN ?_ _|refine blk_drew ?_|refine blk_alloc ?_ _));refine blk_far ?_ NB337_360.out _;(with_reducible repeat (first|refine blk_drewN ?_ _|refine blk_drew ?_|refine blk_alloc ?_ _));refine blk_far ?_ NB337_360.out _;(with_reducible repeat (first|refine blk_drewN ?_ _|refine blk_drew ?_|refine blk_alloc ?_ _));refine blk_far ?_ NB337_360.out _;(with_reducible repeat (first|refine blk_drewN ?_ _|refine blk_drew ?_|refine blk_alloc ?_ _));refine blk_far ?_ NB337_360.out _;(with_reducible repeat (first|refine blk_drewN ?_ _|refine blk_drew ?_|refine blk_alloc ?_ _));refine blk_far ?_ NB337_360.out _;(with_reducible repeat (first|refine blk_drewN ?_ _|refine blk_drew ?_|refine blk_alloc ?_ _));exact BK337.out⟩,⟨by (with_reducible repeat (first|refine blk_drewN ?_ _|refine blk_drew ?_|refine blk_alloc ?_ _));refine blk_put (cs:=#[.int .i64 t351, .int .i64 t352, .string t353, .int .i64 t354, .slice none 0 0]) ?_ 4 _ rfl;(with_reducible repeat (first|refine blk_drewN ?_ _|refine blk_drew ?_|refine blk_alloc ?_ _));refine blk_put (cs:=#[.int .i64 t351, .int .i64 t352, .string t353, .int .i64 0, .slice none 0 0]) ?_ 3 _ rfl;(with_reducible repeat (first|refine blk_drewN ?_ _|refine blk_drew ?_|refine blk_alloc ?_ _));refine blk_put (cs:=#[.int .i64 t351, .int .i64 t352, .string (⟨#[]⟩ : ByteArray), .int .i64 0, .slice none 0 0]) ?_ 2 _ rfl;(with_reducible repeat (first|refine blk_drewN ?_ _|refine blk_drew ?_|refine blk_alloc ?_ _));refine blk_put (cs:=#[.int .i64 t351, .int .i64 0, .string (⟨#[]⟩ : ByteArray), .int .i64 0, .slice none 0 0]) ?_ 1 _ rfl;(with_reducible repeat (first|refine blk_drewN ?_ _|refine blk_drew ?_|refine blk_alloc ?_ _));refine blk_put (cs:=#[.int .i64 0, .int .i64 0, .string (⟨#[]⟩ : ByteArray), .int .i64 0, .slice none 0 0]) ?_ 0 _ rfl;(with_reducible repeat (first|refine blk_drewN ?_ _|refine blk_drew ?_|refine blk_alloc ?_ _));exact BK360.out⟩,⟨by repeat (first|(with_reducible first|exact HB.out|apply below_alloc|apply pw_below_drewN|apply below_drew1|refine below_set ?_ GE336.out|refine below_set ?_ GE337.out|refine below_set ?_ GE360.out)|exact HB.out)⟩⟩
          ·rw [if_neg c64] at H
           have c64b0 : (t359 == 0) = false:=beq_eq_false_iff_ne.mpr c64
           have c64b1 : (t359 != 0) = true:=bne_iff_ne.mpr c64
           (first|rw [c64b0]|(simp only [i64_w,i32_w];rw [c64b0])|skip)
           have H':=Aside0.mk H
           clear H
           go_wp2
           go_meet
           case rel => exact ⟨_,(true),(by first|rfl|(simp;done)|(simp [*];done)),H',⟨by have:=HJ6.out;first|omega|exact Nat.le_refl _⟩,⟨by (with_reducible repeat (first|apply Kd.R_alloc|apply Kd.R_drewN|apply Kd.R_drew));exact Kd.R_mono (Kd.R_far (p:=⟨gb360,4,none⟩) (Kd.R_far (p:=⟨gb360,3,none⟩) (Kd.R_far (p:=⟨gb360,2,none⟩) (Kd.R_far (p:=⟨gb360,1,none⟩) (Kd.R_far (p:=⟨gb360,0,none⟩) (Kd.R_mono HO357.out (fun k_ hk => (⟨hk,hk.2⟩ : _ ∧ k_ ≠ gb360))) (fun _ hk => hk.2) (.int .i64 t351)) (fun _ hk => hk.2) (.int .i64 t352)) (fun _ hk => hk.2) (.string t353)) (fun _ hk => hk.2) (.int .i64 t354)) (fun _ hk => hk.2) (.slice Ao63 t355.length co63)) (fun _ hk => ⟨hk.1.1.2,hk.1.2⟩)⟩,⟨by (with_reducible repeat (first|refine blk_drewN ?_ _|refine blk_drew ?_|refine blk_alloc ?_ _));refine blk_far ?_ NB336_360.out _;(with_reducible repeat (first|refine blk_drewN ?_ _|refine blk_drew ?_|refine blk_alloc ?_ _));refine blk_far ?_ NB336_360.out _;(with_reducible repeat (first|refine blk_drewN ?_ _|refine blk_drew ?_|refine blk_alloc ?_ _));refine blk_far ?_ NB336_360.out _;(with_reducible repeat (first|refine blk_drewN ?_ _|refine blk_drew ?_|refine blk_alloc ?_ _));refine blk_far ?_ NB336_360.out _;(with_reducible repeat (first|refine blk_drewN ?_ _|refine blk_drew ?_|refine blk_alloc ?_ _));refine blk_far ?_ NB336_360.out _;(with_reducible repeat (first|refine blk_drewN ?_ _|refine blk_drew ?_|refine blk_alloc ?_ _));exact BK336.out⟩,⟨by (with_reducible repeat (first|refine blk_drewN ?_ _|refine blk_drew ?_|refine blk_alloc ?_ _));refine blk_far ?_ NB337_360.out _;(with_reducible repeat (first|refine blk_drewN ?_ _|refine blk_drew ?_|refine blk_alloc ?_ _));refine blk_far ?_ NB337_360.out _;(with_reducible repeat (first|refine blk_drewN ?_ _|refine blk_drew ?_|refine blk_alloc ?_ _));refine blk_far ?_ NB337_360.out _;(with_reducible repeat (first|refine blk_drewN ?_ _|refine blk_drew ?_|refine blk_alloc ?_ _));refine blk_far ?_ NB337_360.out _;(with_reducible repeat (first|refine blk_drewN ?_ _|refine blk_drew ?_|refine blk_alloc ?_ _));refine blk_far ?_ NB337_360.out _;(with_reducible repeat (first|refine blk_drewN ?_ _|refine blk_drew ?_|refine blk_alloc ?_ _));exact BK337.out⟩,⟨by (with_reducible repeat (first|refine blk_drewN ?_ _|refine blk_drew ?_|refine blk_alloc ?_ _));refine blk_put (cs:=#[.int .i64 t351, .int .i64 t352, .string t353, .int .i64 t354, .slice none 0 0]) ?_ 4 _ rfl;(with_reducible repeat (first|refine blk_drewN ?_ _|refine blk_drew ?_|refine blk_alloc ?_ _));refine blk_put (cs:=#[.int .i64 t351, .int .i64 t352, .string t353, .int .i64 0, .slice none 0 0]) ?_ 3 _ rfl;(with_reducible repeat (first|refine blk_drewN ?_ _|refine blk_drew ?_|refine blk_alloc ?_ _));refine blk_put (cs:=#[.int .i64 t351, .int .i64 t352, .string (⟨#[]⟩ : ByteArray), .int .i64 0, .slice none 0 0]) ?_ 2 _ rfl;(with_reducible repeat (first|refine blk_drewN ?_ _|refine blk_drew ?_|refine blk_alloc ?_ _));refine blk_put (cs:=#[.int .i64 t351, .int .i64 0, .string (⟨#[]⟩ : ByteArray), .int .i64 0, .slice none 0 0]) ?_ 1 _ rfl;(with_reducible repeat (first|refine blk_drewN ?_ _|refine blk_drew ?_|refine blk_alloc ?_ _));refine blk_put (cs:=#[.int .i64 0, .int .i64 0, .string (⟨#[]⟩ : ByteArray), .int .i64 0, .slice none 0 0]) ?_ 0 _ rfl;(with_reducible repeat (first|refine blk_drewN ?_ _|refine blk_drew ?_|refine blk_alloc ?_ _));exact BK360.out⟩,⟨by repeat (first|(with_reducible first|exact HB.out|apply below_alloc|apply pw_below_drewN|apply below_drew1|refine below_set ?_ GE336.out|refine below_set ?_ GE337.out|refine below_set ?_ GE360.out)|exact HB.out)⟩⟩
         case rest =>
          clear HC53
          try clear c1
          try clear c2
          try clear p2
          try clear c3
          try clear c4
          try clear c5
          try clear c6
          try clear c7
          try clear c8
          try clear c9
          try clear c10
          try clear c12
          try clear c14
          try clear c15
          try clear c15b0
          try clear c15b1
          try clear c16
          try clear c22
          try clear c22b0
          try clear c22b1
          try clear c23
          try clear c26
          try clear c29
          try clear c35
          try clear c40
          try clear c43
          try clear c46
          try clear c49
          try clear c49b0
          try clear c49b1
          try clear c50
          try clear c51
          try clear c60
          try clear c61
          try clear c64
          try clear c64b0
          try clear c64b1
          try clear c65
          try clear c65b0
          try clear c65b1
          try clear c67
          try clear c68
          try clear c70
          try clear hcz17_0
          try clear hcz17_1
          try clear hcz17_2
          try clear hcz17_3
          try clear hcz17_4
          try clear hcz19_0
          try clear hcz19_1
          try clear hcz21_0
          try clear hcz21_1
          try clear hcz24_0
          try clear hcz24_1
          try clear hcz24_2
          try clear hcz24_3
          try clear hcz24_4
          try clear hcz26_0
          try clear hcz26_1
          try clear hcz28_0
          try clear hcz28_1
          try clear hcz30_0
          try clear hcz30_1
          try clear hcz30_2
          try clear hcz30_3
          try clear hcz30_4
          try clear hcz32_0
          try clear hcz32_1
          try clear hcz34_0
          try clear hcz34_1
          try clear hcz36_0
          try clear hcz36_1
          try clear hcz36_2
          try clear hcz36_3
          try clear hcz36_4
          try clear hcz38_0
          try clear hcz38_1
          try clear hcz41_0
          try clear hcz41_1
          try clear hcz41_2
          try clear hcz41_3
          try clear hcz41_4
          try clear hcz47_0
          try clear hcz47_1
          try clear hcz47_2
          try clear hcz47_3
          try clear hcz47_4
          try clear hcz62_0
          try clear hcz62_1
          try clear hcz62_2
          try clear hcz62_3
          try clear hcz62_4
          try clear hcz69_0
          try clear hcz69_1
          try clear hcz69_2
          try clear hcz69_3
          try clear hcz69_4
          try clear hcz71_0
          try clear hcz71_1
          try clear hcz71_2
          try clear hcz71_3
          try clear hcz71_4
          try clear hfz17_0
          try clear hfz17_1
          try clear hfz17_2
          try clear hfz17_3
          try clear hfz17_4
          try clear hfz19_0
          try clear hfz19_1
          try clear hfz21_0
          try clear hfz21_1
          try clear hfz24_0
          try clear hfz24_1
          try clear hfz24_2
          try clear hfz24_3
          try clear hfz24_4
          try clear hfz26_0
          try clear hfz26_1
          try clear hfz28_0
          try clear hfz28_1
          try clear hfz30_0
          try clear hfz30_1
          try clear hfz30_2
          try clear hfz30_3
          try clear hfz30_4
          try clear hfz32_0
          try clear hfz32_1
          try clear hfz34_0
          try clear hfz34_1
          try clear hfz36_0
          try clear hfz36_1
          try clear hfz36_2
          try clear hfz36_3
          try clear hfz36_4
          try clear hfz38_0
          try clear hfz38_1
          try clear hfz41_0
          try clear hfz41_1
          try clear hfz41_2
          try clear hfz41_3
          try clear hfz41_4
          try clear hfz47_0
          try clear hfz47_1
          try clear hfz47_2
          try clear hfz47_3
          try clear hfz47_4
          try clear hfz62_0
          try clear hfz62_1
          try clear hfz62_2
          try clear hfz62_3
          try clear hfz62_4
          try clear hfz69_0
          try clear hfz69_1
          try clear hfz69_2
          try clear hfz69_3
          try clear hfz69_4
          try clear hfz71_0
          try clear hfz71_1
          try clear hfz71_2
          try clear hfz71_3
          try clear hfz71_4
          try clear p2
          obtain ⟨kq,x77_52,rfl,HA,HJ52,HO_361004,BK336,BK337,BK360,HB⟩:=hcut
          cases kq with
          | zero => exact absurd HA.out (by simp [windlasslaw2_CodecBack.j1])
          | succ kj52 =>
           have H:=HA.out
           clear HA
           simp only [windlasslaw2_CodecBack.j1] at H
           by_cases c73 : x77_52 = true
           ·subst c73
            have H1 : (some false) = some r:=by rw [if_pos rfl] at H;exact H
            clear H
            have H:=H1
            clear H1
            obtain rfl:=Option.some.inj H
            go_wp2
            go_ret
            exact ⟨by first|rfl|(simp [errW_none,errW_some] <;> rfl)|(simp [*,errW_none,errW_some] <;> rfl),by repeat (first|(with_reducible first|exact HB.out|apply below_alloc|apply pw_below_drewN|apply below_drew1|refine below_set ?_ GE336.out|refine below_set ?_ GE337.out|refine below_set ?_ GE360.out)|exact HB.out)⟩
           ·replace c73:=Bool.eq_false_iff.mpr c73
            subst c73
            have H1 : (windlasslaw2_CodecBack.j2 kj52 l2 l3 a1_0 l1_1) = some r:=by rw [if_neg (show ¬ (false = true) by decide)] at H;exact H
            clear H
            have H:=H1
            clear H1
            have H':=Aside0.mk H
            clear H
            go_wp2
            go_meet
            case rel => exact ⟨_,H',⟨by have:=HJ6.out;have:=HJ52.out;first|omega|exact Nat.le_refl _⟩,⟨by (with_reducible repeat (first|refine blk_drewN ?_ _|refine blk_drew ?_|refine blk_alloc ?_ _));exact BK336.out⟩,⟨by (with_reducible repeat (first|refine blk_drewN ?_ _|refine blk_drew ?_|refine blk_alloc ?_ _));exact BK337.out⟩,⟨by repeat (first|(with_reducible first|exact HB.out|apply below_alloc|apply pw_below_drewN|apply below_drew1|refine below_set ?_ GE336.out|refine below_set ?_ GE337.out|refine below_set ?_ GE360.out)|exact HB.out)⟩⟩
        ·rw [if_neg c51] at H
         exact absurd H (by simp)
       ·rw [if_neg c50] at H
        exact absurd H (by simp)
      ·rw [if_neg c49] at H
       have c49b0 : (t344 == 0) = false:=beq_eq_false_iff_ne.mpr c49
       have c49b1 : (t344 != 0) = true:=bne_iff_ne.mpr c49
       (first|rw [c49b0]|(simp only [i64_w,i32_w];rw [c49b0])|skip)
       have H':=Aside0.mk H
       clear H
       go_wp2
       go_meet
       case rel => exact ⟨_,H',⟨by have:=HJ6.out;first|omega|exact Nat.le_refl _⟩,⟨by (with_reducible repeat (first|refine blk_drewN ?_ _|refine blk_drew ?_|refine blk_alloc ?_ _));exact BK336.out⟩,⟨by (with_reducible repeat (first|refine blk_drewN ?_ _|refine blk_drew ?_|refine blk_alloc ?_ _));exact BK337.out⟩,⟨by repeat (first|(with_reducible first|exact HB.out|apply below_alloc|apply pw_below_drewN|apply below_drew1|refine below_set ?_ GE336.out|refine below_set ?_ GE337.out)|exact HB.out)⟩⟩
     case rest =>
      clear HC45
      try clear c1
      try clear c2
      try clear p2
      try clear c3
      try clear c4
      try clear c5
      try clear c6
      try clear c7
      try clear c8
      try clear c9
      try clear c10
      try clear c12
      try clear c14
      try clear c15
      try clear c15b0
      try clear c15b1
      try clear c16
      try clear c22
      try clear c22b0
      try clear c22b1
      try clear c23
      try clear c26
      try clear c29
      try clear c35
      try clear c40
      try clear c43
      try clear c46
      try clear c49
      try clear c49b0
      try clear c49b1
      try clear c50
      try clear c51
      try clear c60
      try clear c61
      try clear c64
      try clear c64b0
      try clear c64b1
      try clear c65
      try clear c65b0
      try clear c65b1
      try clear c67
      try clear c68
      try clear c70
      try clear c73
      try clear hcz17_0
      try clear hcz17_1
      try clear hcz17_2
      try clear hcz17_3
      try clear hcz17_4
      try clear hcz19_0
      try clear hcz19_1
      try clear hcz21_0
      try clear hcz21_1
      try clear hcz24_0
      try clear hcz24_1
      try clear hcz24_2
      try clear hcz24_3
      try clear hcz24_4
      try clear hcz26_0
      try clear hcz26_1
      try clear hcz28_0
      try clear hcz28_1
      try clear hcz30_0
      try clear hcz30_1
      try clear hcz30_2
      try clear hcz30_3
      try clear hcz30_4
      try clear hcz32_0
      try clear hcz32_1
      try clear hcz34_0
      try clear hcz34_1
      try clear hcz36_0
      try clear hcz36_1
      try clear hcz36_2
      try clear hcz36_3
      try clear hcz36_4
      try clear hcz38_0
      try clear hcz38_1
      try clear hcz41_0
      try clear hcz41_1
      try clear hcz41_2
      try clear hcz41_3
      try clear hcz41_4
      try clear hcz47_0
      try clear hcz47_1
      try clear hcz47_2
      try clear hcz47_3
      try clear hcz47_4
      try clear hcz62_0
      try clear hcz62_1
      try clear hcz62_2
      try clear hcz62_3
      try clear hcz62_4
      try clear hcz69_0
      try clear hcz69_1
      try clear hcz69_2
      try clear hcz69_3
      try clear hcz69_4
      try clear hcz71_0
      try clear hcz71_1
      try clear hcz71_2
      try clear hcz71_3
      try clear hcz71_4
      try clear hfz17_0
      try clear hfz17_1
      try clear hfz17_2
      try clear hfz17_3
      try clear hfz17_4
      try clear hfz19_0
      try clear hfz19_1
      try clear hfz21_0
      try clear hfz21_1
      try clear hfz24_0
      try clear hfz24_1
      try clear hfz24_2
      try clear hfz24_3
      try clear hfz24_4
      try clear hfz26_0
      try clear hfz26_1
      try clear hfz28_0
      try clear hfz28_1
      try clear hfz30_0
      try clear hfz30_1
      try clear hfz30_2
      try clear hfz30_3
      try clear hfz30_4
      try clear hfz32_0
      try clear hfz32_1
      try clear hfz34_0
      try clear hfz34_1
      try clear hfz36_0
      try clear hfz36_1
      try clear hfz36_2
      try clear hfz36_3
      try clear hfz36_4
      try clear hfz38_0
      try clear hfz38_1
      try clear hfz41_0
      try clear hfz41_1
      try clear hfz41_2
      try clear hfz41_3
      try clear hfz41_4
      try clear hfz47_0
      try clear hfz47_1
      try clear hfz47_2
      try clear hfz47_3
      try clear hfz47_4
      try clear hfz62_0
      try clear hfz62_1
      try clear hfz62_2
      try clear hfz62_3
      try clear hfz62_4
      try clear hfz69_0
      try clear hfz69_1
      try clear hfz69_2
      try clear hfz69_3
      try clear hfz69_4
      try clear hfz71_0
      try clear hfz71_1
      try clear hfz71_2
      try clear hfz71_3
      try clear hfz71_4
      try clear p2
      obtain ⟨kq,HA,HJ44,BK336,BK337,HB⟩:=hcut
      rename_i ic00_ ic01_ ic02_ ic03_ ic04_ ic05_ ic06_ ic07_ ic08_ ic09_ ic010_ ic011_ ic012_ ic013_ ic014_ ic015_ ic016_ ic017_ ic018_ ic019_ ic020_ ic021_ ic022_ ic023_ ic024_ ic025_ ic026_ ic027_ ic028_ ic029_ ic030_ ic031_ ic032_ ic033_ ic034_ ic035_ ic036_ ic037_ ic038_ ic039_ ic040_ ic041_ ic042_ ic043_ ic044_ ic045_ ic046_ ic047_ ic048_ ic049_ ic050_ ic051_ ic052_ ic053_ ic054_ ic055_ ic056_ ic057_ ic058_ ic059_ ic060_ ic061_ ic062_ ic063_ ic064_ ic065_ ic066_ ic067_ ic068_ ic069_ ic070_ ic071_ ic072_ ic073_ ic074_ ic075_ ic076_ ic077_ ic078_ ic079_ ic080_ ic081_ ic082_ ic083_ ic084_ ic085_ ic086_ ic087_ ic088_ ic089_ ic090_ ic091_ ic092_ ic093_ ic094_ ic095_ ic096_ ic097_ ic098_ ic099_ ic0100_ ic0101_ ic0102_ ic0103_ ic0104_ ic0105_ ic0106_ ic0107_ ic0108_ ic0109_ ic0110_ ic0111_ ic0112_ ic0113_ ic0114_ ic0115_ ic0116_ ic0117_ ic0118_ ic0119_ ic0120_ ic0121_ ic0122_ ic0123_ ic0124_ ic0125_ ic0126_ ic0127_ ic0128_ ic0129_ ic0130_ ic0131_ ic0132_ ic0133_ ic0134_ ic0135_ ic0136_ ic0137_ ic0138_ ic0139_ ic0140_ ic0141_ ic0142_ ic0143_ ic0144_ ic0145_ ic0146_ ic0147_ ic0148_ ic0149_ ic0150_ ic0151_ ic0152_ ic0153_ ic0154_ ic0155_ ic0156_ ic0157_ ic0158_ ic0159_ ic0160_ ic0161_
      revert hu24 hu26 HR0_4 HC0_4 HR1_1 HC1_1 HR2 HC2 HR3 HC3 A5 ic00_ gb336 w8 GW336 GE336 gb337 w9 GW337 GE337 NB336_337 NB337_336 w10 ic01_ ic02_ ic03_ ic04_ ic05_ ic06_ ic07_ ic08_ ic09_ ic010_ ic011_ ic012_ ic013_ ic014_ ic015_ ic016_ ic017_ ic018_ ic019_ ic020_ ic021_ ic022_ ic023_ ic024_ ic025_ ic026_ ic027_ ic028_ ic029_ ic030_ ic031_ ic032_ ic033_ ic034_ ic035_ ic036_ ic037_ ic038_ ic039_ ic040_ ic041_ ic042_ ic043_ ic044_ ic045_ ic046_ ic047_ ic048_ ic049_ ic050_ ic051_ ic052_ ic053_ ic054_ ic055_ ic056_ ic057_ ic058_ ic059_ ic060_ ic061_ ic062_ ic063_ ic064_ ic065_ ic066_ ic067_ ic068_ ic069_ ic070_ ic071_ ic072_ ic073_ ic074_ ic075_ ic076_ ic077_ ic078_ ic079_ ic080_ ic081_ ic082_ ic083_ ic084_ ic085_ ic086_ ic087_ ic088_ ic089_ ic090_ ic091_ ic092_ ic093_ ic094_ ic095_ ic096_ ic097_ ic098_ ic099_ ic0100_ ic0101_ ic0102_ ic0103_ ic0104_ ic0105_ ic0106_ ic0107_ ic0108_ ic0109_ ic0110_ ic0111_ ic0112_ ic0113_ ic0114_ ic0115_ ic0116_ ic0117_ ic0118_ ic0119_ ic0120_ ic0121_ ic0122_ ic0123_ ic0124_ ic0125_ ic0126_ ic0127_ ic0128_ ic0129_ ic0130_ ic0131_ ic0132_ ic0133_ ic0134_ ic0135_ ic0136_ ic0137_ ic0138_ ic0139_ ic0140_ ic0141_ ic0142_ ic0143_ ic0144_ ic0145_ ic0146_ ic0147_ ic0148_ ic0149_ ic0150_ ic0151_ ic0152_ ic0153_ ic0154_ ic0155_ ic0156_ kj6 HJ6 t341 t344 A44 hnb46 hnc46 w48 v342 HO343 ic0157_ ic0158_ ic0159_ ic0160_ ic0161_ wc u8 u11 u12 u13 u21 u22 u23 u24 u25 u26 u27 u28 u29 u30 u31 u32 u33 u34 u35 u36 u37 u38 u39 u40 u41 u42 u43 u44 u45 u46 u47 u48 u49 u50 u51 u52 u53 u54 u55 u56 u57 u58 u59 u60 u61 u62 u63 u64 u65 u66 u67 u68 u69 u70 u71 u72 u73 u74 u75 u76 u77 u78 u79 u80 u81 u82 u83 u84 u85 u86 u87 u88 u89 u90 u91 u92 u93 u94 u95 u96 u97 u98 u99 u100 u101 u102 u103 u104 u105 u106 u107 u108 u109 u110 u111 u112 u113 u114 u115 u116 u117 u118 u119 u120 u121 u122 u123 u124 u125 u126 u127 u128 u129 u130 u131 u132 u133 u134 u135 u136 u137 u138 u139 u140 u141 u142 u143 u144 u145 u146 u147 u148 u149 u150 u151 u152 u153 u154 u155 u156 u157 u158 u159 u160 u161 u162 u163 u164 u165 u166 u167 u168 u169 u170 u171 u172 u173 kq HA HJ44 BK336 BK337 HB
      exact hcutP.out
 ·replace c6:=Bool.eq_false_iff.mpr c6
  subst c6
  have H1 : (some false) = some r:=by rw [if_neg (show ¬ (false = true) by decide)] at H;exact H
  clear H
  have H:=H1
  clear H1
  obtain rfl:=Option.some.inj H
  go_enter Try.func8,Try.ntmps8
  go_wp2_with (first|((with_reducible refine gate_dst (N:=4) rfl ?_);(try (refine gate_guard (by rfl) ?_;dsimp only));refine box_event ?hg (N:=4) ?hd (cs:=#[.int .i64 a0_0, .int .i64 a0_1, .string a0_2, .int .i64 a0_3, .slice A0_4 l0_4.length c0_4]) (t:=24) ?hr ?_;(case hd => rfl);(case hg => rfl);(case hr => first|(go_simp;done)|(go_simp;rfl));intro gb336 hg w176 hbox hb;have n0_:=Aside0.mk (below_step (by repeat (first|(with_reducible first|exact HB.out|apply below_alloc|apply pw_below_drewN|apply below_drew1)|exact HB.out)) hb);have n1_:=Aside0.mk (hbox);have n2_:=Aside0.mk ((by rw [hg];exact (below_size (by repeat (first|(with_reducible first|exact HB.out|apply below_alloc|apply pw_below_drewN|apply below_drew1)|exact HB.out))) : w.heap.size ≤ gb336));have n3_:=Aside0.mk ((by rw [hg];exact (below_size (by repeat (first|(with_reducible first|exact HB.out|apply below_alloc|apply pw_below_drewN|apply below_drew1)|exact HB.out))) : w.heap.size ≤ gb336));clear HB;have HB:=n0_;have BK336:=n1_;have GW336:=n2_;have GE336:=n3_;clear n0_ n1_ n2_ n3_;clear hb hbox hg)|((with_reducible refine gate_dst (N:=5) rfl ?_);(try (refine gate_guard (by rfl) ?_;dsimp only));refine box_event ?hg (N:=5) ?hd (cs:=#[.string a1_0, .slice A1_1 l1_1.length c1_1]) (t:=26) ?hr ?_;(case hd => rfl);(case hg => rfl);(case hr => first|(go_simp;done)|(go_simp;rfl));intro gb337 hg w177 hbox hb;have n0_:=Aside0.mk (blk_below (g:=gb336) (o := .cells #[.int .i64 a0_0, .int .i64 a0_1, .string a0_2, .int .i64 a0_3, .slice A0_4 l0_4.length c0_4] 24 (0,0)) (by (with_reducible repeat (first|refine blk_drewN ?_ _|refine blk_drew ?_|refine blk_alloc ?_ _));exact BK336.out) hb);have n1_:=Aside0.mk (below_step (by repeat (first|(with_reducible first|exact HB.out|apply below_alloc|apply pw_below_drewN|apply below_drew1|refine below_set ?_ GE336.out)|exact HB.out)) hb);have n2_:=Aside0.mk (hbox);have n3_:=Aside0.mk ((by rw [hg];exact (below_size (by repeat (first|(with_reducible first|exact HB.out|apply below_alloc|apply pw_below_drewN|apply below_drew1|refine below_set ?_ GE336.out)|exact HB.out))) : w.heap.size ≤ gb337));have n4_:=Aside0.mk ((by rw [hg];exact (below_size (by repeat (first|(with_reducible first|exact HB.out|apply below_alloc|apply pw_below_drewN|apply below_drew1|refine below_set ?_ GE336.out)|exact HB.out))) : w.heap.size ≤ gb337));have n5_:=Aside0.mk ((by rw [hg];exact Nat.ne_of_lt (blk_lt (g:=gb336) (o := .cells #[.int .i64 a0_0, .int .i64 a0_1, .string a0_2, .int .i64 a0_3, .slice A0_4 l0_4.length c0_4] 24 (0,0)) (by (with_reducible repeat (first|refine blk_drewN ?_ _|refine blk_drew ?_|refine blk_alloc ?_ _));exact BK336.out)) : gb336 ≠ gb337));have n6_:=Aside0.mk ((by rw [hg];exact Nat.ne_of_gt (blk_lt (g:=gb336) (o := .cells #[.int .i64 a0_0, .int .i64 a0_1, .string a0_2, .int .i64 a0_3, .slice A0_4 l0_4.length c0_4] 24 (0,0)) (by (with_reducible repeat (first|refine blk_drewN ?_ _|refine blk_drew ?_|refine blk_alloc ?_ _));exact BK336.out)) : gb337 ≠ gb336));clear BK336;clear HB;have BK336:=n0_;have HB:=n1_;have BK337:=n2_;have GW337:=n3_;have GE337:=n4_;have NB336_337:=n5_;have NB337_336:=n6_;clear n0_ n1_ n2_ n3_ n4_ n5_ n6_;clear hb hbox hg)|((with_reducible refine gate_callee (f:=9) rfl ?_);refine goesL_ (some 21) rfl rfl Try.func9 (by kernel_rfl) rfl #[] rfl (by (try simp only [List.map_toArray,List.map_cons,List.map_nil]);first|done|rfl|(simp only [List.length_drop,List.length_take];rfl)|(go_simp;done)|(go_simp;simp;done)) ?_;(with_reducible refine (windlasslaw2_known.calls k  false _ A5.out).mono ?_);rintro e w178 ⟨rfl,hb⟩;refine ⟨_,rfl,?_⟩;have n0_:=Aside0.mk (blk_below (g:=gb336) (o := .cells #[.int .i64 a0_0, .int .i64 a0_1, .string a0_2, .int .i64 a0_3, .slice A0_4 l0_4.length c0_4] 24 (0,0)) (by (with_reducible repeat (first|refine blk_drewN ?_ _|refine blk_drew ?_|refine blk_alloc ?_ _));exact BK336.out) hb);have n1_:=Aside0.mk (blk_below (g:=gb337) (o := .cells #[.string a1_0, .slice A1_1 l1_1.length c1_1] 26 (0,0)) (by (with_reducible repeat (first|refine blk_drewN ?_ _|refine blk_drew ?_|refine blk_alloc ?_ _));exact BK337.out) hb);have n2_:=Aside0.mk (below_step (by repeat (first|(with_reducible first|exact HB.out|apply below_alloc|apply pw_below_drewN|apply below_drew1|refine below_set ?_ GE336.out|refine below_set ?_ GE337.out)|exact HB.out)) hb);clear BK336;clear BK337;clear HB;have BK336:=n0_;have BK337:=n1_;have HB:=n2_;clear n0_ n1_ n2_;(try clear hb);(try clear hb2);(try clear hk);(try clear hi)))
  go_ret
  exact ⟨by first|rfl|(simp [errW_none,errW_some] <;> rfl)|(simp [*,errW_none,errW_some] <;> rfl),by repeat (first|(with_reducible first|exact HB.out|apply below_alloc|apply pw_below_drewN|apply below_drew1|refine below_set ?_ GE336.out|refine below_set ?_ GE337.out)|exact HB.out)⟩

set_option maxHeartbeats 8000000 in
set_option maxRecDepth 100000 in
noncomputable def windlasslaw2_CodecBack.p1 (k : Nat) (a0_0 : Int) (a0_1 : Int) (a0_2 : ByteArray) (a0_3 : Int) (A0_4 : Option Addr) (c0_4 : Nat) (l0_4 : List (S24)) (a1_0 : ByteArray) (A1_1 : Option Addr) (c1_1 : Nat) (l1_1 : List (S24)) (A2 : Option Addr) (c2 : Nat) (l2 : List Int) (A3 : Option Addr) (c3 : Nat) (l3 : List Int) (r : Bool) (w : World) : windlasslaw2_CodecBack.Cut ((windlasslaw2_CodecBack.p0 k a0_0 a0_1 a0_2 a0_3 A0_4 c0_4 l0_4 a1_0 A1_1 c1_1 l1_1 A2 c2 l2 A3 c3 l3 r w).P):=by
 apply windlasslaw2_CodecBack.cut_mk
 intro hcutP
 intro hu24 hu26 HR0_4 HC0_4 HR1_1 HC1_1 HR2 HC2 HR3 HC3 A5 ic00_ gb336 w8 GW336 GE336 gb337 w9 GW337 GE337 NB336_337 NB337_336 w10 ic01_ ic02_ ic03_ ic04_ ic05_ ic06_ ic07_ ic08_ ic09_ ic010_ ic011_ ic012_ ic013_ ic014_ ic015_ ic016_ ic017_ ic018_ ic019_ ic020_ ic021_ ic022_ ic023_ ic024_ ic025_ ic026_ ic027_ ic028_ ic029_ ic030_ ic031_ ic032_ ic033_ ic034_ ic035_ ic036_ ic037_ ic038_ ic039_ ic040_ ic041_ ic042_ ic043_ ic044_ ic045_ ic046_ ic047_ ic048_ ic049_ ic050_ ic051_ ic052_ ic053_ ic054_ ic055_ ic056_ ic057_ ic058_ ic059_ ic060_ ic061_ ic062_ ic063_ ic064_ ic065_ ic066_ ic067_ ic068_ ic069_ ic070_ ic071_ ic072_ ic073_ ic074_ ic075_ ic076_ ic077_ ic078_ ic079_ ic080_ ic081_ ic082_ ic083_ ic084_ ic085_ ic086_ ic087_ ic088_ ic089_ ic090_ ic091_ ic092_ ic093_ ic094_ ic095_ ic096_ ic097_ ic098_ ic099_ ic0100_ ic0101_ ic0102_ ic0103_ ic0104_ ic0105_ ic0106_ ic0107_ ic0108_ ic0109_ ic0110_ ic0111_ ic0112_ ic0113_ ic0114_ ic0115_ ic0116_ ic0117_ ic0118_ ic0119_ ic0120_ ic0121_ ic0122_ ic0123_ ic0124_ ic0125_ ic0126_ ic0127_ ic0128_ ic0129_ ic0130_ ic0131_ ic0132_ ic0133_ ic0134_ ic0135_ ic0136_ ic0137_ ic0138_ ic0139_ ic0140_ ic0141_ ic0142_ ic0143_ ic0144_ ic0145_ ic0146_ ic0147_ ic0148_ ic0149_ ic0150_ ic0151_ ic0152_ ic0153_ ic0154_ ic0155_ ic0156_ kj6 HJ6 t341 t344 A44 hnb46 hnc46 w48 v342 HO343 ic0157_ ic0158_ ic0159_ ic0160_ ic0161_ wc u8 u11 u12 u13 u21 u22 u23 u24 u25 u26 u27 u28 u29 u30 u31 u32 u33 u34 u35 u36 u37 u38 u39 u40 u41 u42 u43 u44 u45 u46 u47 u48 u49 u50 u51 u52 u53 u54 u55 u56 u57 u58 u59 u60 u61 u62 u63 u64 u65 u66 u67 u68 u69 u70 u71 u72 u73 u74 u75 u76 u77 u78 u79 u80 u81 u82 u83 u84 u85 u86 u87 u88 u89 u90 u91 u92 u93 u94 u95 u96 u97 u98 u99 u100 u101 u102 u103 u104 u105 u106 u107 u108 u109 u110 u111 u112 u113 u114 u115 u116 u117 u118 u119 u120 u121 u122 u123 u124 u125 u126 u127 u128 u129 u130 u131 u132 u133 u134 u135 u136 u137 u138 u139 u140 u141 u142 u143 u144 u145 u146 u147 u148 u149 u150 u151 u152 u153 u154 u155 u156 u157 u158 u159 u160 u161 u162 u163 u164 u165 u166 u167 u168 u169 u170 u171 u172 u173 kq HA HJ44 BK336 BK337 HB
 cases kq with
 | zero => exact absurd HA.out (by simp [windlasslaw2_CodecBack.j2])
 | succ kj44 =>
  have H:=HA.out
  clear HA
  simp only [windlasslaw2_CodecBack.j2] at H
  replace H:=Option.bind_eq_some_iff.mp H
  obtain ⟨⟨t362,t365⟩,A740,H⟩:=H
  replace H : (if t365 = 0 then (if ([] : List Int).length + t362.length < 140737488355328 then ((some (([] : List Int) ++ t362 : List Int)).bind fun y366 => (if y366.length + l2.length < 140737488355328 then ((codec_Event.f kj44 (y366 ++ l2)).bind fun bt372 => (if bt372.2.2.2 = 0 then (if bt372.2.2.1 = (t362.length : Int) then (if bt372.1.toList = a1_0.toList then ((windlassref3_All.f kj44 bt372.2.1 l1_1).bind fun t379 => (windlasslaw2_CodecBack.j3 kj44 l3 (!t379))) else (windlasslaw2_CodecBack.j3 kj44 l3 true)) else (windlasslaw2_CodecBack.j3 kj44 l3 true)) else (windlasslaw2_CodecBack.j3 kj44 l3 true))) else (none))) else (none)) else (windlasslaw2_CodecBack.j4 kj44 l3)) = some r:=H
  have A74:=Aside0.mk A740
  clear A740
  have HC75:=Aside0.mk H
  clear H
  have hnb76:=NB337_336.out
  have hnc76:=NB336_337.out
  have hcz77_0 : wc.cell? ⟨gb337,0,none⟩ = some (.string a1_0):=(blk_cell BK337.out 0).trans rfl
  have hcz77_1 : wc.cell? ⟨gb337,1,none⟩ = some (.slice A1_1 l1_1.length c1_1):=(blk_cell BK337.out 1).trans rfl
  have hfz77_0:=blk_frozen BK337.out 0
  have hfz77_1:=blk_frozen BK337.out 1
  go_upto_if 84 with (first|((with_reducible refine gate_callee (f:=14) rfl ?_);refine goesL_ (some 80) rfl rfl Try.func14 (by kernel_rfl) rfl #[.agg #[.string a1_0, .slice A1_1 l1_1.length c1_1]] rfl (by (try simp only [List.map_toArray,List.map_cons,List.map_nil]);first|done|rfl|(simp only [List.length_drop,List.length_take];rfl)|(go_simp;done)|(go_simp;simp;done)) ?_;(with_reducible refine (codec_PutEvent.calls kj44 a1_0 _ _ l1_1 t362 t365 _ ?side1 ?side2 A74.out).mono ?_);(case side1 => repeat (first|exact (Kd.C_below HR1_1.out HB.out)|(with_reducible refine Kd.C_alloc ?_ _)|(with_reducible refine Kd.C_drewN ?_ _)|(with_reducible refine Kd.C_drew ?_)));(case side2 => exact HC1_1.out);rintro e w78 ⟨v363,rfl,ho0,hb⟩;refine ⟨_,rfl,?_⟩;have n0_:=Aside0.mk (Kd.R_lower ho0 (below_size (by repeat (first|(with_reducible first|exact HB.out|apply below_alloc|apply pw_below_drewN|apply below_drew1|refine below_set ?_ GE336.out|refine below_set ?_ GE337.out)|exact HB.out))));have n1_:=Aside0.mk (blk_below (g:=gb336) (o := .cells #[.int .i64 a0_0, .int .i64 a0_1, .string a0_2, .int .i64 a0_3, .slice A0_4 l0_4.length c0_4] 24 (0,0)) (by (with_reducible repeat (first|refine blk_drewN ?_ _|refine blk_drew ?_|refine blk_alloc ?_ _));exact BK336.out) hb);have n2_:=Aside0.mk (blk_below (g:=gb337) (o := .cells #[.string a1_0, .slice A1_1 l1_1.length c1_1] 26 (0,0)) (by (with_reducible repeat (first|refine blk_drewN ?_ _|refine blk_drew ?_|refine blk_alloc ?_ _));exact BK337.out) hb);have n3_:=Aside0.mk (below_step (by repeat (first|(with_reducible first|exact HB.out|apply below_alloc|apply pw_below_drewN|apply below_drew1|refine below_set ?_ GE336.out|refine below_set ?_ GE337.out)|exact HB.out)) hb);clear BK336;clear BK337;clear HB;have HO364:=n0_;have BK336:=n1_;have BK337:=n2_;have HB:=n3_;clear n0_ n1_ n2_ n3_;(try clear hb);(try clear hb2);(try clear hk);(try clear hi);(try clear ho0)))
  (try simp only [Act.put,List.setIfInBounds_toArray,List.set_cons_zero,List.set_cons_succ])
  go_cut [] (fun wc => ∃ (kq : Nat),Aside0 (windlasslaw2_CodecBack.j4 kq l3 = some r) ∧ Aside0 (kq ≤ kj44) ∧ Aside0 (wc.heap[gb336]? = some (.cells #[.int .i64 a0_0, .int .i64 a0_1, .string a0_2, .int .i64 a0_3,(.slice A0_4 l0_4.length c0_4)] 24 (0,0))) ∧ Aside0 (wc.heap[gb337]? = some (.cells #[.string a1_0,(.slice A1_1 l1_1.length c1_1)] 26 (0,0))) ∧ Aside0 (Below w.heap.size w wc))
  case first =>
   have H:=HC75.out
   clear HC75
   by_cases c79 : t365 = 0
   ·rw [if_pos c79] at H
    have c79b0 : (t365 == 0) = true:=beq_iff_eq.mpr c79
    have c79b1 : (t365 != 0) = false:=bne_eq_false_iff_eq.mpr c79
    clear c79
    (first|rw [c79b0]|(simp only [i64_w,i32_w];rw [c79b0])|skip)
    by_cases c80 : ([] : List Int).length + t362.length < 140737488355328
    ·rw [if_pos c80] at H
     have LMc80:=Aside0.mk c80
     clear c80
     obtain ⟨y366,hy366⟩ : ∃ y_ : List Int,y_ = (([] : List Int) ++ t362):=⟨_,rfl⟩
     replace H : (if y366.length + l2.length < 140737488355328 then ((codec_Event.f kj44 (y366 ++ l2)).bind fun bt372 => (if bt372.2.2.2 = 0 then (if bt372.2.2.1 = (t362.length : Int) then (if bt372.1.toList = a1_0.toList then ((windlassref3_All.f kj44 bt372.2.1 l1_1).bind fun t379 => (windlasslaw2_CodecBack.j3 kj44 l3 (!t379))) else (windlasslaw2_CodecBack.j3 kj44 l3 true)) else (windlasslaw2_CodecBack.j3 kj44 l3 true)) else (windlasslaw2_CodecBack.j3 kj44 l3 true))) else (none)) = some r:=by first|(rw [hy366];with_reducible exact H)|(have H2_:=(Option.bind_some _ _).symm.trans H;rw [hy366];with_reducible exact H2_)|(have H2_:=(Option.bind_some _ _).symm.trans H;with_reducible exact H2_)|with_reducible exact H|(rw [hy366];exact H)|exact H
     have Ny366:=Aside0.mk hy366
     clear hy366
     by_cases c81 : y366.length + l2.length < 140737488355328
     ·rw [if_pos c81] at H
      have LMc81:=Aside0.mk c81
      clear c81
      obtain ⟨y369,hy369⟩ : ∃ y_ : List Int,y_ = (y366 ++ l2):=⟨_,rfl⟩
      replace H : ((codec_Event.f kj44 y369).bind fun bt372 => (if bt372.2.2.2 = 0 then (if bt372.2.2.1 = (t362.length : Int) then (if bt372.1.toList = a1_0.toList then ((windlassref3_All.f kj44 bt372.2.1 l1_1).bind fun t379 => (windlasslaw2_CodecBack.j3 kj44 l3 (!t379))) else (windlasslaw2_CodecBack.j3 kj44 l3 true)) else (windlasslaw2_CodecBack.j3 kj44 l3 true)) else (windlasslaw2_CodecBack.j3 kj44 l3 true))) = some r:=by first|(rw [hy369];with_reducible exact H)|(have H2_:=(Option.bind_some _ _).symm.trans H;rw [hy369];with_reducible exact H2_)|(have H2_:=(Option.bind_some _ _).symm.trans H;with_reducible exact H2_)|with_reducible exact H|(rw [hy369];exact H)|exact H
      have Ny369:=Aside0.mk hy369
      clear hy369
      replace H:=Option.bind_eq_some_iff.mp H
      obtain ⟨⟨t372,t373,t376,t377⟩,A820,H⟩:=H
      replace H : (if t377 = 0 then (if t376 = (t362.length : Int) then (if t372.toList = a1_0.toList then ((windlassref3_All.f kj44 t373 l1_1).bind fun t379 => (windlasslaw2_CodecBack.j3 kj44 l3 (!t379))) else (windlasslaw2_CodecBack.j3 kj44 l3 true)) else (windlasslaw2_CodecBack.j3 kj44 l3 true)) else (windlasslaw2_CodecBack.j3 kj44 l3 true)) = some r:=H
      have A82:=Aside0.mk A820
      clear A820
      have HC83:=Aside0.mk H
      clear H
      obtain ⟨Ao85,co85,eo85⟩:=Kd.R_slice HO364.out
      subst eo85
      go_upto_region 13 with (first|((with_reducible refine gate_builtin (b := .append) (xs:=#[(.const (.slice none 0 0)), .tmp 86]) rfl ?_);(try (refine gate_guard (by rfl) ?_;dsimp only));at_builtin;refine Kd.R_append_rows (Kd.int .u8) (w0:=w) w.heap.size rfl (.const (.slice none 0 0)) (.tmp 86) 30 5 (.int .u8 0) 1 rfl Try.underlying30 info5 rfl (by decide) (by omega) (.slice none 0 0) ([] : List Int) t362 _ _ _ (fun k_ => some k_ ≠ (.slice Ao85 t362.length co85 : Value).ownBlock) (fun _ => False) rfl rfl ?aO ?aR (fun _ _ h => h) (fun _ h => h.elim) ?aF ?aB ?aS ?aL ?_;(case aR => repeat (first|exact (Kd.R_reads' HO364.out).2.2|(with_reducible refine Kd.C_alloc ?_ _)|(with_reducible refine Kd.C_drewN ?_ _)|(with_reducible refine Kd.C_drew ?_)));(case aB => exact (by repeat (first|(with_reducible first|exact HB.out|apply below_alloc|apply pw_below_drewN|apply below_drew1|refine below_set ?_ GE336.out|refine below_set ?_ GE337.out)|exact HB.out)));(case aF => exact (fun k_ hk => Kd.fresh' (Kd.R_lt (by (with_reducible repeat (first|apply Kd.R_alloc|apply Kd.R_drewN|apply Kd.R_drew));exact HO364.out)) k_ hk));(case aO => exact ((Kd.R_nil _ _ _ _ (fun k_ => some k_ ≠ (.slice Ao85 t362.length co85 : Value).ownBlock))));(case aS => exact (below_size (by repeat (first|(with_reducible first|exact HB.out|apply below_alloc|apply pw_below_drewN|apply below_drew1|refine below_set ?_ GE336.out|refine below_set ?_ GE337.out)|exact HB.out))));(case aL => have:=LMc80.out;omega);intro v367 w84 ho hb hg hat;rw [← Ny366.out] at ho;have n0_:=Aside0.mk (blk_grown (g:=gb336) (o := .cells #[.int .i64 a0_0, .int .i64 a0_1, .string a0_2, .int .i64 a0_3, .slice A0_4 l0_4.length c0_4] 24 (0,0)) (by (with_reducible repeat (first|refine blk_drewN ?_ _|refine blk_drew ?_|refine blk_alloc ?_ _));exact BK336.out) hg (by simp [Value.ownBlock]));have n1_:=Aside0.mk (blk_grown (g:=gb337) (o := .cells #[.string a1_0, .slice A1_1 l1_1.length c1_1] 26 (0,0)) (by (with_reducible repeat (first|refine blk_drewN ?_ _|refine blk_drew ?_|refine blk_alloc ?_ _));exact BK337.out) hg (by simp [Value.ownBlock]));have n2_:=Aside0.mk (Kd.R_after (Kd.R_apart_nil (by (with_reducible repeat (first|apply Kd.R_alloc|apply Kd.R_drewN|apply Kd.R_drew));exact HO364.out)) hg hat);have n3_:=Aside0.mk (hb);have n4_:=Aside0.mk (ho);clear BK336;clear BK337;clear HO364;clear HB;have BK336:=n0_;have BK337:=n1_;have HO364:=n2_;have HB:=n3_;have HO368:=n4_;clear n0_ n1_ n2_ n3_ n4_;clear ho hb hg hat)|((with_reducible refine gate_builtin (b := .append) (xs:=#[.tmp 87, .tmp 88]) rfl ?_);(try (refine gate_guard (by rfl) ?_;dsimp only));at_builtin;refine Kd.R_append_rows (Kd.int .u8) (w0:=w) w.heap.size rfl (.tmp 87) (.tmp 88) 30 5 (.int .u8 0) 1 rfl Try.underlying30 info5 rfl (by decide) (by omega) v367 y366 l2 _ _ _ (fun k_ => some k_ ≠ (.slice Ao85 t362.length co85 : Value).ownBlock) (fun _ => False) rfl rfl ?aO ?aR (fun _ _ h => h) (fun _ h => h.elim) ?aF ?aB ?aS ?aL ?_;(case aR => repeat (first|exact (Kd.C_below HR2.out HB.out)|(with_reducible refine Kd.C_alloc ?_ _)|(with_reducible refine Kd.C_drewN ?_ _)|(with_reducible refine Kd.C_drew ?_)));(case aB => exact (by repeat (first|(with_reducible first|exact HB.out|apply below_alloc|apply pw_below_drewN|apply below_drew1|refine below_set ?_ GE336.out|refine below_set ?_ GE337.out)|exact HB.out)));(case aF => exact (fun k_ hk => Kd.fresh' (Kd.R_lt (by (with_reducible repeat (first|apply Kd.R_alloc|apply Kd.R_drewN|apply Kd.R_drew));exact HO364.out)) k_ hk));(case aO => exact (by (with_reducible repeat (first|apply Kd.R_alloc|apply Kd.R_drewN|apply Kd.R_drew));exact HO368.out));(case aS => exact (below_size (by repeat (first|(with_reducible first|exact HB.out|apply below_alloc|apply pw_below_drewN|apply below_drew1|refine below_set ?_ GE336.out|refine below_set ?_ GE337.out)|exact HB.out))));(case aL => have:=LMc81.out;omega);intro v370 w86 ho hb hg hat;rw [← Ny369.out] at ho;have n0_:=Aside0.mk (blk_grown (g:=gb336) (o := .cells #[.int .i64 a0_0, .int .i64 a0_1, .string a0_2, .int .i64 a0_3, .slice A0_4 l0_4.length c0_4] 24 (0,0)) (by (with_reducible repeat (first|refine blk_drewN ?_ _|refine blk_drew ?_|refine blk_alloc ?_ _));exact BK336.out) hg (Kd.R_ne HO368.out BK336.out (by decide)));have n1_:=Aside0.mk (blk_grown (g:=gb337) (o := .cells #[.string a1_0, .slice A1_1 l1_1.length c1_1] 26 (0,0)) (by (with_reducible repeat (first|refine blk_drewN ?_ _|refine blk_drew ?_|refine blk_alloc ?_ _));exact BK337.out) hg (Kd.R_ne HO368.out BK337.out (by decide)));have n2_:=Aside0.mk (Kd.R_after (ok:=(fun _ => True)) (by (with_reducible repeat (first|apply Kd.R_alloc|apply Kd.R_drewN|apply Kd.R_drew));exact HO364.out) hg hat);have n3_:=Aside0.mk (hb);have n4_:=Aside0.mk (ho);clear BK336;clear BK337;clear HO364;clear HB;clear HO368;have BK336:=n0_;have BK337:=n1_;have HO364:=n2_;have HB:=n3_;have HO371:=n4_;clear n0_ n1_ n2_ n3_ n4_;clear ho hb hg hat;obtain ⟨Ao87,co87,eo87⟩:=Kd.R_slice HO371.out;subst eo87)|((with_reducible refine gate_callee (f:=32) rfl ?_);refine goesL_ (some 90) rfl rfl Try.func32 (by kernel_rfl) rfl #[.slice Ao87 y369.length co87] rfl (by (try simp only [List.map_toArray,List.map_cons,List.map_nil]);first|done|rfl|(simp only [List.length_drop,List.length_take];rfl)|(go_simp;done)|(go_simp;simp;done)) ?_;(with_reducible refine (codec_Event.calls kj44 _ _ y369 t372 t373 t376 t377 _ ?side1 ?side2 A82.out).mono ?_);(case side1 => repeat (first|exact (Kd.R_reads' HO371.out).2.2|(with_reducible refine Kd.C_alloc ?_ _)|(with_reducible refine Kd.C_drewN ?_ _)|(with_reducible refine Kd.C_drew ?_)));(case side2 => exact (Kd.R_reads' HO371.out).2.1);rintro e w88 ⟨v374,rfl,ho0,hb⟩;refine ⟨_,rfl,?_⟩;have n0_:=Aside0.mk (Kd.R_below (by (with_reducible repeat (first|apply Kd.R_alloc|apply Kd.R_drewN|apply Kd.R_drew));exact HO364.out) hb);have n1_:=Aside0.mk (Kd.R_below (by (with_reducible repeat (first|apply Kd.R_alloc|apply Kd.R_drewN|apply Kd.R_drew));exact HO371.out) hb);have n2_:=Aside0.mk (Kd.R_lower (Kd.R_newB ho0 (g:=gb336) (o := .cells #[.int .i64 a0_0, .int .i64 a0_1, .string a0_2, .int .i64 a0_3, .slice A0_4 l0_4.length c0_4] 24 (0,0)) (by (with_reducible repeat (first|refine blk_drewN ?_ _|refine blk_drew ?_|refine blk_alloc ?_ _));exact BK336.out)) (below_size (by repeat (first|(with_reducible first|exact HB.out|apply below_alloc|apply pw_below_drewN|apply below_drew1|refine below_set ?_ GE336.out|refine below_set ?_ GE337.out)|exact HB.out))));have n3_:=Aside0.mk (blk_below (g:=gb336) (o := .cells #[.int .i64 a0_0, .int .i64 a0_1, .string a0_2, .int .i64 a0_3, .slice A0_4 l0_4.length c0_4] 24 (0,0)) (by (with_reducible repeat (first|refine blk_drewN ?_ _|refine blk_drew ?_|refine blk_alloc ?_ _));exact BK336.out) hb);have n4_:=Aside0.mk (blk_below (g:=gb337) (o := .cells #[.string a1_0, .slice A1_1 l1_1.length c1_1] 26 (0,0)) (by (with_reducible repeat (first|refine blk_drewN ?_ _|refine blk_drew ?_|refine blk_alloc ?_ _));exact BK337.out) hb);have n5_:=Aside0.mk (below_step (by repeat (first|(with_reducible first|exact HB.out|apply below_alloc|apply pw_below_drewN|apply below_drew1|refine below_set ?_ GE336.out|refine below_set ?_ GE337.out)|exact HB.out)) hb);clear HO364;clear HO371;clear BK336;clear BK337;clear HB;have HO364:=n0_;have HO371:=n1_;have HO375:=n2_;have BK336:=n3_;have BK337:=n4_;have HB:=n5_;clear n0_ n1_ n2_ n3_ n4_ n5_;(try clear hb);(try clear hb2);(try clear hk);(try clear hi);(try clear ho0))|((with_reducible refine gate_dst (N:=14) rfl ?_);(try (refine gate_guard (by rfl) ?_;dsimp only));refine box_event ?hg (N:=14) ?hd (cs:=#[.string (⟨#[]⟩ : ByteArray), .slice none 0 0]) (t:=26) ?hr ?_;(case hd => rfl);(case hg => rfl);(case hr => first|(go_simp;done)|(go_simp;rfl));intro gb378 hg w89 hbox hb;have n0_:=Aside0.mk (Kd.R_below (by (with_reducible repeat (first|apply Kd.R_alloc|apply Kd.R_drewN|apply Kd.R_drew));exact HO364.out) hb);have n1_:=Aside0.mk (Kd.R_below (by (with_reducible repeat (first|apply Kd.R_alloc|apply Kd.R_drewN|apply Kd.R_drew));exact HO371.out) hb);have n2_:=Aside0.mk (Kd.R_below (by (with_reducible repeat (first|apply Kd.R_alloc|apply Kd.R_drewN|apply Kd.R_drew));exact HO375.out) hb);have n3_:=Aside0.mk (blk_below (g:=gb336) (o := .cells #[.int .i64 a0_0, .int .i64 a0_1, .string a0_2, .int .i64 a0_3, .slice A0_4 l0_4.length c0_4] 24 (0,0)) (by (with_reducible repeat (first|refine blk_drewN ?_ _|refine blk_drew ?_|refine blk_alloc ?_ _));exact BK336.out) hb);have n4_:=Aside0.mk (blk_below (g:=gb337) (o := .cells #[.string a1_0, .slice A1_1 l1_1.length c1_1] 26 (0,0)) (by (with_reducible repeat (first|refine blk_drewN ?_ _|refine blk_drew ?_|refine blk_alloc ?_ _));exact BK337.out) hb);have n5_:=Aside0.mk (below_step (by repeat (first|(with_reducible first|exact HB.out|apply below_alloc|apply pw_below_drewN|apply below_drew1|refine below_set ?_ GE336.out|refine below_set ?_ GE337.out)|exact HB.out)) hb);have n6_:=Aside0.mk (hbox);have n7_:=Aside0.mk ((by rw [hg];exact (below_size (by repeat (first|(with_reducible first|exact HB.out|apply below_alloc|apply pw_below_drewN|apply below_drew1|refine below_set ?_ GE336.out|refine below_set ?_ GE337.out)|exact HB.out))) : w.heap.size ≤ gb378));have n8_:=Aside0.mk ((by rw [hg];exact (below_size (by repeat (first|(with_reducible first|exact HB.out|apply below_alloc|apply pw_below_drewN|apply below_drew1|refine below_set ?_ GE336.out|refine below_set ?_ GE337.out)|exact HB.out))) : w.heap.size ≤ gb378));have n9_:=Aside0.mk ((by rw [hg];exact Nat.ne_of_lt (blk_lt (g:=gb336) (o := .cells #[.int .i64 a0_0, .int .i64 a0_1, .string a0_2, .int .i64 a0_3, .slice A0_4 l0_4.length c0_4] 24 (0,0)) (by (with_reducible repeat (first|refine blk_drewN ?_ _|refine blk_drew ?_|refine blk_alloc ?_ _));exact BK336.out)) : gb336 ≠ gb378));have n10_:=Aside0.mk ((by rw [hg];exact Nat.ne_of_gt (blk_lt (g:=gb336) (o := .cells #[.int .i64 a0_0, .int .i64 a0_1, .string a0_2, .int .i64 a0_3, .slice A0_4 l0_4.length c0_4] 24 (0,0)) (by (with_reducible repeat (first|refine blk_drewN ?_ _|refine blk_drew ?_|refine blk_alloc ?_ _));exact BK336.out)) : gb378 ≠ gb336));have n11_:=Aside0.mk ((by rw [hg];exact Nat.ne_of_lt (blk_lt (g:=gb337) (o := .cells #[.string a1_0, .slice A1_1 l1_1.length c1_1] 26 (0,0)) (by (with_reducible repeat (first|refine blk_drewN ?_ _|refine blk_drew ?_|refine blk_alloc ?_ _));exact BK337.out)) : gb337 ≠ gb378));have n12_:=Aside0.mk ((by rw [hg];exact Nat.ne_of_gt (blk_lt (g:=gb337) (o := .cells #[.string a1_0, .slice A1_1 l1_1.length c1_1] 26 (0,0)) (by (with_reducible repeat (first|refine blk_drewN ?_ _|refine blk_drew ?_|refine blk_alloc ?_ _));exact BK337.out)) : gb378 ≠ gb337));clear HO364;clear HO371;clear HO375;clear BK336;clear BK337;clear HB;have HO364:=n0_;have HO371:=n1_;have HO375:=n2_;have BK336:=n3_;have BK337:=n4_;have HB:=n5_;have BK378:=n6_;have GW378:=n7_;have GE378:=n8_;have NB336_378:=n9_;have NB378_336:=n10_;have NB337_378:=n11_;have NB378_337:=n12_;clear n0_ n1_ n2_ n3_ n4_ n5_ n6_ n7_ n8_ n9_ n10_ n11_ n12_;clear hb hbox hg;have hnb90:=NB378_336.out;have hnc90:=NB336_378.out;have hnb91:=NB378_337.out;have hnc91:=NB337_378.out;have hcz92_0 : w89.cell? ⟨gb378,0,none⟩ = some (.string (⟨#[]⟩ : ByteArray)):=(blk_cell BK378.out 0).trans rfl;have hcz92_1 : w89.cell? ⟨gb378,1,none⟩ = some (.slice none 0 0):=(blk_cell BK378.out 1).trans rfl;have hfz92_0:=blk_frozen BK378.out 0;have hfz92_1:=blk_frozen BK378.out 1;obtain ⟨Ao93,co93,eo93⟩:=Kd.R_slice HO375.out;subst eo93))
      (try simp only [Act.put,List.setIfInBounds_toArray,List.set_cons_zero,List.set_cons_succ])
      go_cut [116] (fun v116 wc => ∃ (kq : Nat) (x116_82 : Bool),v116 = .bool x116_82 ∧ Aside0 (windlasslaw2_CodecBack.j3 kq l3 x116_82 = some r) ∧ Aside0 (kq ≤ kj44) ∧ Aside0 (Kd.R k24 24 wc w.heap.size (fun k_ => k_ ≠ gb336) (.slice Ao93 t373.length co93) t373) ∧ Aside0 (wc.heap[gb336]? = some (.cells #[.int .i64 a0_0, .int .i64 a0_1, .string a0_2, .int .i64 a0_3,(.slice A0_4 l0_4.length c0_4)] 24 (0,0))) ∧ Aside0 (wc.heap[gb337]? = some (.cells #[.string a1_0,(.slice A1_1 l1_1.length c1_1)] 26 (0,0))) ∧ Aside0 (wc.heap[gb378]? = some (.cells #[.string t372,(.slice Ao93 t373.length co93)] 26 (0,0))) ∧ Aside0 (Below w.heap.size w wc))
      case first =>
       have H:=HC83.out
       clear HC83
       by_cases c94 : t377 = 0
       ·rw [if_pos c94] at H
        have c94b0 : (t377 == 0) = true:=beq_iff_eq.mpr c94
        have c94b1 : (t377 != 0) = false:=bne_eq_false_iff_eq.mpr c94
        clear c94
        (first|rw [c94b0]|(simp only [i64_w,i32_w];rw [c94b0])|skip)
        by_cases c95 : t376 = (t362.length : Int)
        ·rw [if_pos c95] at H
         have c95b0 : (t376 == (t362.length : Int)) = true:=beq_iff_eq.mpr c95
         have c95b1 : (t376 != (t362.length : Int)) = false:=bne_eq_false_iff_eq.mpr c95
         clear c95
         by_cases c96 : t372.toList = a1_0.toList
         ·rw [if_pos c96] at H
          have c96b0 : (t372.toList == a1_0.toList) = true:=beq_iff_eq.mpr c96
          have c96b1 : (t372.toList != a1_0.toList) = false:=bne_eq_false_iff_eq.mpr c96
          clear c96
          replace H:=Option.bind_eq_some_iff.mp H
          obtain ⟨t379,A970,H⟩:=H
          replace H : (windlasslaw2_CodecBack.j3 kj44 l3 (!t379)) = some r:=H
          have A97:=Aside0.mk A970
          clear A970
          have H':=Aside0.mk H
          clear H
          have hnb98:=NB378_336.out
          have hnc98:=NB336_378.out
          have hnb99:=NB378_337.out
          have hnc99:=NB337_378.out
          have hcz100_0 : w89.cell? ⟨gb378,0,none⟩ = some (.string (⟨#[]⟩ : ByteArray)):=(blk_cell BK378.out 0).trans rfl
          have hcz100_1 : w89.cell? ⟨gb378,1,none⟩ = some (.slice none 0 0):=(blk_cell BK378.out 1).trans rfl
          have hfz100_0:=blk_frozen BK378.out 0
          have hfz100_1:=blk_frozen BK378.out 1
          have hnb101:=NB337_336.out
          have hnc101:=NB336_337.out
          have hcz102_0 : w89.cell? ⟨gb337,0,none⟩ = some (.string a1_0):=(blk_cell BK337.out 0).trans rfl
          have hcz102_1 : w89.cell? ⟨gb337,1,none⟩ = some (.slice A1_1 l1_1.length c1_1):=(blk_cell BK337.out 1).trans rfl
          have hfz102_0:=blk_frozen BK337.out 0
          have hfz102_1:=blk_frozen BK337.out 1
          go_wp2_with (first|(go_at_call 34;(with_reducible refine (windlassref3_All.calls kj44 _ _ t373 _ _ l1_1 t379 _ ?side1 ?side2 ?side3 ?side4 A97.out).mono ?_);(case side1 => refine (Kd.R_reads' (e:=24) (base:=w.heap.size) (ok:=fun k_ => (True ∧ k_ ≠ gb336)) (n:=t373.length) (c:=co93) ?_).2.2;exact (by (with_reducible repeat (first|apply Kd.R_alloc|apply Kd.R_drewN|apply Kd.R_drew));exact (Kd.R_mono (Kd.R_far (p:=⟨gb378,1,none⟩) (Kd.R_far (p:=⟨gb378,0,none⟩) (Kd.R_types HO375.out BK378.out (by decide)) (fun _ hk => hk.2) (.string t372)) (fun _ hk => hk.2) (.slice Ao93 t373.length co93)) (fun _ h_ => h_.1))));(case side2 => exact (Kd.R_reads' HO375.out).2.1);(case side3 => exact Kd.C_below HR1_1.out (by repeat (first|(with_reducible first|exact HB.out|apply below_alloc|apply pw_below_drewN|apply below_drew1|refine below_set ?_ GE336.out|refine below_set ?_ GE337.out|refine below_set ?_ GE378.out)|exact HB.out)));(case side4 => exact HC1_1.out);rintro e w103 ⟨rfl,hb⟩;have n0_:=Aside0.mk (Kd.R_below (by (with_reducible repeat (first|apply Kd.R_alloc|apply Kd.R_drewN|apply Kd.R_drew));exact (Kd.R_mono (Kd.R_far (p:=⟨gb378,1,none⟩) (Kd.R_far (p:=⟨gb378,0,none⟩) (Kd.R_types HO364.out BK378.out (by decide)) (fun _ hk => hk.2) (.string t372)) (fun _ hk => hk.2) (.slice Ao93 t373.length co93)) (fun _ h_ => h_.1))) hb);have n1_:=Aside0.mk (Kd.R_below (by (with_reducible repeat (first|apply Kd.R_alloc|apply Kd.R_drewN|apply Kd.R_drew));exact (Kd.R_mono (Kd.R_far (p:=⟨gb378,1,none⟩) (Kd.R_far (p:=⟨gb378,0,none⟩) (Kd.R_types HO371.out BK378.out (by decide)) (fun _ hk => hk.2) (.string t372)) (fun _ hk => hk.2) (.slice Ao93 t373.length co93)) (fun _ h_ => h_.1))) hb);have n2_:=Aside0.mk (Kd.R_below (by (with_reducible repeat (first|apply Kd.R_alloc|apply Kd.R_drewN|apply Kd.R_drew));exact (Kd.R_mono (Kd.R_far (p:=⟨gb378,1,none⟩) (Kd.R_far (p:=⟨gb378,0,none⟩) (Kd.R_types HO375.out BK378.out (by decide)) (fun _ hk => hk.2) (.string t372)) (fun _ hk => hk.2) (.slice Ao93 t373.length co93)) (fun _ h_ => h_.1))) hb);have n3_:=Aside0.mk (blk_below (g:=gb336) (o := .cells #[.int .i64 a0_0, .int .i64 a0_1, .string a0_2, .int .i64 a0_3, .slice A0_4 l0_4.length c0_4] 24 (0,0)) (by (with_reducible repeat (first|refine blk_drewN ?_ _|refine blk_drew ?_|refine blk_alloc ?_ _));refine blk_far ?_ NB336_378.out _;(with_reducible repeat (first|refine blk_drewN ?_ _|refine blk_drew ?_|refine blk_alloc ?_ _));refine blk_far ?_ NB336_378.out _;(with_reducible repeat (first|refine blk_drewN ?_ _|refine blk_drew ?_|refine blk_alloc ?_ _));exact BK336.out) hb);have n4_:=Aside0.mk (blk_below (g:=gb337) (o := .cells #[.string a1_0, .slice A1_1 l1_1.length c1_1] 26 (0,0)) (by (with_reducible repeat (first|refine blk_drewN ?_ _|refine blk_drew ?_|refine blk_alloc ?_ _));refine blk_far ?_ NB337_378.out _;(with_reducible repeat (first|refine blk_drewN ?_ _|refine blk_drew ?_|refine blk_alloc ?_ _));refine blk_far ?_ NB337_378.out _;(with_reducible repeat (first|refine blk_drewN ?_ _|refine blk_drew ?_|refine blk_alloc ?_ _));exact BK337.out) hb);have n5_:=Aside0.mk (blk_below (g:=gb378) (o := .cells #[.string t372, .slice Ao93 t373.length co93] 26 (0,0)) (by (with_reducible repeat (first|refine blk_drewN ?_ _|refine blk_drew ?_|refine blk_alloc ?_ _));refine blk_put (cs:=#[.string t372, .slice none 0 0]) ?_ 1 _ rfl;(with_reducible repeat (first|refine blk_drewN ?_ _|refine blk_drew ?_|refine blk_alloc ?_ _));refine blk_put (cs:=#[.string (⟨#[]⟩ : ByteArray), .slice none 0 0]) ?_ 0 _ rfl;(with_reducible repeat (first|refine blk_drewN ?_ _|refine blk_drew ?_|refine blk_alloc ?_ _));exact BK378.out) hb);have n6_:=Aside0.mk (below_step (by repeat (first|(with_reducible first|exact HB.out|apply below_alloc|apply pw_below_drewN|apply below_drew1|refine below_set ?_ GE336.out|refine below_set ?_ GE337.out|refine below_set ?_ GE378.out)|exact HB.out)) hb);clear HO364;clear HO371;clear HO375;clear BK336;clear BK337;clear BK378;clear HB;have HO364:=n0_;have HO371:=n1_;have HO375:=n2_;have BK336:=n3_;have BK337:=n4_;have BK378:=n5_;have HB:=n6_;clear n0_ n1_ n2_ n3_ n4_ n5_ n6_;(try clear hb);(try clear hb2);(try clear hk);(try clear hi)))
          go_meet
          case rel => exact ⟨_,(!t379),(by first|rfl|(simp;done)|(simp [*];done)),H',⟨by have:=HJ6.out;have:=HJ44.out;first|omega|exact Nat.le_refl _⟩,⟨by (with_reducible repeat (first|apply Kd.R_alloc|apply Kd.R_drewN|apply Kd.R_drew));exact Kd.R_mono HO375.out (fun _ hk => hk.2)⟩,⟨by (with_reducible repeat (first|refine blk_drewN ?_ _|refine blk_drew ?_|refine blk_alloc ?_ _));exact BK336.out⟩,⟨by (with_reducible repeat (first|refine blk_drewN ?_ _|refine blk_drew ?_|refine blk_alloc ?_ _));exact BK337.out⟩,⟨by (with_reducible repeat (first|refine blk_drewN ?_ _|refine blk_drew ?_|refine blk_alloc ?_ _));exact BK378.out⟩,⟨by repeat (first|(with_reducible first|exact HB.out|apply below_alloc|apply pw_below_drewN|apply below_drew1|refine below_set ?_ GE336.out|refine below_set ?_ GE337.out|refine below_set ?_ GE378.out)|exact HB.out)⟩⟩
         ·rw [if_neg c96] at H
          have c96b0 : (t372.toList == a1_0.toList) = false:=beq_eq_false_iff_ne.mpr c96
          have c96b1 : (t372.toList != a1_0.toList) = true:=bne_iff_ne.mpr c96
          have H':=Aside0.mk H
          clear H
          have hnb104:=NB378_336.out
          have hnc104:=NB336_378.out
          have hnb105:=NB378_337.out
          have hnc105:=NB337_378.out
          have hcz106_0 : w89.cell? ⟨gb378,0,none⟩ = some (.string (⟨#[]⟩ : ByteArray)):=(blk_cell BK378.out 0).trans rfl
          have hcz106_1 : w89.cell? ⟨gb378,1,none⟩ = some (.slice none 0 0):=(blk_cell BK378.out 1).trans rfl
          have hfz106_0:=blk_frozen BK378.out 0
          have hfz106_1:=blk_frozen BK378.out 1
          have hnb107:=NB337_336.out
          have hnc107:=NB336_337.out
          have hcz108_0 : w89.cell? ⟨gb337,0,none⟩ = some (.string a1_0):=(blk_cell BK337.out 0).trans rfl
          have hcz108_1 : w89.cell? ⟨gb337,1,none⟩ = some (.slice A1_1 l1_1.length c1_1):=(blk_cell BK337.out 1).trans rfl
          have hfz108_0:=blk_frozen BK337.out 0
          have hfz108_1:=blk_frozen BK337.out 1
          go_wp2
          go_meet
          case rel => exact ⟨_,(true),(by first|rfl|(simp;done)|(simp [*];done)),H',⟨by have:=HJ6.out;have:=HJ44.out;first|omega|exact Nat.le_refl _⟩,⟨by (with_reducible repeat (first|apply Kd.R_alloc|apply Kd.R_drewN|apply Kd.R_drew));exact Kd.R_mono (Kd.R_far (p:=⟨gb378,1,none⟩) (Kd.R_far (p:=⟨gb378,0,none⟩) (Kd.R_types HO375.out BK378.out (by decide)) (fun _ hk => hk.2) (.string t372)) (fun _ hk => hk.2) (.slice Ao93 t373.length co93)) (fun _ hk => hk.1.2)⟩,⟨by (with_reducible repeat (first|refine blk_drewN ?_ _|refine blk_drew ?_|refine blk_alloc ?_ _));refine blk_far ?_ NB336_378.out _;(with_reducible repeat (first|refine blk_drewN ?_ _|refine blk_drew ?_|refine blk_alloc ?_ _));refine blk_far ?_ NB336_378.out _;(with_reducible repeat (first|refine blk_drewN ?_ _|refine blk_drew ?_|refine blk_alloc ?_ _));exact BK336.out⟩,⟨by (with_reducible repeat (first|refine blk_drewN ?_ _|refine blk_drew ?_|refine blk_alloc ?_ _));refine blk_far ?_ NB337_378.out _;(with_reducible repeat (first|refine blk_drewN ?_ _|refine blk_drew ?_|refine blk_alloc ?_ _));refine blk_far ?_ NB337_378.out _;(with_reducible repeat (first|refine blk_drewN ?_ _|refine blk_drew ?_|refine blk_alloc ?_ _));exact BK337.out⟩,⟨by (with_reducible repeat (first|refine blk_drewN ?_ _|refine blk_drew ?_|refine blk_alloc ?_ _));refine blk_put (cs:=#[.string t372, .slice none 0 0]) ?_ 1 _ rfl;(with_reducible repeat (first|refine blk_drewN ?_ _|refine blk_drew ?_|refine blk_alloc ?_ _));refine blk_put (cs:=#[.string (⟨#[]⟩ : ByteArray), .slice none 0 0]) ?_ 0 _ rfl;(with_reducible repeat (first|refine blk_drewN ?_ _|refine blk_drew ?_|refine blk_alloc ?_ _));exact BK378.out⟩,⟨by repeat (first|(with_reducible first|exact HB.out|apply below_alloc|apply pw_below_drewN|apply below_drew1|refine below_set ?_ GE336.out|refine below_set ?_ GE337.out|refine below_set ?_ GE378.out)|exact HB.out)⟩⟩
        ·rw [if_neg c95] at H
         have c95b0 : (t376 == (t362.length : Int)) = false:=beq_eq_false_iff_ne.mpr c95
         have c95b1 : (t376 != (t362.length : Int)) = true:=bne_iff_ne.mpr c95
         have H':=Aside0.mk H
         clear H
         go_wp2
         go_meet
         case rel => exact ⟨_,(true),(by first|rfl|(simp;done)|(simp [*];done)),H',⟨by have:=HJ6.out;have:=HJ44.out;first|omega|exact Nat.le_refl _⟩,⟨by (with_reducible repeat (first|apply Kd.R_alloc|apply Kd.R_drewN|apply Kd.R_drew));exact Kd.R_mono (Kd.R_far (p:=⟨gb378,1,none⟩) (Kd.R_far (p:=⟨gb378,0,none⟩) (Kd.R_types HO375.out BK378.out (by decide)) (fun _ hk => hk.2) (.string t372)) (fun _ hk => hk.2) (.slice Ao93 t373.length co93)) (fun _ hk => hk.1.2)⟩,⟨by (with_reducible repeat (first|refine blk_drewN ?_ _|refine blk_drew ?_|refine blk_alloc ?_ _));refine blk_far ?_ NB336_378.out _;(with_reducible repeat (first|refine blk_drewN ?_ _|refine blk_drew ?_|refine blk_alloc ?_ _));refine blk_far ?_ NB336_378.out _;(with_reducible repeat (first|refine blk_drewN ?_ _|refine blk_drew ?_|refine blk_alloc ?_ _));exact BK336.out⟩,⟨by (with_reducible repeat (first|refine blk_drewN ?_ _|refine blk_drew ?_|refine blk_alloc ?_ _));refine blk_far ?_ NB337_378.out _;(with_reducible repeat (first|refine blk_drewN ?_ _|refine blk_drew ?_|refine blk_alloc ?_ _));refine blk_far ?_ NB337_378.out _;(with_reducible repeat (first|refine blk_drewN ?_ _|refine blk_drew ?_|refine blk_alloc ?_ _));exact BK337.out⟩,⟨by (with_reducible repeat (first|refine blk_drewN ?_ _|refine blk_drew ?_|refine blk_alloc ?_ _));refine blk_put (cs:=#[.string t372, .slice none 0 0]) ?_ 1 _ rfl;(with_reducible repeat (first|refine blk_drewN ?_ _|refine blk_drew ?_|refine blk_alloc ?_ _));refine blk_put (cs:=#[.string (⟨#[]⟩ : ByteArray), .slice none 0 0]) ?_ 0 _ rfl;(with_reducible repeat (first|refine blk_drewN ?_ _|refine blk_drew ?_|refine blk_alloc ?_ _));exact BK378.out⟩,⟨by repeat (first|(with_reducible first|exact HB.out|apply below_alloc|apply pw_below_drewN|apply below_drew1|refine below_set ?_ GE336.out|refine below_set ?_ GE337.out|refine below_set ?_ GE378.out)|exact HB.out)⟩⟩
       ·rw [if_neg c94] at H
        have c94b0 : (t377 == 0) = false:=beq_eq_false_iff_ne.mpr c94
        have c94b1 : (t377 != 0) = true:=bne_iff_ne.mpr c94
        (first|rw [c94b0]|(simp only [i64_w,i32_w];rw [c94b0])|skip)
        have H':=Aside0.mk H
        clear H
        go_wp2
        go_meet
        case rel => exact ⟨_,(true),(by first|rfl|(simp;done)|(simp [*];done)),H',⟨by have:=HJ6.out;have:=HJ44.out;first|omega|exact Nat.le_refl _⟩,⟨by (with_reducible repeat (first|apply Kd.R_alloc|apply Kd.R_drewN|apply Kd.R_drew));exact Kd.R_mono (Kd.R_far (p:=⟨gb378,1,none⟩) (Kd.R_far (p:=⟨gb378,0,none⟩) (Kd.R_types HO375.out BK378.out (by decide)) (fun _ hk => hk.2) (.string t372)) (fun _ hk => hk.2) (.slice Ao93 t373.length co93)) (fun _ hk => hk.1.2)⟩,⟨by (with_reducible repeat (first|refine blk_drewN ?_ _|refine blk_drew ?_|refine blk_alloc ?_ _));refine blk_far ?_ NB336_378.out _;(with_reducible repeat (first|refine blk_drewN ?_ _|refine blk_drew ?_|refine blk_alloc ?_ _));refine blk_far ?_ NB336_378.out _;(with_reducible repeat (first|refine blk_drewN ?_ _|refine blk_drew ?_|refine blk_alloc ?_ _));exact BK336.out⟩,⟨by (with_reducible repeat (first|refine blk_drewN ?_ _|refine blk_drew ?_|refine blk_alloc ?_ _));refine blk_far ?_ NB337_378.out _;(with_reducible repeat (first|refine blk_drewN ?_ _|refine blk_drew ?_|refine blk_alloc ?_ _));refine blk_far ?_ NB337_378.out _;(with_reducible repeat (first|refine blk_drewN ?_ _|refine blk_drew ?_|refine blk_alloc ?_ _));exact BK337.out⟩,⟨by (with_reducible repeat (first|refine blk_drewN ?_ _|refine blk_drew ?_|refine blk_alloc ?_ _));refine blk_put (cs:=#[.string t372, .slice none 0 0]) ?_ 1 _ rfl;(with_reducible repeat (first|refine blk_drewN ?_ _|refine blk_drew ?_|refine blk_alloc ?_ _));refine blk_put (cs:=#[.string (⟨#[]⟩ : ByteArray), .slice none 0 0]) ?_ 0 _ rfl;(with_reducible repeat (first|refine blk_drewN ?_ _|refine blk_drew ?_|refine blk_alloc ?_ _));exact BK378.out⟩,⟨by repeat (first|(with_reducible first|exact HB.out|apply below_alloc|apply pw_below_drewN|apply below_drew1|refine below_set ?_ GE336.out|refine below_set ?_ GE337.out|refine below_set ?_ GE378.out)|exact HB.out)⟩⟩
      case rest =>
       clear HC83
       try clear c1
       try clear c2
       try clear p2
       try clear c3
       try clear c4
       try clear c5
       try clear c6
       try clear c7
       try clear c8
       try clear c9
       try clear c10
       try clear c12
       try clear c14
       try clear c15
       try clear c15b0
       try clear c15b1
       try clear c16
       try clear c22
       try clear c22b0
       try clear c22b1
       try clear c23
       try clear c26
       try clear c29
       try clear c32
       try clear c35
       try clear c40
       try clear c43
       try clear c46
       try clear c49
       try clear c49b0
       try clear c49b1
       try clear c50
       try clear c51
       try clear c60
       try clear c61
       try clear c64
       try clear c64b0
       try clear c64b1
       try clear c65
       try clear c65b0
       try clear c65b1
       try clear c67
       try clear c68
       try clear c70
       try clear c73
       try clear c76
       try clear c79
       try clear c79b0
       try clear c79b1
       try clear c80
       try clear c81
       try clear c90
       try clear c91
       try clear c94
       try clear c94b0
       try clear c94b1
       try clear c95
       try clear c95b0
       try clear c95b1
       try clear c96
       try clear c96b0
       try clear c96b1
       try clear c98
       try clear c99
       try clear c101
       try clear c104
       try clear c105
       try clear c107
       try clear hcz100_0
       try clear hcz100_1
       try clear hcz102_0
       try clear hcz102_1
       try clear hcz106_0
       try clear hcz106_1
       try clear hcz108_0
       try clear hcz108_1
       try clear hcz17_0
       try clear hcz17_1
       try clear hcz17_2
       try clear hcz17_3
       try clear hcz17_4
       try clear hcz19_0
       try clear hcz19_1
       try clear hcz21_0
       try clear hcz21_1
       try clear hcz24_0
       try clear hcz24_1
       try clear hcz24_2
       try clear hcz24_3
       try clear hcz24_4
       try clear hcz26_0
       try clear hcz26_1
       try clear hcz28_0
       try clear hcz28_1
       try clear hcz30_0
       try clear hcz30_1
       try clear hcz30_2
       try clear hcz30_3
       try clear hcz30_4
       try clear hcz32_0
       try clear hcz32_1
       try clear hcz34_0
       try clear hcz34_1
       try clear hcz36_0
       try clear hcz36_1
       try clear hcz36_2
       try clear hcz36_3
       try clear hcz36_4
       try clear hcz38_0
       try clear hcz38_1
       try clear hcz41_0
       try clear hcz41_1
       try clear hcz41_2
       try clear hcz41_3
       try clear hcz41_4
       try clear hcz47_0
       try clear hcz47_1
       try clear hcz47_2
       try clear hcz47_3
       try clear hcz47_4
       try clear hcz62_0
       try clear hcz62_1
       try clear hcz62_2
       try clear hcz62_3
       try clear hcz62_4
       try clear hcz69_0
       try clear hcz69_1
       try clear hcz69_2
       try clear hcz69_3
       try clear hcz69_4
       try clear hcz71_0
       try clear hcz71_1
       try clear hcz71_2
       try clear hcz71_3
       try clear hcz71_4
       try clear hcz77_0
       try clear hcz77_1
       try clear hcz92_0
       try clear hcz92_1
       try clear hfz100_0
       try clear hfz100_1
       try clear hfz102_0
       try clear hfz102_1
       try clear hfz106_0
       try clear hfz106_1
       try clear hfz108_0
       try clear hfz108_1
       try clear hfz17_0
       try clear hfz17_1
       try clear hfz17_2
       try clear hfz17_3
       try clear hfz17_4
       try clear hfz19_0
       try clear hfz19_1
       try clear hfz21_0
       try clear hfz21_1
       try clear hfz24_0
       try clear hfz24_1
       try clear hfz24_2
       try clear hfz24_3
       try clear hfz24_4
       try clear hfz26_0
       try clear hfz26_1
       try clear hfz28_0
       try clear hfz28_1
       try clear hfz30_0
       try clear hfz30_1
       try clear hfz30_2
       try clear hfz30_3
       try clear hfz30_4
       try clear hfz32_0
       try clear hfz32_1
       try clear hfz34_0
       try clear hfz34_1
       try clear hfz36_0
       try clear hfz36_1
       try clear hfz36_2
       try clear hfz36_3
       try clear hfz36_4
       try clear hfz38_0
       try clear hfz38_1
       try clear hfz41_0
       try clear hfz41_1
       try clear hfz41_2
       try clear hfz41_3
       try clear hfz41_4
       try clear hfz47_0
       try clear hfz47_1
       try clear hfz47_2
       try clear hfz47_3
       try clear hfz47_4
       try clear hfz62_0
       try clear hfz62_1
       try clear hfz62_2
       try clear hfz62_3
       try clear hfz62_4
       try clear hfz69_0
       try clear hfz69_1
       try clear hfz69_2
       try clear hfz69_3
       try clear hfz69_4
       try clear hfz71_0
       try clear hfz71_1
       try clear hfz71_2
       try clear hfz71_3
       try clear hfz71_4
       try clear hfz77_0
       try clear hfz77_1
       try clear hfz92_0
       try clear hfz92_1
       try clear p2
       obtain ⟨kq,x116_82,rfl,HA,HJ82,HO_379001,BK336,BK337,BK378,HB⟩:=hcut
       cases kq with
       | zero => exact absurd HA.out (by simp [windlasslaw2_CodecBack.j3])
       | succ kj82 =>
        have H:=HA.out
        clear HA
        simp only [windlasslaw2_CodecBack.j3] at H
        by_cases c109 : x116_82 = true
        ·subst c109
         have H1 : (some false) = some r:=by rw [if_pos rfl] at H;exact H
         clear H
         have H:=H1
         clear H1
         obtain rfl:=Option.some.inj H
         go_wp2
         go_ret
         exact ⟨by first|rfl|(simp [errW_none,errW_some] <;> rfl)|(simp [*,errW_none,errW_some] <;> rfl),by repeat (first|(with_reducible first|exact HB.out|apply below_alloc|apply pw_below_drewN|apply below_drew1|refine below_set ?_ GE336.out|refine below_set ?_ GE337.out|refine below_set ?_ GE378.out)|exact HB.out)⟩
        ·replace c109:=Bool.eq_false_iff.mpr c109
         subst c109
         have H1 : (windlasslaw2_CodecBack.j4 kj82 l3) = some r:=by rw [if_neg (show ¬ (false = true) by decide)] at H;exact H
         clear H
         have H:=H1
         clear H1
         have H':=Aside0.mk H
         clear H
         go_wp2
         go_meet
         case rel => exact ⟨_,H',⟨by have:=HJ6.out;have:=HJ44.out;have:=HJ82.out;first|omega|exact Nat.le_refl _⟩,⟨by (with_reducible repeat (first|refine blk_drewN ?_ _|refine blk_drew ?_|refine blk_alloc ?_ _));exact BK336.out⟩,⟨by (with_reducible repeat (first|refine blk_drewN ?_ _|refine blk_drew ?_|refine blk_alloc ?_ _));exact BK337.out⟩,⟨by repeat (first|(with_reducible first|exact HB.out|apply below_alloc|apply pw_below_drewN|apply below_drew1|refine below_set ?_ GE336.out|refine below_set ?_ GE337.out|refine below_set ?_ GE378.out)|exact HB.out)⟩⟩
     ·rw [if_neg c81] at H
      exact absurd H (by simp)
    ·rw [if_neg c80] at H
     exact absurd H (by simp)
   ·rw [if_neg c79] at H
    have c79b0 : (t365 == 0) = false:=beq_eq_false_iff_ne.mpr c79
    have c79b1 : (t365 != 0) = true:=bne_iff_ne.mpr c79
    (first|rw [c79b0]|(simp only [i64_w,i32_w];rw [c79b0])|skip)
    have H':=Aside0.mk H
    clear H
    go_wp2
    go_meet
    case rel => exact ⟨_,H',⟨by have:=HJ6.out;have:=HJ44.out;first|omega|exact Nat.le_refl _⟩,⟨by (with_reducible repeat (first|refine blk_drewN ?_ _|refine blk_drew ?_|refine blk_alloc ?_ _));exact BK336.out⟩,⟨by (with_reducible repeat (first|refine blk_drewN ?_ _|refine blk_drew ?_|refine blk_alloc ?_ _));exact BK337.out⟩,⟨by repeat (first|(with_reducible first|exact HB.out|apply below_alloc|apply pw_below_drewN|apply below_drew1|refine below_set ?_ GE336.out|refine below_set ?_ GE337.out)|exact HB.out)⟩⟩
  case rest =>
   clear HC75
   try clear c1
   try clear c2
   try clear p2
   try clear c3
   try clear c4
   try clear c5
   try clear c6
   try clear c7
   try clear c8
   try clear c9
   try clear c10
   try clear c12
   try clear c14
   try clear c15
   try clear c15b0
   try clear c15b1
   try clear c16
   try clear c22
   try clear c22b0
   try clear c22b1
   try clear c23
   try clear c26
   try clear c29
   try clear c32
   try clear c35
   try clear c40
   try clear c43
   try clear c46
   try clear c49
   try clear c49b0
   try clear c49b1
   try clear c50
   try clear c51
   try clear c60
   try clear c61
   try clear c64
   try clear c64b0
   try clear c64b1
   try clear c65
   try clear c65b0
   try clear c65b1
   try clear c67
   try clear c68
   try clear c70
   try clear c73
   try clear c76
   try clear c79
   try clear c79b0
   try clear c79b1
   try clear c80
   try clear c81
   try clear c90
   try clear c91
   try clear c94
   try clear c94b0
   try clear c94b1
   try clear c95
   try clear c95b0
   try clear c95b1
   try clear c96
   try clear c96b0
   try clear c96b1
   try clear c98
   try clear c99
   try clear c101
   try clear c104
   try clear c105
   try clear c107
   try clear c109
   try clear hcz100_0
   try clear hcz100_1
   try clear hcz102_0
   try clear hcz102_1
   try clear hcz106_0
   try clear hcz106_1
   try clear hcz108_0
   try clear hcz108_1
   try clear hcz17_0
   try clear hcz17_1
   try clear hcz17_2
   try clear hcz17_3
   try clear hcz17_4
   try clear hcz19_0
   try clear hcz19_1
   try clear hcz21_0
   try clear hcz21_1
   try clear hcz24_0
   try clear hcz24_1
   try clear hcz24_2
   try clear hcz24_3
   try clear hcz24_4
   try clear hcz26_0
   try clear hcz26_1
   try clear hcz28_0
   try clear hcz28_1
   try clear hcz30_0
   try clear hcz30_1
   try clear hcz30_2
   try clear hcz30_3
   try clear hcz30_4
   try clear hcz32_0
   try clear hcz32_1
   try clear hcz34_0
   try clear hcz34_1
   try clear hcz36_0
   try clear hcz36_1
   try clear hcz36_2
   try clear hcz36_3
   try clear hcz36_4
   try clear hcz38_0
   try clear hcz38_1
   try clear hcz41_0
   try clear hcz41_1
   try clear hcz41_2
   try clear hcz41_3
   try clear hcz41_4
   try clear hcz47_0
   try clear hcz47_1
   try clear hcz47_2
   try clear hcz47_3
   try clear hcz47_4
   try clear hcz62_0
   try clear hcz62_1
   try clear hcz62_2
   try clear hcz62_3
   try clear hcz62_4
   try clear hcz69_0
   try clear hcz69_1
   try clear hcz69_2
   try clear hcz69_3
   try clear hcz69_4
   try clear hcz71_0
   try clear hcz71_1
   try clear hcz71_2
   try clear hcz71_3
   try clear hcz71_4
   try clear hcz77_0
   try clear hcz77_1
   try clear hcz92_0
   try clear hcz92_1
   try clear hfz100_0
   try clear hfz100_1
   try clear hfz102_0
   try clear hfz102_1
   try clear hfz106_0
   try clear hfz106_1
   try clear hfz108_0
   try clear hfz108_1
   try clear hfz17_0
   try clear hfz17_1
   try clear hfz17_2
   try clear hfz17_3
   try clear hfz17_4
   try clear hfz19_0
   try clear hfz19_1
   try clear hfz21_0
   try clear hfz21_1
   try clear hfz24_0
   try clear hfz24_1
   try clear hfz24_2
   try clear hfz24_3
   try clear hfz24_4
   try clear hfz26_0
   try clear hfz26_1
   try clear hfz28_0
   try clear hfz28_1
   try clear hfz30_0
   try clear hfz30_1
   try clear hfz30_2
   try clear hfz30_3
   try clear hfz30_4
   try clear hfz32_0
   try clear hfz32_1
   try clear hfz34_0
   try clear hfz34_1
   try clear hfz36_0
   try clear hfz36_1
   try clear hfz36_2
   try clear hfz36_3
   try clear hfz36_4
   try clear hfz38_0
   try clear hfz38_1
   try clear hfz41_0
   try clear hfz41_1
   try clear hfz41_2
   try clear hfz41_3
   try clear hfz41_4
   try clear hfz47_0
   try clear hfz47_1
   try clear hfz47_2
   try clear hfz47_3
   try clear hfz47_4
   try clear hfz62_0
   try clear hfz62_1
   try clear hfz62_2
   try clear hfz62_3
   try clear hfz62_4
   try clear hfz69_0
   try clear hfz69_1
   try clear hfz69_2
   try clear hfz69_3
   try clear hfz69_4
   try clear hfz71_0
   try clear hfz71_1
   try clear hfz71_2
   try clear hfz71_3
   try clear hfz71_4
   try clear hfz77_0
   try clear hfz77_1
   try clear hfz92_0
   try clear hfz92_1
   try clear p2
   obtain ⟨kq,HA,HJ74,BK336,BK337,HB⟩:=hcut
   rename_i ic10_ ic11_ ic12_ ic13_ ic14_ ic15_ ic16_ ic17_ ic18_ ic19_ ic110_ ic111_ ic112_ ic113_ ic114_ ic115_ ic116_ ic117_ ic118_ ic119_ ic120_ ic121_ ic122_ ic123_ ic124_ ic125_ ic126_ ic127_ ic128_ ic129_ ic130_ ic131_ ic132_ ic133_ ic134_ ic135_ ic136_ ic137_ ic138_ ic139_ ic140_ ic141_ ic142_ ic143_ ic144_ ic145_ ic146_ ic147_ ic148_ ic149_ ic150_ ic151_ ic152_ ic153_ ic154_ ic155_ ic156_ ic157_ ic158_ ic159_ ic160_ ic161_ ic162_ ic163_ ic164_ ic165_ ic166_ ic167_ ic168_ ic169_ ic170_ ic171_ ic172_ ic173_ ic174_ ic175_ ic176_ ic177_ ic178_ ic179_ ic180_ ic181_ ic182_ ic183_ ic184_ ic185_ ic186_ ic187_ ic188_ ic189_ ic190_ ic191_ ic192_ ic193_ ic194_ ic195_ ic196_ ic197_ ic198_ ic199_ ic1100_ ic1101_ ic1102_ ic1103_ ic1104_ ic1105_ ic1106_ ic1107_ ic1108_ ic1109_ ic1110_ ic1111_ ic1112_ ic1113_ ic1114_ ic1115_ ic1116_ ic1117_ ic1118_ ic1119_ ic1120_ ic1121_ ic1122_ ic1123_ ic1124_ ic1125_ ic1126_ ic1127_ ic1128_ ic1129_ ic1130_ ic1131_ ic1132_ ic1133_ ic1134_ ic1135_ ic1136_ ic1137_ ic1138_ ic1139_ ic1140_ ic1141_ ic1142_ ic1143_ ic1144_ ic1145_ ic1146_ ic1147_ ic1148_ ic1149_ ic1150_ ic1151_ ic1152_ ic1153_ ic1154_ ic1155_ ic1156_ ic1157_ ic1158_ ic1159_
   revert hu24 hu26 HR0_4 HC0_4 HR1_1 HC1_1 HR2 HC2 HR3 HC3 A5 ic00_ gb336 w8 GW336 GE336 gb337 w9 GW337 GE337 NB336_337 NB337_336 w10 ic01_ ic02_ ic03_ ic04_ ic05_ ic06_ ic07_ ic08_ ic09_ ic010_ ic011_ ic012_ ic013_ ic014_ ic015_ ic016_ ic017_ ic018_ ic019_ ic020_ ic021_ ic022_ ic023_ ic024_ ic025_ ic026_ ic027_ ic028_ ic029_ ic030_ ic031_ ic032_ ic033_ ic034_ ic035_ ic036_ ic037_ ic038_ ic039_ ic040_ ic041_ ic042_ ic043_ ic044_ ic045_ ic046_ ic047_ ic048_ ic049_ ic050_ ic051_ ic052_ ic053_ ic054_ ic055_ ic056_ ic057_ ic058_ ic059_ ic060_ ic061_ ic062_ ic063_ ic064_ ic065_ ic066_ ic067_ ic068_ ic069_ ic070_ ic071_ ic072_ ic073_ ic074_ ic075_ ic076_ ic077_ ic078_ ic079_ ic080_ ic081_ ic082_ ic083_ ic084_ ic085_ ic086_ ic087_ ic088_ ic089_ ic090_ ic091_ ic092_ ic093_ ic094_ ic095_ ic096_ ic097_ ic098_ ic099_ ic0100_ ic0101_ ic0102_ ic0103_ ic0104_ ic0105_ ic0106_ ic0107_ ic0108_ ic0109_ ic0110_ ic0111_ ic0112_ ic0113_ ic0114_ ic0115_ ic0116_ ic0117_ ic0118_ ic0119_ ic0120_ ic0121_ ic0122_ ic0123_ ic0124_ ic0125_ ic0126_ ic0127_ ic0128_ ic0129_ ic0130_ ic0131_ ic0132_ ic0133_ ic0134_ ic0135_ ic0136_ ic0137_ ic0138_ ic0139_ ic0140_ ic0141_ ic0142_ ic0143_ ic0144_ ic0145_ ic0146_ ic0147_ ic0148_ ic0149_ ic0150_ ic0151_ ic0152_ ic0153_ ic0154_ ic0155_ ic0156_ kj6 HJ6 t341 t344 A44 hnb46 hnc46 w48 v342 HO343 ic0157_ ic0158_ ic0159_ ic10_ ic11_ u11 u12 u13 ic12_ ic13_ ic14_ ic15_ ic16_ ic17_ ic18_ ic19_ ic110_ ic111_ ic112_ ic113_ ic114_ ic115_ ic116_ ic117_ ic118_ ic119_ ic120_ ic121_ ic122_ ic123_ ic124_ ic125_ ic126_ ic127_ ic128_ ic129_ ic130_ ic131_ ic132_ ic133_ ic134_ ic135_ ic136_ ic137_ ic138_ ic139_ ic140_ ic141_ ic142_ ic143_ ic144_ ic145_ ic146_ ic147_ ic148_ ic149_ ic150_ ic151_ ic152_ ic153_ ic154_ ic155_ ic156_ ic157_ ic158_ ic159_ ic160_ ic161_ ic162_ ic163_ ic164_ ic165_ ic166_ ic167_ ic168_ ic169_ ic170_ ic171_ ic172_ ic173_ ic174_ ic175_ ic176_ ic177_ ic178_ ic179_ ic180_ ic181_ ic182_ ic183_ ic184_ ic185_ ic186_ ic187_ ic188_ ic189_ ic190_ ic191_ ic192_ ic193_ ic194_ ic195_ ic196_ ic197_ ic198_ ic199_ ic1100_ ic1101_ ic1102_ ic1103_ ic1104_ ic1105_ ic1106_ ic1107_ ic1108_ ic1109_ ic1110_ ic1111_ ic1112_ ic1113_ ic1114_ ic1115_ ic1116_ ic1117_ ic1118_ ic1119_ ic1120_ ic1121_ ic1122_ ic1123_ ic1124_ ic1125_ ic1126_ ic1127_ ic1128_ ic1129_ ic1130_ ic1131_ ic1132_ ic1133_ ic1134_ ic1135_ ic1136_ ic1137_ ic1138_ ic1139_ ic1140_ ic1141_ ic1142_ ic1143_ ic1144_ ic1145_ ic1146_ ic1147_ ic1148_ ic1149_ ic1150_ ic1151_ ic1152_ ic1153_ ic1154_ kj44 HJ44 t362 t365 A74 hnb76 hnc76 w78 v363 HO364 ic1155_ ic1156_ ic1157_ ic1158_ ic1159_ wc u8 u14 u15 u16 u21 u22 u23 u24 u25 u26 u27 u28 u29 u30 u31 u32 u33 u34 u35 u36 u37 u38 u39 u40 u41 u42 u43 u44 u45 u46 u47 u48 u49 u50 u51 u52 u53 u54 u55 u56 u57 u58 u59 u60 u61 u62 u63 u64 u65 u66 u67 u68 u69 u70 u71 u72 u73 u74 u75 u76 u77 u78 u79 u80 u81 u82 u83 u84 u85 u86 u87 u88 u89 u90 u91 u92 u93 u94 u95 u96 u97 u98 u99 u100 u101 u102 u103 u104 u105 u106 u107 u108 u109 u110 u111 u112 u113 u114 u115 u116 u117 u118 u119 u120 u121 u122 u123 u124 u125 u126 u127 u128 u129 u130 u131 u132 u133 u134 u135 u136 u137 u138 u139 u140 u141 u142 u143 u144 u145 u146 u147 u148 u149 u150 u151 u152 u153 u154 u155 u156 u157 u158 u159 u160 u161 u162 u163 u164 u165 u166 u167 u168 u169 u170 u171 u172 u173 kq HA HJ74 BK336 BK337 HB
   exact hcutP.out
set_option maxHeartbeats 8000000 in
set_option maxRecDepth 100000 in
noncomputable def windlasslaw2_CodecBack.p2 (k : Nat) (a0_0 : Int) (a0_1 : Int) (a0_2 : ByteArray) (a0_3 : Int) (A0_4 : Option Addr) (c0_4 : Nat) (l0_4 : List (S24)) (a1_0 : ByteArray) (A1_1 : Option Addr) (c1_1 : Nat) (l1_1 : List (S24)) (A2 : Option Addr) (c2 : Nat) (l2 : List Int) (A3 : Option Addr) (c3 : Nat) (l3 : List Int) (r : Bool) (w : World) : windlasslaw2_CodecBack.Cut ((windlasslaw2_CodecBack.p1 k a0_0 a0_1 a0_2 a0_3 A0_4 c0_4 l0_4 a1_0 A1_1 c1_1 l1_1 A2 c2 l2 A3 c3 l3 r w).P):=by
 apply windlasslaw2_CodecBack.cut_mk
 intro hcutP
 intro hu24 hu26 HR0_4 HC0_4 HR1_1 HC1_1 HR2 HC2 HR3 HC3 A5 ic00_ gb336 w8 GW336 GE336 gb337 w9 GW337 GE337 NB336_337 NB337_336 w10 ic01_ ic02_ ic03_ ic04_ ic05_ ic06_ ic07_ ic08_ ic09_ ic010_ ic011_ ic012_ ic013_ ic014_ ic015_ ic016_ ic017_ ic018_ ic019_ ic020_ ic021_ ic022_ ic023_ ic024_ ic025_ ic026_ ic027_ ic028_ ic029_ ic030_ ic031_ ic032_ ic033_ ic034_ ic035_ ic036_ ic037_ ic038_ ic039_ ic040_ ic041_ ic042_ ic043_ ic044_ ic045_ ic046_ ic047_ ic048_ ic049_ ic050_ ic051_ ic052_ ic053_ ic054_ ic055_ ic056_ ic057_ ic058_ ic059_ ic060_ ic061_ ic062_ ic063_ ic064_ ic065_ ic066_ ic067_ ic068_ ic069_ ic070_ ic071_ ic072_ ic073_ ic074_ ic075_ ic076_ ic077_ ic078_ ic079_ ic080_ ic081_ ic082_ ic083_ ic084_ ic085_ ic086_ ic087_ ic088_ ic089_ ic090_ ic091_ ic092_ ic093_ ic094_ ic095_ ic096_ ic097_ ic098_ ic099_ ic0100_ ic0101_ ic0102_ ic0103_ ic0104_ ic0105_ ic0106_ ic0107_ ic0108_ ic0109_ ic0110_ ic0111_ ic0112_ ic0113_ ic0114_ ic0115_ ic0116_ ic0117_ ic0118_ ic0119_ ic0120_ ic0121_ ic0122_ ic0123_ ic0124_ ic0125_ ic0126_ ic0127_ ic0128_ ic0129_ ic0130_ ic0131_ ic0132_ ic0133_ ic0134_ ic0135_ ic0136_ ic0137_ ic0138_ ic0139_ ic0140_ ic0141_ ic0142_ ic0143_ ic0144_ ic0145_ ic0146_ ic0147_ ic0148_ ic0149_ ic0150_ ic0151_ ic0152_ ic0153_ ic0154_ ic0155_ ic0156_ kj6 HJ6 t341 t344 A44 hnb46 hnc46 w48 v342 HO343 ic0157_ ic0158_ ic0159_ ic10_ ic11_ u11 u12 u13 ic12_ ic13_ ic14_ ic15_ ic16_ ic17_ ic18_ ic19_ ic110_ ic111_ ic112_ ic113_ ic114_ ic115_ ic116_ ic117_ ic118_ ic119_ ic120_ ic121_ ic122_ ic123_ ic124_ ic125_ ic126_ ic127_ ic128_ ic129_ ic130_ ic131_ ic132_ ic133_ ic134_ ic135_ ic136_ ic137_ ic138_ ic139_ ic140_ ic141_ ic142_ ic143_ ic144_ ic145_ ic146_ ic147_ ic148_ ic149_ ic150_ ic151_ ic152_ ic153_ ic154_ ic155_ ic156_ ic157_ ic158_ ic159_ ic160_ ic161_ ic162_ ic163_ ic164_ ic165_ ic166_ ic167_ ic168_ ic169_ ic170_ ic171_ ic172_ ic173_ ic174_ ic175_ ic176_ ic177_ ic178_ ic179_ ic180_ ic181_ ic182_ ic183_ ic184_ ic185_ ic186_ ic187_ ic188_ ic189_ ic190_ ic191_ ic192_ ic193_ ic194_ ic195_ ic196_ ic197_ ic198_ ic199_ ic1100_ ic1101_ ic1102_ ic1103_ ic1104_ ic1105_ ic1106_ ic1107_ ic1108_ ic1109_ ic1110_ ic1111_ ic1112_ ic1113_ ic1114_ ic1115_ ic1116_ ic1117_ ic1118_ ic1119_ ic1120_ ic1121_ ic1122_ ic1123_ ic1124_ ic1125_ ic1126_ ic1127_ ic1128_ ic1129_ ic1130_ ic1131_ ic1132_ ic1133_ ic1134_ ic1135_ ic1136_ ic1137_ ic1138_ ic1139_ ic1140_ ic1141_ ic1142_ ic1143_ ic1144_ ic1145_ ic1146_ ic1147_ ic1148_ ic1149_ ic1150_ ic1151_ ic1152_ ic1153_ ic1154_ kj44 HJ44 t362 t365 A74 hnb76 hnc76 w78 v363 HO364 ic1155_ ic1156_ ic1157_ ic1158_ ic1159_ wc u8 u14 u15 u16 u21 u22 u23 u24 u25 u26 u27 u28 u29 u30 u31 u32 u33 u34 u35 u36 u37 u38 u39 u40 u41 u42 u43 u44 u45 u46 u47 u48 u49 u50 u51 u52 u53 u54 u55 u56 u57 u58 u59 u60 u61 u62 u63 u64 u65 u66 u67 u68 u69 u70 u71 u72 u73 u74 u75 u76 u77 u78 u79 u80 u81 u82 u83 u84 u85 u86 u87 u88 u89 u90 u91 u92 u93 u94 u95 u96 u97 u98 u99 u100 u101 u102 u103 u104 u105 u106 u107 u108 u109 u110 u111 u112 u113 u114 u115 u116 u117 u118 u119 u120 u121 u122 u123 u124 u125 u126 u127 u128 u129 u130 u131 u132 u133 u134 u135 u136 u137 u138 u139 u140 u141 u142 u143 u144 u145 u146 u147 u148 u149 u150 u151 u152 u153 u154 u155 u156 u157 u158 u159 u160 u161 u162 u163 u164 u165 u166 u167 u168 u169 u170 u171 u172 u173 kq HA HJ74 BK336 BK337 HB
 cases kq with
 | zero => exact absurd HA.out (by simp [windlasslaw2_CodecBack.j4])
 | succ kj74 =>
  have H:=HA.out
  clear HA
  simp only [windlasslaw2_CodecBack.j4] at H
  replace H:=Option.bind_eq_some_iff.mp H
  obtain ⟨⟨t380,t381,t382,t383,t384,t387,t388⟩,A1100,H⟩:=H
  replace H : (if t388 = 0 then ((codec_PutValue.f kj74 t380 t381 t382 t383 t384).bind fun bt390 => (if bt390.2 = 0 then (if t387 = (bt390.1.length : Int) then (if 0 ≤ t387 then (if t387 ≤ (l3.length : Int) then ((windlasshelp_Bytes.f bt390.1 (l3.take (t387 : Int).toNat)).bind fun t395 => (windlasslaw2_CodecBack.j5 kj74 l3 (!t395))) else (none)) else (none)) else (windlasslaw2_CodecBack.j5 kj74 l3 true)) else (windlasslaw2_CodecBack.j5 kj74 l3 true))) else (windlasslaw2_CodecBack.j6 kj74 l3)) = some r:=H
  have A110:=Aside0.mk A1100
  clear A1100
  have HC111:=Aside0.mk H
  clear H
  go_upto_if 124 with (first|((with_reducible refine gate_callee (f:=26) rfl ?_);refine goesL_ (some 119) rfl rfl Try.func26 (by kernel_rfl) rfl #[.slice A3 l3.length c3] rfl (by (try simp only [List.map_toArray,List.map_cons,List.map_nil]);first|done|rfl|(simp only [List.length_drop,List.length_take];rfl)|(go_simp;done)|(go_simp;simp;done)) ?_;(with_reducible refine (codec_Value.calls kj74 _ _ l3 t380 t381 t382 t383 t384 t387 t388 _ ?side1 ?side2 A110.out).mono ?_);(case side1 => repeat (first|exact (Kd.C_below HR3.out HB.out)|(with_reducible refine Kd.C_alloc ?_ _)|(with_reducible refine Kd.C_drewN ?_ _)|(with_reducible refine Kd.C_drew ?_)));(case side2 => exact HC3.out);rintro e w112 ⟨v385,rfl,ho0,hb⟩;refine ⟨_,rfl,?_⟩;have n0_:=Aside0.mk (Kd.R_lower (Kd.R_newB ho0 (g:=gb336) (o := .cells #[.int .i64 a0_0, .int .i64 a0_1, .string a0_2, .int .i64 a0_3, .slice A0_4 l0_4.length c0_4] 24 (0,0)) (by (with_reducible repeat (first|refine blk_drewN ?_ _|refine blk_drew ?_|refine blk_alloc ?_ _));exact BK336.out)) (below_size (by repeat (first|(with_reducible first|exact HB.out|apply below_alloc|apply pw_below_drewN|apply below_drew1|refine below_set ?_ GE336.out|refine below_set ?_ GE337.out)|exact HB.out))));have n1_:=Aside0.mk (blk_below (g:=gb336) (o := .cells #[.int .i64 a0_0, .int .i64 a0_1, .string a0_2, .int .i64 a0_3, .slice A0_4 l0_4.length c0_4] 24 (0,0)) (by (with_reducible repeat (first|refine blk_drewN ?_ _|refine blk_drew ?_|refine blk_alloc ?_ _));exact BK336.out) hb);have n2_:=Aside0.mk (blk_below (g:=gb337) (o := .cells #[.string a1_0, .slice A1_1 l1_1.length c1_1] 26 (0,0)) (by (with_reducible repeat (first|refine blk_drewN ?_ _|refine blk_drew ?_|refine blk_alloc ?_ _));exact BK337.out) hb);have n3_:=Aside0.mk (below_step (by repeat (first|(with_reducible first|exact HB.out|apply below_alloc|apply pw_below_drewN|apply below_drew1|refine below_set ?_ GE336.out|refine below_set ?_ GE337.out)|exact HB.out)) hb);clear BK336;clear BK337;clear HB;have HO386:=n0_;have BK336:=n1_;have BK337:=n2_;have HB:=n3_;clear n0_ n1_ n2_ n3_;(try clear hb);(try clear hb2);(try clear hk);(try clear hi);(try clear ho0))|((with_reducible refine gate_dst (N:=17) rfl ?_);(try (refine gate_guard (by rfl) ?_;dsimp only));refine box_event ?hg (N:=17) ?hd (cs:=#[.int .i64 0, .int .i64 0, .string (⟨#[]⟩ : ByteArray), .int .i64 0, .slice none 0 0]) (t:=24) ?hr ?_;(case hd => rfl);(case hg => rfl);(case hr => first|(go_simp;done)|(go_simp;rfl));intro gb389 hg w113 hbox hb;have n0_:=Aside0.mk (Kd.R_below (Kd.R_elderB (by (with_reducible repeat (first|apply Kd.R_alloc|apply Kd.R_drewN|apply Kd.R_drew));exact HO386.out) gb389 (Nat.le_of_eq hg.symm)) hb);have n1_:=Aside0.mk (blk_below (g:=gb336) (o := .cells #[.int .i64 a0_0, .int .i64 a0_1, .string a0_2, .int .i64 a0_3, .slice A0_4 l0_4.length c0_4] 24 (0,0)) (by (with_reducible repeat (first|refine blk_drewN ?_ _|refine blk_drew ?_|refine blk_alloc ?_ _));exact BK336.out) hb);have n2_:=Aside0.mk (blk_below (g:=gb337) (o := .cells #[.string a1_0, .slice A1_1 l1_1.length c1_1] 26 (0,0)) (by (with_reducible repeat (first|refine blk_drewN ?_ _|refine blk_drew ?_|refine blk_alloc ?_ _));exact BK337.out) hb);have n3_:=Aside0.mk (below_step (by repeat (first|(with_reducible first|exact HB.out|apply below_alloc|apply pw_below_drewN|apply below_drew1|refine below_set ?_ GE336.out|refine below_set ?_ GE337.out)|exact HB.out)) hb);have n4_:=Aside0.mk (hbox);have n5_:=Aside0.mk ((by rw [hg];exact (below_size (by repeat (first|(with_reducible first|exact HB.out|apply below_alloc|apply pw_below_drewN|apply below_drew1|refine below_set ?_ GE336.out|refine below_set ?_ GE337.out)|exact HB.out))) : w.heap.size ≤ gb389));have n6_:=Aside0.mk ((by rw [hg];exact (below_size (by repeat (first|(with_reducible first|exact HB.out|apply below_alloc|apply pw_below_drewN|apply below_drew1|refine below_set ?_ GE336.out|refine below_set ?_ GE337.out)|exact HB.out))) : w.heap.size ≤ gb389));have n7_:=Aside0.mk ((by rw [hg];exact Nat.ne_of_lt (blk_lt (g:=gb336) (o := .cells #[.int .i64 a0_0, .int .i64 a0_1, .string a0_2, .int .i64 a0_3, .slice A0_4 l0_4.length c0_4] 24 (0,0)) (by (with_reducible repeat (first|refine blk_drewN ?_ _|refine blk_drew ?_|refine blk_alloc ?_ _));exact BK336.out)) : gb336 ≠ gb389));have n8_:=Aside0.mk ((by rw [hg];exact Nat.ne_of_gt (blk_lt (g:=gb336) (o := .cells #[.int .i64 a0_0, .int .i64 a0_1, .string a0_2, .int .i64 a0_3, .slice A0_4 l0_4.length c0_4] 24 (0,0)) (by (with_reducible repeat (first|refine blk_drewN ?_ _|refine blk_drew ?_|refine blk_alloc ?_ _));exact BK336.out)) : gb389 ≠ gb336));have n9_:=Aside0.mk ((by rw [hg];exact Nat.ne_of_lt (blk_lt (g:=gb337) (o := .cells #[.string a1_0, .slice A1_1 l1_1.length c1_1] 26 (0,0)) (by (with_reducible repeat (first|refine blk_drewN ?_ _|refine blk_drew ?_|refine blk_alloc ?_ _));exact BK337.out)) : gb337 ≠ gb389));have n10_:=Aside0.mk ((by rw [hg];exact Nat.ne_of_gt (blk_lt (g:=gb337) (o := .cells #[.string a1_0, .slice A1_1 l1_1.length c1_1] 26 (0,0)) (by (with_reducible repeat (first|refine blk_drewN ?_ _|refine blk_drew ?_|refine blk_alloc ?_ _));exact BK337.out)) : gb389 ≠ gb337));clear HO386;clear BK336;clear BK337;clear HB;have HO386:=n0_;have BK336:=n1_;have BK337:=n2_;have HB:=n3_;have BK389:=n4_;have GW389:=n5_;have GE389:=n6_;have NB336_389:=n7_;have NB389_336:=n8_;have NB337_389:=n9_;have NB389_337:=n10_;clear n0_ n1_ n2_ n3_ n4_ n5_ n6_ n7_ n8_ n9_ n10_;clear hb hbox hg;have hnb114:=NB389_336.out;have hnc114:=NB336_389.out;have hnb115:=NB389_337.out;have hnc115:=NB337_389.out;have hcz116_0 : w113.cell? ⟨gb389,0,none⟩ = some (.int .i64 0):=(blk_cell BK389.out 0).trans rfl;have hcz116_1 : w113.cell? ⟨gb389,1,none⟩ = some (.int .i64 0):=(blk_cell BK389.out 1).trans rfl;have hcz116_2 : w113.cell? ⟨gb389,2,none⟩ = some (.string (⟨#[]⟩ : ByteArray)):=(blk_cell BK389.out 2).trans rfl;have hcz116_3 : w113.cell? ⟨gb389,3,none⟩ = some (.int .i64 0):=(blk_cell BK389.out 3).trans rfl;have hcz116_4 : w113.cell? ⟨gb389,4,none⟩ = some (.slice none 0 0):=(blk_cell BK389.out 4).trans rfl;have hfz116_0:=blk_frozen BK389.out 0;have hfz116_1:=blk_frozen BK389.out 1;have hfz116_2:=blk_frozen BK389.out 2;have hfz116_3:=blk_frozen BK389.out 3;have hfz116_4:=blk_frozen BK389.out 4;obtain ⟨Ao117,co117,eo117⟩:=Kd.R_slice HO386.out;subst eo117))
  (try simp only [Act.put,List.setIfInBounds_toArray,List.set_cons_zero,List.set_cons_succ])
  go_cut [] (fun wc => ∃ (kq : Nat),Aside0 (windlasslaw2_CodecBack.j6 kq l3 = some r) ∧ Aside0 (kq ≤ kj74) ∧ Aside0 (Kd.R k24 24 wc w.heap.size (fun k_ => k_ ≠ gb336 ∧ k_ ≠ gb389) (.slice Ao117 t384.length co117) t384) ∧ Aside0 (wc.heap[gb336]? = some (.cells #[.int .i64 a0_0, .int .i64 a0_1, .string a0_2, .int .i64 a0_3,(.slice A0_4 l0_4.length c0_4)] 24 (0,0))) ∧ Aside0 (wc.heap[gb337]? = some (.cells #[.string a1_0,(.slice A1_1 l1_1.length c1_1)] 26 (0,0))) ∧ Aside0 (wc.heap[gb389]? = some (.cells #[.int .i64 t380, .int .i64 t381, .string t382, .int .i64 t383,(.slice Ao117 t384.length co117)] 24 (0,0))) ∧ Aside0 (Below w.heap.size w wc))
  case first =>
   have H:=HC111.out
   clear HC111
   by_cases c118 : t388 = 0
   ·rw [if_pos c118] at H
    have c118b0 : (t388 == 0) = true:=beq_iff_eq.mpr c118
    have c118b1 : (t388 != 0) = false:=bne_eq_false_iff_eq.mpr c118
    clear c118
    (first|rw [c118b0]|(simp only [i64_w,i32_w];rw [c118b0])|skip)
    replace H:=Option.bind_eq_some_iff.mp H
    obtain ⟨⟨t390,t393⟩,A1190,H⟩:=H
    replace H : (if t393 = 0 then (if t387 = (t390.length : Int) then (if 0 ≤ t387 then (if t387 ≤ (l3.length : Int) then ((windlasshelp_Bytes.f t390 (l3.take (t387 : Int).toNat)).bind fun t395 => (windlasslaw2_CodecBack.j5 kj74 l3 (!t395))) else (none)) else (none)) else (windlasslaw2_CodecBack.j5 kj74 l3 true)) else (windlasslaw2_CodecBack.j5 kj74 l3 true)) = some r:=H
    have A119:=Aside0.mk A1190
    clear A1190
    have HC120:=Aside0.mk H
    clear H
    have hnb121:=NB389_336.out
    have hnc121:=NB336_389.out
    have hnb122:=NB389_337.out
    have hnc122:=NB337_389.out
    have hcz123_0 : w113.cell? ⟨gb389,0,none⟩ = some (.int .i64 0):=(blk_cell BK389.out 0).trans rfl
    have hcz123_1 : w113.cell? ⟨gb389,1,none⟩ = some (.int .i64 0):=(blk_cell BK389.out 1).trans rfl
    have hcz123_2 : w113.cell? ⟨gb389,2,none⟩ = some (.string (⟨#[]⟩ : ByteArray)):=(blk_cell BK389.out 2).trans rfl
    have hcz123_3 : w113.cell? ⟨gb389,3,none⟩ = some (.int .i64 0):=(blk_cell BK389.out 3).trans rfl
    have hcz123_4 : w113.cell? ⟨gb389,4,none⟩ = some (.slice none 0 0):=(blk_cell BK389.out 4).trans rfl
    have hfz123_0:=blk_frozen BK389.out 0
    have hfz123_1:=blk_frozen BK389.out 1
    have hfz123_2:=blk_frozen BK389.out 2
    have hfz123_3:=blk_frozen BK389.out 3
    have hfz123_4:=blk_frozen BK389.out 4
    go_upto_region 18 with (first|((with_reducible refine gate_callee (f:=12) rfl ?_);refine goesL_ (some 127) rfl rfl Try.func12 (by kernel_rfl) rfl #[.agg #[.int .i64 t380, .int .i64 t381, .string t382, .int .i64 t383, .slice Ao117 t384.length co117]] rfl (by (try simp only [List.map_toArray,List.map_cons,List.map_nil]);first|done|rfl|(simp only [List.length_drop,List.length_take];rfl)|(go_simp;done)|(go_simp;simp;done)) ?_;(with_reducible refine (codec_PutValue.calls kj74 t380 t381 t382 t383 _ _ t384 t390 t393 _ ?side1 ?side2 A119.out).mono ?_);(case side1 => refine (Kd.R_reads' (e:=24) (base:=w.heap.size) (ok:=fun k_ => ((True ∧ k_ ≠ gb336) ∧ k_ ≠ gb389)) (n:=t384.length) (c:=co117) ?_).2.2;exact (by (with_reducible repeat (first|apply Kd.R_alloc|apply Kd.R_drewN|apply Kd.R_drew));exact (Kd.R_mono (Kd.R_far (p:=⟨gb389,4,none⟩) (Kd.R_far (p:=⟨gb389,3,none⟩) (Kd.R_far (p:=⟨gb389,2,none⟩) (Kd.R_far (p:=⟨gb389,1,none⟩) (Kd.R_far (p:=⟨gb389,0,none⟩) (Kd.R_mono HO386.out (fun k_ hk => (⟨hk,hk.2⟩ : _ ∧ k_ ≠ gb389))) (fun _ hk => hk.2) (.int .i64 t380)) (fun _ hk => hk.2) (.int .i64 t381)) (fun _ hk => hk.2) (.string t382)) (fun _ hk => hk.2) (.int .i64 t383)) (fun _ hk => hk.2) (.slice Ao117 t384.length co117)) (fun _ h_ => h_.1))));(case side2 => exact (Kd.R_reads' HO386.out).2.1);rintro e w124 ⟨v391,rfl,ho0,hb⟩;refine ⟨_,rfl,?_⟩;have n0_:=Aside0.mk (Kd.R_below (by (with_reducible repeat (first|apply Kd.R_alloc|apply Kd.R_drewN|apply Kd.R_drew));exact (Kd.R_mono (Kd.R_far (p:=⟨gb389,4,none⟩) (Kd.R_far (p:=⟨gb389,3,none⟩) (Kd.R_far (p:=⟨gb389,2,none⟩) (Kd.R_far (p:=⟨gb389,1,none⟩) (Kd.R_far (p:=⟨gb389,0,none⟩) (Kd.R_mono HO386.out (fun k_ hk => (⟨hk,hk.2⟩ : _ ∧ k_ ≠ gb389))) (fun _ hk => hk.2) (.int .i64 t380)) (fun _ hk => hk.2) (.int .i64 t381)) (fun _ hk => hk.2) (.string t382)) (fun _ hk => hk.2) (.int .i64 t383)) (fun _ hk => hk.2) (.slice Ao117 t384.length co117)) (fun _ h_ => h_.1))) hb);have n1_:=Aside0.mk (Kd.R_lower ho0 (below_size (by repeat (first|(with_reducible first|exact HB.out|apply below_alloc|apply pw_below_drewN|apply below_drew1|refine below_set ?_ GE336.out|refine below_set ?_ GE337.out|refine below_set ?_ GE389.out)|exact HB.out))));have n2_:=Aside0.mk (blk_below (g:=gb336) (o := .cells #[.int .i64 a0_0, .int .i64 a0_1, .string a0_2, .int .i64 a0_3, .slice A0_4 l0_4.length c0_4] 24 (0,0)) (by (with_reducible repeat (first|refine blk_drewN ?_ _|refine blk_drew ?_|refine blk_alloc ?_ _));refine blk_far ?_ NB336_389.out _;(with_reducible repeat (first|refine blk_drewN ?_ _|refine blk_drew ?_|refine blk_alloc ?_ _));refine blk_far ?_ NB336_389.out _;(with_reducible repeat (first|refine blk_drewN ?_ _|refine blk_drew ?_|refine blk_alloc ?_ _));refine blk_far ?_ NB336_389.out _;(with_reducible repeat (first|refine blk_drewN ?_ _|refine blk_drew ?_|refine blk_alloc ?_ _));refine blk_far ?_ NB336_389.out _;(with_reducible repeat (first|refine blk_drewN ?_ _|refine blk_drew ?_|refine blk_alloc ?_ _));refine blk_far ?_ NB336_389.out _;(with_reducible repeat (first|refine blk_drewN ?_ _|refine blk_drew ?_|refine blk_alloc ?_ _));exact BK336.out) hb);have n3_:=Aside0.mk (blk_below (g:=gb337) (o := .cells #[.string a1_0, .slice A1_1 l1_1.length c1_1] 26 (0,0)) (by (with_reducible repeat (first|refine blk_drewN ?_ _|refine blk_drew ?_|refine blk_alloc ?_ _));refine blk_far ?_ NB337_389.out _;(with_reducible repeat (first|refine blk_drewN ?_ _|refine blk_drew ?_|refine blk_alloc ?_ _));refine blk_far ?_ NB337_389.out _;(with_reducible repeat (first|refine blk_drewN ?_ _|refine blk_drew ?_|refine blk_alloc ?_ _));refine blk_far ?_ NB337_389.out _;(with_reducible repeat (first|refine blk_drewN ?_ _|refine blk_drew ?_|refine blk_alloc ?_ _));refine blk_far ?_ NB337_389.out _;(with_reducible repeat (first|refine blk_drewN ?_ _|refine blk_drew ?_|refine blk_alloc ?_ _));refine blk_far ?_ NB337_389.out _;(with_reducible repeat (first|refine blk_drewN ?_ _|refine blk_drew ?_|refine blk_alloc ?_ _));exact BK337.out) hb);have n4_:=Aside0.mk (blk_below (g:=gb389) (o := .cells #[.int .i64 t380, .int .i64 t381, .string t382, .int .i64 t383, .slice Ao117 t384.length co117] 24 (0,0)) (by (with_reducible repeat (first|refine blk_drewN ?_ _|refine blk_drew ?_|refine blk_alloc ?_ _));refine blk_put (cs:=#[.int .i64 t380, .int .i64 t381, .string t382, .int .i64 t383, .slice none 0 0]) ?_ 4 _ rfl;(with_reducible repeat (first|refine blk_drewN ?_ _|refine blk_drew ?_|refine blk_alloc ?_ _));refine blk_put (cs:=#[.int .i64 t380, .int .i64 t381, .string t382, .int .i64 0, .slice none 0 0]) ?_ 3 _ rfl;(with_reducible repeat (first|refine blk_drewN ?_ _|refine blk_drew ?_|refine blk_alloc ?_ _));refine blk_put (cs:=#[.int .i64 t380, .int .i64 t381, .string (⟨#[]⟩ : ByteArray), .int .i64 0, .slice none 0 0]) ?_ 2 _ rfl;(with_reducible repeat (first|refine blk_drewN ?_ _|refine blk_drew ?_|refine blk_alloc ?_ _));refine blk_put (cs:=#[.int .i64 t380, .int .i64 0, .string (⟨#[]⟩ : ByteArray), .int .i64 0, .slice none 0 0]) ?_ 1 _ rfl;(with_reducible repeat (first|refine blk_drewN ?_ _|refine blk_drew ?_|refine blk_alloc ?_ _));refine blk_put (cs:=#[.int .i64 0, .int .i64 0, .string (⟨#[]⟩ : ByteArray), .int .i64 0, .slice none 0 0]) ?_ 0 _ rfl;(with_reducible repeat (first|refine blk_drewN ?_ _|refine blk_drew ?_|refine blk_alloc ?_ _));exact BK389.out) hb);have n5_:=Aside0.mk (below_step (by repeat (first|(with_reducible first|exact HB.out|apply below_alloc|apply pw_below_drewN|apply below_drew1|refine below_set ?_ GE336.out|refine below_set ?_ GE337.out|refine below_set ?_ GE389.out)|exact HB.out)) hb);clear HO386;clear BK336;clear BK337;clear BK389;clear HB;have HO386:=n0_;have HO392:=n1_;have BK336:=n2_;have BK337:=n3_;have BK389:=n4_;have HB:=n5_;clear n0_ n1_ n2_ n3_ n4_ n5_;(try clear hb);(try clear hb2);(try clear hk);(try clear hi);(try clear ho0)))
    (try simp only [Act.put,List.setIfInBounds_toArray,List.set_cons_zero,List.set_cons_succ])
    go_cut [145] (fun v145 wc => ∃ (kq : Nat) (x145_119 : Bool),v145 = .bool x145_119 ∧ Aside0 (windlasslaw2_CodecBack.j5 kq l3 x145_119 = some r) ∧ Aside0 (kq ≤ kj74) ∧ Aside0 (Kd.R k24 24 wc w.heap.size (fun k_ => k_ ≠ gb336 ∧ k_ ≠ gb389) (.slice Ao117 t384.length co117) t384) ∧ Aside0 (wc.heap[gb336]? = some (.cells #[.int .i64 a0_0, .int .i64 a0_1, .string a0_2, .int .i64 a0_3,(.slice A0_4 l0_4.length c0_4)] 24 (0,0))) ∧ Aside0 (wc.heap[gb337]? = some (.cells #[.string a1_0,(.slice A1_1 l1_1.length c1_1)] 26 (0,0))) ∧ Aside0 (wc.heap[gb389]? = some (.cells #[.int .i64 t380, .int .i64 t381, .string t382, .int .i64 t383,(.slice Ao117 t384.length co117)] 24 (0,0))) ∧ Aside0 (Below w.heap.size w wc))
    case first =>
     have H:=HC120.out
     clear HC120
     by_cases c125 : t393 = 0
     ·rw [if_pos c125] at H
      have c125b0 : (t393 == 0) = true:=beq_iff_eq.mpr c125
      have c125b1 : (t393 != 0) = false:=bne_eq_false_iff_eq.mpr c125
      clear c125
      (first|rw [c125b0]|(simp only [i64_w,i32_w];rw [c125b0])|skip)
      by_cases c126 : t387 = (t390.length : Int)
      ·rw [if_pos c126] at H
       have c126b0 : (t387 == (t390.length : Int)) = true:=beq_iff_eq.mpr c126
       have c126b1 : (t387 != (t390.length : Int)) = false:=bne_eq_false_iff_eq.mpr c126
       clear c126
       by_cases c127 : 0 ≤ t387
       ·rw [if_pos c127] at H
        have c127b0:=eq_true c127
        have c127b1 : decide (0 ≤ t387) = true:=decide_eq_true c127
        clear c127
        by_cases c128 : t387 ≤ (l3.length : Int)
        ·rw [if_pos c128] at H
         have c128b0:=eq_true c128
         have c128b1 : decide (t387 ≤ (l3.length : Int)) = true:=decide_eq_true c128
         clear c128
         replace H:=Option.bind_eq_some_iff.mp H
         obtain ⟨t395,A1290,H⟩:=H
         replace H : (windlasslaw2_CodecBack.j5 kj74 l3 (!t395)) = some r:=H
         have A129:=Aside0.mk A1290
         clear A1290
         have H':=Aside0.mk H
         clear H
         obtain ⟨Ao130,co130,eo130⟩:=Kd.R_slice HO392.out
         subst eo130
         obtain ⟨i0131,hi0131,_,hsz131,_⟩:=info_parts info5
         obtain ⟨hcut131,hA131,hC131⟩:=print_take_of (P:=Try.prog) (Value.int .u8) 0 30 5 .i64 Try.underlying30 hi0131 hsz131 A3 c3 l3 t387 (of_decide_eq_true (by first|(with_reducible assumption)|assumption)) (of_decide_eq_true (by first|(with_reducible assumption)|assumption)) HC3.out
         have HR394:=Aside0.mk (Kd.C_of_reads (h1:=fun _ => rfl) (hA131 _ (Kd.reads_of_C HR3.out)))
         have HC394:=Aside0.mk hC131
         clear hA131 hC131 hi0131 hsz131
         go_wp2_with (first|(go_at_call 16;(try rw [← show (l3.take (t387 : Int).toNat).length = t387.toNat from (by rw [List.length_take];have h_ : (t387 : Int) ≤ (l3.length : Int):=of_decide_eq_true (by first|(with_reducible assumption)|assumption);omega)]);(with_reducible refine (windlasshelp_Bytes.calls _ _ t390 _ _ (l3.take (t387 : Int).toNat) t395 _ ?side1 ?side2 ?side3 ?side4 A129.out).mono ?_);(case side1 => repeat (first|exact (Kd.R_reads' HO392.out).2.2|(with_reducible refine Kd.C_alloc ?_ _)|(with_reducible refine Kd.C_drewN ?_ _)|(with_reducible refine Kd.C_drew ?_)));(case side2 => exact (Kd.R_reads' HO392.out).2.1);(case side3 => repeat (first|exact (Kd.C_below HR394.out HB.out)|(with_reducible refine Kd.C_alloc ?_ _)|(with_reducible refine Kd.C_drewN ?_ _)|(with_reducible refine Kd.C_drew ?_)));(case side4 => exact HC394.out);rintro e w' ⟨rfl,⟨nd,rfl⟩⟩))
         go_meet
         case rel => exact ⟨_,(!t395),(by first|rfl|(simp;done)|(simp [*];done)),H',⟨by have:=HJ6.out;have:=HJ44.out;have:=HJ74.out;first|omega|exact Nat.le_refl _⟩,⟨by (with_reducible repeat (first|apply Kd.R_alloc|apply Kd.R_drewN|apply Kd.R_drew));exact Kd.R_mono HO386.out (fun _ hk => ⟨hk.1.2,hk.2⟩)⟩,⟨by (with_reducible repeat (first|refine blk_drewN ?_ _|refine blk_drew ?_|refine blk_alloc ?_ _));exact BK336.out⟩,⟨by (with_reducible repeat (first|refine blk_drewN ?_ _|refine blk_drew ?_|refine blk_alloc ?_ _));exact BK337.out⟩,⟨by (with_reducible repeat (first|refine blk_drewN ?_ _|refine blk_drew ?_|refine blk_alloc ?_ _));exact BK389.out⟩,⟨by repeat (first|(with_reducible first|exact HB.out|apply below_alloc|apply pw_below_drewN|apply below_drew1|refine below_set ?_ GE336.out|refine below_set ?_ GE337.out|refine below_set ?_ GE389.out)|exact HB.out)⟩⟩
        ·rw [if_neg c128] at H
         exact absurd H (by simp)
       ·rw [if_neg c127] at H
        exact absurd H (by simp)
      ·rw [if_neg c126] at H
       have c126b0 : (t387 == (t390.length : Int)) = false:=beq_eq_false_iff_ne.mpr c126
       have c126b1 : (t387 != (t390.length : Int)) = true:=bne_iff_ne.mpr c126
       have H':=Aside0.mk H
       clear H
       obtain ⟨Ao132,co132,eo132⟩:=Kd.R_slice HO392.out
       subst eo132
       go_wp2
       go_meet
       case rel => exact ⟨_,(true),(by first|rfl|(simp;done)|(simp [*];done)),H',⟨by have:=HJ6.out;have:=HJ44.out;have:=HJ74.out;first|omega|exact Nat.le_refl _⟩,⟨by (with_reducible repeat (first|apply Kd.R_alloc|apply Kd.R_drewN|apply Kd.R_drew));exact Kd.R_mono HO386.out (fun _ hk => ⟨hk.1.2,hk.2⟩)⟩,⟨by (with_reducible repeat (first|refine blk_drewN ?_ _|refine blk_drew ?_|refine blk_alloc ?_ _));exact BK336.out⟩,⟨by (with_reducible repeat (first|refine blk_drewN ?_ _|refine blk_drew ?_|refine blk_alloc ?_ _));exact BK337.out⟩,⟨by (with_reducible repeat (first|refine blk_drewN ?_ _|refine blk_drew ?_|refine blk_alloc ?_ _));exact BK389.out⟩,⟨by repeat (first|(with_reducible first|exact HB.out|apply below_alloc|apply pw_below_drewN|apply below_drew1|refine below_set ?_ GE336.out|refine below_set ?_ GE337.out|refine below_set ?_ GE389.out)|exact HB.out)⟩⟩
     ·rw [if_neg c125] at H
      have c125b0 : (t393 == 0) = false:=beq_eq_false_iff_ne.mpr c125
      have c125b1 : (t393 != 0) = true:=bne_iff_ne.mpr c125
      (first|rw [c125b0]|(simp only [i64_w,i32_w];rw [c125b0])|skip)
      have H':=Aside0.mk H
      clear H
      go_wp2
      go_meet
      case rel => exact ⟨_,(true),(by first|rfl|(simp;done)|(simp [*];done)),H',⟨by have:=HJ6.out;have:=HJ44.out;have:=HJ74.out;first|omega|exact Nat.le_refl _⟩,⟨by (with_reducible repeat (first|apply Kd.R_alloc|apply Kd.R_drewN|apply Kd.R_drew));exact Kd.R_mono HO386.out (fun _ hk => ⟨hk.1.2,hk.2⟩)⟩,⟨by (with_reducible repeat (first|refine blk_drewN ?_ _|refine blk_drew ?_|refine blk_alloc ?_ _));exact BK336.out⟩,⟨by (with_reducible repeat (first|refine blk_drewN ?_ _|refine blk_drew ?_|refine blk_alloc ?_ _));exact BK337.out⟩,⟨by (with_reducible repeat (first|refine blk_drewN ?_ _|refine blk_drew ?_|refine blk_alloc ?_ _));exact BK389.out⟩,⟨by repeat (first|(with_reducible first|exact HB.out|apply below_alloc|apply pw_below_drewN|apply below_drew1|refine below_set ?_ GE336.out|refine below_set ?_ GE337.out|refine below_set ?_ GE389.out)|exact HB.out)⟩⟩
    case rest =>
     clear HC120
     try clear c1
     try clear c2
     try clear p2
     try clear c3
     try clear c4
     try clear c5
     try clear c6
     try clear c7
     try clear c8
     try clear c9
     try clear c10
     try clear c11
     try clear c12
     try clear c14
     try clear c15
     try clear c15b0
     try clear c15b1
     try clear c16
     try clear c22
     try clear c22b0
     try clear c22b1
     try clear c23
     try clear c26
     try clear c29
     try clear c32
     try clear c35
     try clear c40
     try clear c43
     try clear c46
     try clear c49
     try clear c49b0
     try clear c49b1
     try clear c50
     try clear c51
     try clear c60
     try clear c61
     try clear c64
     try clear c64b0
     try clear c64b1
     try clear c65
     try clear c65b0
     try clear c65b1
     try clear c67
     try clear c68
     try clear c70
     try clear c73
     try clear c76
     try clear c79
     try clear c79b0
     try clear c79b1
     try clear c80
     try clear c81
     try clear c90
     try clear c91
     try clear c94
     try clear c94b0
     try clear c94b1
     try clear c95
     try clear c95b0
     try clear c95b1
     try clear c96
     try clear c96b0
     try clear c96b1
     try clear c98
     try clear c99
     try clear c101
     try clear c104
     try clear c105
     try clear c107
     try clear c109
     try clear c114
     try clear c115
     try clear c118
     try clear c118b0
     try clear c118b1
     try clear c121
     try clear c122
     try clear c125
     try clear c125b0
     try clear c125b1
     try clear c126
     try clear c126b0
     try clear c126b1
     try clear c127
     try clear c127b0
     try clear c127b1
     try clear c128
     try clear c128b0
     try clear c128b1
     try clear hcz100_0
     try clear hcz100_1
     try clear hcz102_0
     try clear hcz102_1
     try clear hcz106_0
     try clear hcz106_1
     try clear hcz108_0
     try clear hcz108_1
     try clear hcz116_0
     try clear hcz116_1
     try clear hcz116_2
     try clear hcz116_3
     try clear hcz116_4
     try clear hcz123_0
     try clear hcz123_1
     try clear hcz123_2
     try clear hcz123_3
     try clear hcz123_4
     try clear hcz17_0
     try clear hcz17_1
     try clear hcz17_2
     try clear hcz17_3
     try clear hcz17_4
     try clear hcz19_0
     try clear hcz19_1
     try clear hcz21_0
     try clear hcz21_1
     try clear hcz24_0
     try clear hcz24_1
     try clear hcz24_2
     try clear hcz24_3
     try clear hcz24_4
     try clear hcz26_0
     try clear hcz26_1
     try clear hcz28_0
     try clear hcz28_1
     try clear hcz30_0
     try clear hcz30_1
     try clear hcz30_2
     try clear hcz30_3
     try clear hcz30_4
     try clear hcz32_0
     try clear hcz32_1
     try clear hcz34_0
     try clear hcz34_1
     try clear hcz36_0
     try clear hcz36_1
     try clear hcz36_2
     try clear hcz36_3
     try clear hcz36_4
     try clear hcz38_0
     try clear hcz38_1
     try clear hcz41_0
     try clear hcz41_1
     try clear hcz41_2
     try clear hcz41_3
     try clear hcz41_4
     try clear hcz47_0
     try clear hcz47_1
     try clear hcz47_2
     try clear hcz47_3
     try clear hcz47_4
     try clear hcz62_0
     try clear hcz62_1
     try clear hcz62_2
     try clear hcz62_3
     try clear hcz62_4
     try clear hcz69_0
     try clear hcz69_1
     try clear hcz69_2
     try clear hcz69_3
     try clear hcz69_4
     try clear hcz71_0
     try clear hcz71_1
     try clear hcz71_2
     try clear hcz71_3
     try clear hcz71_4
     try clear hcz77_0
     try clear hcz77_1
     try clear hcz92_0
     try clear hcz92_1
     try clear hfz100_0
     try clear hfz100_1
     try clear hfz102_0
     try clear hfz102_1
     try clear hfz106_0
     try clear hfz106_1
     try clear hfz108_0
     try clear hfz108_1
     try clear hfz116_0
     try clear hfz116_1
     try clear hfz116_2
     try clear hfz116_3
     try clear hfz116_4
     try clear hfz123_0
     try clear hfz123_1
     try clear hfz123_2
     try clear hfz123_3
     try clear hfz123_4
     try clear hfz17_0
     try clear hfz17_1
     try clear hfz17_2
     try clear hfz17_3
     try clear hfz17_4
     try clear hfz19_0
     try clear hfz19_1
     try clear hfz21_0
     try clear hfz21_1
     try clear hfz24_0
     try clear hfz24_1
     try clear hfz24_2
     try clear hfz24_3
     try clear hfz24_4
     try clear hfz26_0
     try clear hfz26_1
     try clear hfz28_0
     try clear hfz28_1
     try clear hfz30_0
     try clear hfz30_1
     try clear hfz30_2
     try clear hfz30_3
     try clear hfz30_4
     try clear hfz32_0
     try clear hfz32_1
     try clear hfz34_0
     try clear hfz34_1
     try clear hfz36_0
     try clear hfz36_1
     try clear hfz36_2
     try clear hfz36_3
     try clear hfz36_4
     try clear hfz38_0
     try clear hfz38_1
     try clear hfz41_0
     try clear hfz41_1
     try clear hfz41_2
     try clear hfz41_3
     try clear hfz41_4
     try clear hfz47_0
     try clear hfz47_1
     try clear hfz47_2
     try clear hfz47_3
     try clear hfz47_4
     try clear hfz62_0
     try clear hfz62_1
     try clear hfz62_2
     try clear hfz62_3
     try clear hfz62_4
     try clear hfz69_0
     try clear hfz69_1
     try clear hfz69_2
     try clear hfz69_3
     try clear hfz69_4
     try clear hfz71_0
     try clear hfz71_1
     try clear hfz71_2
     try clear hfz71_3
     try clear hfz71_4
     try clear hfz77_0
     try clear hfz77_1
     try clear hfz92_0
     try clear hfz92_1
     try clear p2
     obtain ⟨kq,x145_119,rfl,HA,HJ119,HO_390004,BK336,BK337,BK389,HB⟩:=hcut
     cases kq with
     | zero => exact absurd HA.out (by simp [windlasslaw2_CodecBack.j5])
     | succ kj119 =>
      have H:=HA.out
      clear HA
      simp only [windlasslaw2_CodecBack.j5] at H
      by_cases c133 : x145_119 = true
      ·subst c133
       have H1 : (some false) = some r:=by rw [if_pos rfl] at H;exact H
       clear H
       have H:=H1
       clear H1
       obtain rfl:=Option.some.inj H
       go_wp2
       go_ret
       exact ⟨by first|rfl|(simp [errW_none,errW_some] <;> rfl)|(simp [*,errW_none,errW_some] <;> rfl),by repeat (first|(with_reducible first|exact HB.out|apply below_alloc|apply pw_below_drewN|apply below_drew1|refine below_set ?_ GE336.out|refine below_set ?_ GE337.out|refine below_set ?_ GE389.out)|exact HB.out)⟩
      ·replace c133:=Bool.eq_false_iff.mpr c133
       subst c133
       have H1 : (windlasslaw2_CodecBack.j6 kj119 l3) = some r:=by rw [if_neg (show ¬ (false = true) by decide)] at H;exact H
       clear H
       have H:=H1
       clear H1
       have H':=Aside0.mk H
       clear H
       go_wp2
       go_meet
       case rel => exact ⟨_,H',⟨by have:=HJ6.out;have:=HJ44.out;have:=HJ74.out;have:=HJ119.out;first|omega|exact Nat.le_refl _⟩,⟨by (with_reducible repeat (first|apply Kd.R_alloc|apply Kd.R_drewN|apply Kd.R_drew));exact HO_390004.out⟩,⟨by (with_reducible repeat (first|refine blk_drewN ?_ _|refine blk_drew ?_|refine blk_alloc ?_ _));exact BK336.out⟩,⟨by (with_reducible repeat (first|refine blk_drewN ?_ _|refine blk_drew ?_|refine blk_alloc ?_ _));exact BK337.out⟩,⟨by (with_reducible repeat (first|refine blk_drewN ?_ _|refine blk_drew ?_|refine blk_alloc ?_ _));exact BK389.out⟩,⟨by repeat (first|(with_reducible first|exact HB.out|apply below_alloc|apply pw_below_drewN|apply below_drew1|refine below_set ?_ GE336.out|refine below_set ?_ GE337.out|refine below_set ?_ GE389.out)|exact HB.out)⟩⟩
   ·rw [if_neg c118] at H
    have c118b0 : (t388 == 0) = false:=beq_eq_false_iff_ne.mpr c118
    have c118b1 : (t388 != 0) = true:=bne_iff_ne.mpr c118
    (first|rw [c118b0]|(simp only [i64_w,i32_w];rw [c118b0])|skip)
    have H':=Aside0.mk H
    clear H
    go_wp2
    go_meet
    case rel => exact ⟨_,H',⟨by have:=HJ6.out;have:=HJ44.out;have:=HJ74.out;first|omega|exact Nat.le_refl _⟩,⟨by (with_reducible repeat (first|apply Kd.R_alloc|apply Kd.R_drewN|apply Kd.R_drew));exact Kd.R_mono (Kd.R_far (p:=⟨gb389,4,none⟩) (Kd.R_far (p:=⟨gb389,3,none⟩) (Kd.R_far (p:=⟨gb389,2,none⟩) (Kd.R_far (p:=⟨gb389,1,none⟩) (Kd.R_far (p:=⟨gb389,0,none⟩) (Kd.R_mono HO386.out (fun k_ hk => (⟨hk,hk.2⟩ : _ ∧ k_ ≠ gb389))) (fun _ hk => hk.2) (.int .i64 t380)) (fun _ hk => hk.2) (.int .i64 t381)) (fun _ hk => hk.2) (.string t382)) (fun _ hk => hk.2) (.int .i64 t383)) (fun _ hk => hk.2) (.slice Ao117 t384.length co117)) (fun _ hk => ⟨hk.1.1.2,hk.1.2⟩)⟩,⟨by (with_reducible repeat (first|refine blk_drewN ?_ _|refine blk_drew ?_|refine blk_alloc ?_ _));refine blk_far ?_ NB336_389.out _;(with_reducible repeat (first|refine blk_drewN ?_ _|refine blk_drew ?_|refine blk_alloc ?_ _));refine blk_far ?_ NB336_389.out _;(with_reducible repeat (first|refine blk_drewN ?_ _|refine blk_drew ?_|refine blk_alloc ?_ _));refine blk_far ?_ NB336_389.out _;(with_reducible repeat (first|refine blk_drewN ?_ _|refine blk_drew ?_|refine blk_alloc ?_ _));refine blk_far ?_ NB336_389.out _;(with_reducible repeat (first|refine blk_drewN ?_ _|refine blk_drew ?_|refine blk_alloc ?_ _));refine blk_far ?_ NB336_389.out _;(with_reducible repeat (first|refine blk_drewN ?_ _|refine blk_drew ?_|refine blk_alloc ?_ _));exact BK336.out⟩,⟨by (with_reducible repeat (first|refine blk_drewN ?_ _|refine blk_drew ?_|refine blk_alloc ?_ _));refine blk_far ?_ NB337_389.out _;(with_reducible repeat (first|refine blk_drewN ?_ _|refine blk_drew ?_|refine blk_alloc ?_ _));refine blk_far ?_ NB337_389.out _;(with_reducible repeat (first|refine blk_drewN ?_ _|refine blk_drew ?_|refine blk_alloc ?_ _));refine blk_far ?_ NB337_389.out _;(with_reducible repeat (first|refine blk_drewN ?_ _|refine blk_drew ?_|refine blk_alloc ?_ _));refine blk_far ?_ NB337_389.out _;(with_reducible repeat (first|refine blk_drewN ?_ _|refine blk_drew ?_|refine blk_alloc ?_ _));refine blk_far ?_ NB337_389.out _;(with_reducible repeat (first|refine blk_drewN ?_ _|refine blk_drew ?_|refine blk_alloc ?_ _));exact BK337.out⟩,⟨by (with_reducible repeat (first|refine blk_drewN ?_ _|refine blk_drew ?_|refine blk_alloc ?_ _));refine blk_put (cs:=#[.int .i64 t380, .int .i64 t381, .string t382, .int .i64 t383, .slice none 0 0]) ?_ 4 _ rfl;(with_reducible repeat (first|refine blk_drewN ?_ _|refine blk_drew ?_|refine blk_alloc ?_ _));refine blk_put (cs:=#[.int .i64 t380, .int .i64 t381, .string t382, .int .i64 0, .slice none 0 0]) ?_ 3 _ rfl;(with_reducible repeat (first|refine blk_drewN ?_ _|refine blk_drew ?_|refine blk_alloc ?_ _));refine blk_put (cs:=#[.int .i64 t380, .int .i64 t381, .string (⟨#[]⟩ : ByteArray), .int .i64 0, .slice none 0 0]) ?_ 2 _ rfl;(with_reducible repeat (first|refine blk_drewN ?_ _|refine blk_drew ?_|refine blk_alloc ?_ _));refine blk_put (cs:=#[.int .i64 t380, .int .i64 0, .string (⟨#[]⟩ : ByteArray), .int .i64 0, .slice none 0 0]) ?_ 1 _ rfl;(with_reducible repeat (first|refine blk_drewN ?_ _|refine blk_drew ?_|refine blk_alloc ?_ _));refine blk_put (cs:=#[.int .i64 0, .int .i64 0, .string (⟨#[]⟩ : ByteArray), .int .i64 0, .slice none 0 0]) ?_ 0 _ rfl;(with_reducible repeat (first|refine blk_drewN ?_ _|refine blk_drew ?_|refine blk_alloc ?_ _));exact BK389.out⟩,⟨by repeat (first|(with_reducible first|exact HB.out|apply below_alloc|apply pw_below_drewN|apply below_drew1|refine below_set ?_ GE336.out|refine below_set ?_ GE337.out|refine below_set ?_ GE389.out)|exact HB.out)⟩⟩
  case rest =>
   clear HC111
   try clear c1
   try clear c2
   try clear p2
   try clear c3
   try clear c4
   try clear c5
   try clear c6
   try clear c7
   try clear c8
   try clear c9
   try clear c10
   try clear c11
   try clear c12
   try clear c13
   try clear c14
   try clear c15
   try clear c15b0
   try clear c15b1
   try clear c16
   try clear c22
   try clear c22b0
   try clear c22b1
   try clear c23
   try clear c26
   try clear c29
   try clear c32
   try clear c35
   try clear c40
   try clear c43
   try clear c46
   try clear c49
   try clear c49b0
   try clear c49b1
   try clear c50
   try clear c51
   try clear c60
   try clear c61
   try clear c64
   try clear c64b0
   try clear c64b1
   try clear c65
   try clear c65b0
   try clear c65b1
   try clear c67
   try clear c68
   try clear c70
   try clear c73
   try clear c76
   try clear c79
   try clear c79b0
   try clear c79b1
   try clear c80
   try clear c81
   try clear c90
   try clear c91
   try clear c94
   try clear c94b0
   try clear c94b1
   try clear c95
   try clear c95b0
   try clear c95b1
   try clear c96
   try clear c96b0
   try clear c96b1
   try clear c98
   try clear c99
   try clear c101
   try clear c104
   try clear c105
   try clear c107
   try clear c109
   try clear c114
   try clear c115
   try clear c118
   try clear c118b0
   try clear c118b1
   try clear c121
   try clear c122
   try clear c125
   try clear c125b0
   try clear c125b1
   try clear c126
   try clear c126b0
   try clear c126b1
   try clear c127
   try clear c127b0
   try clear c127b1
   try clear c128
   try clear c128b0
   try clear c128b1
   try clear c133
   try clear hcz100_0
   try clear hcz100_1
   try clear hcz102_0
   try clear hcz102_1
   try clear hcz106_0
   try clear hcz106_1
   try clear hcz108_0
   try clear hcz108_1
   try clear hcz116_0
   try clear hcz116_1
   try clear hcz116_2
   try clear hcz116_3
   try clear hcz116_4
   try clear hcz123_0
   try clear hcz123_1
   try clear hcz123_2
   try clear hcz123_3
   try clear hcz123_4
   try clear hcz17_0
   try clear hcz17_1
   try clear hcz17_2
   try clear hcz17_3
   try clear hcz17_4
   try clear hcz19_0
   try clear hcz19_1
   try clear hcz21_0
   try clear hcz21_1
   try clear hcz24_0
   try clear hcz24_1
   try clear hcz24_2
   try clear hcz24_3
   try clear hcz24_4
   try clear hcz26_0
   try clear hcz26_1
   try clear hcz28_0
   try clear hcz28_1
   try clear hcz30_0
   try clear hcz30_1
   try clear hcz30_2
   try clear hcz30_3
   try clear hcz30_4
   try clear hcz32_0
   try clear hcz32_1
   try clear hcz34_0
   try clear hcz34_1
   try clear hcz36_0
   try clear hcz36_1
   try clear hcz36_2
   try clear hcz36_3
   try clear hcz36_4
   try clear hcz38_0
   try clear hcz38_1
   try clear hcz41_0
   try clear hcz41_1
   try clear hcz41_2
   try clear hcz41_3
   try clear hcz41_4
   try clear hcz47_0
   try clear hcz47_1
   try clear hcz47_2
   try clear hcz47_3
   try clear hcz47_4
   try clear hcz62_0
   try clear hcz62_1
   try clear hcz62_2
   try clear hcz62_3
   try clear hcz62_4
   try clear hcz69_0
   try clear hcz69_1
   try clear hcz69_2
   try clear hcz69_3
   try clear hcz69_4
   try clear hcz71_0
   try clear hcz71_1
   try clear hcz71_2
   try clear hcz71_3
   try clear hcz71_4
   try clear hcz77_0
   try clear hcz77_1
   try clear hcz92_0
   try clear hcz92_1
   try clear hfz100_0
   try clear hfz100_1
   try clear hfz102_0
   try clear hfz102_1
   try clear hfz106_0
   try clear hfz106_1
   try clear hfz108_0
   try clear hfz108_1
   try clear hfz116_0
   try clear hfz116_1
   try clear hfz116_2
   try clear hfz116_3
   try clear hfz116_4
   try clear hfz123_0
   try clear hfz123_1
   try clear hfz123_2
   try clear hfz123_3
   try clear hfz123_4
   try clear hfz17_0
   try clear hfz17_1
   try clear hfz17_2
   try clear hfz17_3
   try clear hfz17_4
   try clear hfz19_0
   try clear hfz19_1
   try clear hfz21_0
   try clear hfz21_1
   try clear hfz24_0
   try clear hfz24_1
   try clear hfz24_2
   try clear hfz24_3
   try clear hfz24_4
   try clear hfz26_0
   try clear hfz26_1
   try clear hfz28_0
   try clear hfz28_1
   try clear hfz30_0
   try clear hfz30_1
   try clear hfz30_2
   try clear hfz30_3
   try clear hfz30_4
   try clear hfz32_0
   try clear hfz32_1
   try clear hfz34_0
   try clear hfz34_1
   try clear hfz36_0
   try clear hfz36_1
   try clear hfz36_2
   try clear hfz36_3
   try clear hfz36_4
   try clear hfz38_0
   try clear hfz38_1
   try clear hfz41_0
   try clear hfz41_1
   try clear hfz41_2
   try clear hfz41_3
   try clear hfz41_4
   try clear hfz47_0
   try clear hfz47_1
   try clear hfz47_2
   try clear hfz47_3
   try clear hfz47_4
   try clear hfz62_0
   try clear hfz62_1
   try clear hfz62_2
   try clear hfz62_3
   try clear hfz62_4
   try clear hfz69_0
   try clear hfz69_1
   try clear hfz69_2
   try clear hfz69_3
   try clear hfz69_4
   try clear hfz71_0
   try clear hfz71_1
   try clear hfz71_2
   try clear hfz71_3
   try clear hfz71_4
   try clear hfz77_0
   try clear hfz77_1
   try clear hfz92_0
   try clear hfz92_1
   try clear p2
   obtain ⟨kq,HA,HJ110,HO_390004,BK336,BK337,BK389,HB⟩:=hcut
   rename_i ic20_ ic21_ ic22_ ic23_ ic24_ ic25_ ic26_ ic27_ ic28_ ic29_ ic210_ ic211_ ic212_ ic213_ ic214_ ic215_ ic216_ ic217_ ic218_ ic219_ ic220_ ic221_ ic222_ ic223_ ic224_ ic225_ ic226_ ic227_ ic228_ ic229_ ic230_ ic231_ ic232_ ic233_ ic234_ ic235_ ic236_ ic237_ ic238_ ic239_ ic240_ ic241_ ic242_ ic243_ ic244_ ic245_ ic246_ ic247_ ic248_ ic249_ ic250_ ic251_ ic252_ ic253_ ic254_ ic255_ ic256_ ic257_ ic258_ ic259_ ic260_ ic261_ ic262_ ic263_ ic264_ ic265_ ic266_ ic267_ ic268_ ic269_ ic270_ ic271_ ic272_ ic273_ ic274_ ic275_ ic276_ ic277_ ic278_ ic279_ ic280_ ic281_ ic282_ ic283_ ic284_ ic285_ ic286_ ic287_ ic288_ ic289_ ic290_ ic291_ ic292_ ic293_ ic294_ ic295_ ic296_ ic297_ ic298_ ic299_ ic2100_ ic2101_ ic2102_ ic2103_ ic2104_ ic2105_ ic2106_ ic2107_ ic2108_ ic2109_ ic2110_ ic2111_ ic2112_ ic2113_ ic2114_ ic2115_ ic2116_ ic2117_ ic2118_ ic2119_ ic2120_ ic2121_ ic2122_ ic2123_ ic2124_ ic2125_ ic2126_ ic2127_ ic2128_ ic2129_ ic2130_ ic2131_ ic2132_ ic2133_ ic2134_ ic2135_ ic2136_ ic2137_ ic2138_ ic2139_ ic2140_ ic2141_ ic2142_ ic2143_ ic2144_ ic2145_ ic2146_ ic2147_ ic2148_ ic2149_ ic2150_ ic2151_ ic2152_ ic2153_ ic2154_ ic2155_ ic2156_ ic2157_ ic2158_ ic2159_ ic2160_
   revert hu24 hu26 HR0_4 HC0_4 HR1_1 HC1_1 HR2 HC2 HR3 HC3 A5 ic00_ gb336 w8 GW336 GE336 gb337 w9 GW337 GE337 NB336_337 NB337_336 w10 ic01_ ic02_ ic03_ ic04_ ic05_ ic06_ ic07_ ic08_ ic09_ ic010_ ic011_ ic012_ ic013_ ic014_ ic015_ ic016_ ic017_ ic018_ ic019_ ic020_ ic021_ ic022_ ic023_ ic024_ ic025_ ic026_ ic027_ ic028_ ic029_ ic030_ ic031_ ic032_ ic033_ ic034_ ic035_ ic036_ ic037_ ic038_ ic039_ ic040_ ic041_ ic042_ ic043_ ic044_ ic045_ ic046_ ic047_ ic048_ ic049_ ic050_ ic051_ ic052_ ic053_ ic054_ ic055_ ic056_ ic057_ ic058_ ic059_ ic060_ ic061_ ic062_ ic063_ ic064_ ic065_ ic066_ ic067_ ic068_ ic069_ ic070_ ic071_ ic072_ ic073_ ic074_ ic075_ ic076_ ic077_ ic078_ ic079_ ic080_ ic081_ ic082_ ic083_ ic084_ ic085_ ic086_ ic087_ ic088_ ic089_ ic090_ ic091_ ic092_ ic093_ ic094_ ic095_ ic096_ ic097_ ic098_ ic099_ ic0100_ ic0101_ ic0102_ ic0103_ ic0104_ ic0105_ ic0106_ ic0107_ ic0108_ ic0109_ ic0110_ ic0111_ ic0112_ ic0113_ ic0114_ ic0115_ ic0116_ ic0117_ ic0118_ ic0119_ ic0120_ ic0121_ ic0122_ ic0123_ ic0124_ ic0125_ ic0126_ ic0127_ ic0128_ ic0129_ ic0130_ ic0131_ ic0132_ ic0133_ ic0134_ ic0135_ ic0136_ ic0137_ ic0138_ ic0139_ ic0140_ ic0141_ ic0142_ ic0143_ ic0144_ ic0145_ ic0146_ ic0147_ ic0148_ ic0149_ ic0150_ ic0151_ ic0152_ ic0153_ ic0154_ ic0155_ ic0156_ kj6 HJ6 t341 t344 A44 hnb46 hnc46 w48 v342 HO343 ic0157_ ic0158_ ic0159_ ic10_ ic11_ u11 u12 u13 ic12_ ic13_ ic14_ ic15_ ic16_ ic17_ ic18_ ic19_ ic110_ ic111_ ic112_ ic113_ ic114_ ic115_ ic116_ ic117_ ic118_ ic119_ ic120_ ic121_ ic122_ ic123_ ic124_ ic125_ ic126_ ic127_ ic128_ ic129_ ic130_ ic131_ ic132_ ic133_ ic134_ ic135_ ic136_ ic137_ ic138_ ic139_ ic140_ ic141_ ic142_ ic143_ ic144_ ic145_ ic146_ ic147_ ic148_ ic149_ ic150_ ic151_ ic152_ ic153_ ic154_ ic155_ ic156_ ic157_ ic158_ ic159_ ic160_ ic161_ ic162_ ic163_ ic164_ ic165_ ic166_ ic167_ ic168_ ic169_ ic170_ ic171_ ic172_ ic173_ ic174_ ic175_ ic176_ ic177_ ic178_ ic179_ ic180_ ic181_ ic182_ ic183_ ic184_ ic185_ ic186_ ic187_ ic188_ ic189_ ic190_ ic191_ ic192_ ic193_ ic194_ ic195_ ic196_ ic197_ ic198_ ic199_ ic1100_ ic1101_ ic1102_ ic1103_ ic1104_ ic1105_ ic1106_ ic1107_ ic1108_ ic1109_ ic1110_ ic1111_ ic1112_ ic1113_ ic1114_ ic1115_ ic1116_ ic1117_ ic1118_ ic1119_ ic1120_ ic1121_ ic1122_ ic1123_ ic1124_ ic1125_ ic1126_ ic1127_ ic1128_ ic1129_ ic1130_ ic1131_ ic1132_ ic1133_ ic1134_ ic1135_ ic1136_ ic1137_ ic1138_ ic1139_ ic1140_ ic1141_ ic1142_ ic1143_ ic1144_ ic1145_ ic1146_ ic1147_ ic1148_ ic1149_ ic1150_ ic1151_ ic1152_ ic1153_ ic1154_ kj44 HJ44 t362 t365 A74 hnb76 hnc76 w78 v363 HO364 ic1155_ ic1156_ ic1157_ ic20_ ic21_ u14 u15 u16 ic22_ ic23_ ic24_ ic25_ ic26_ ic27_ ic28_ ic29_ ic210_ ic211_ ic212_ ic213_ ic214_ ic215_ ic216_ ic217_ ic218_ ic219_ ic220_ ic221_ ic222_ ic223_ ic224_ ic225_ ic226_ ic227_ ic228_ ic229_ ic230_ ic231_ ic232_ ic233_ ic234_ ic235_ ic236_ ic237_ ic238_ ic239_ ic240_ ic241_ ic242_ ic243_ ic244_ ic245_ ic246_ ic247_ ic248_ ic249_ ic250_ ic251_ ic252_ ic253_ ic254_ ic255_ ic256_ ic257_ ic258_ ic259_ ic260_ ic261_ ic262_ ic263_ ic264_ ic265_ ic266_ ic267_ ic268_ ic269_ ic270_ ic271_ ic272_ ic273_ ic274_ ic275_ ic276_ ic277_ ic278_ ic279_ ic280_ ic281_ ic282_ ic283_ ic284_ ic285_ ic286_ ic287_ ic288_ ic289_ ic290_ ic291_ ic292_ ic293_ ic294_ ic295_ ic296_ ic297_ ic298_ ic299_ ic2100_ ic2101_ ic2102_ ic2103_ ic2104_ ic2105_ ic2106_ ic2107_ ic2108_ ic2109_ ic2110_ ic2111_ ic2112_ ic2113_ ic2114_ ic2115_ ic2116_ ic2117_ ic2118_ ic2119_ ic2120_ ic2121_ ic2122_ ic2123_ ic2124_ ic2125_ ic2126_ ic2127_ ic2128_ ic2129_ ic2130_ ic2131_ ic2132_ ic2133_ ic2134_ ic2135_ ic2136_ ic2137_ ic2138_ ic2139_ ic2140_ ic2141_ ic2142_ ic2143_ ic2144_ ic2145_ ic2146_ ic2147_ ic2148_ ic2149_ ic2150_ ic2151_ ic2152_ ic2153_ ic2154_ kj74 HJ74 t380 t381 t382 t383 t384 t387 t388 A110 w112 gb389 w113 ic2155_ ic2156_ ic2157_ ic2158_ GW389 GE389 NB336_389 NB389_336 NB337_389 NB389_337 hnb114 hnc114 hnb115 hnc115 Ao117 co117 HO386 ic2159_ ic2160_ wc u8 u9 u10 u21 u22 u23 u24 u25 u26 u27 u28 u29 u30 u31 u32 u33 u34 u35 u36 u37 u38 u39 u40 u41 u42 u43 u44 u45 u46 u47 u48 u49 u50 u51 u52 u53 u54 u55 u56 u57 u58 u59 u60 u61 u62 u63 u64 u65 u66 u67 u68 u69 u70 u71 u72 u73 u74 u75 u76 u77 u78 u79 u80 u81 u82 u83 u84 u85 u86 u87 u88 u89 u90 u91 u92 u93 u94 u95 u96 u97 u98 u99 u100 u101 u102 u103 u104 u105 u106 u107 u108 u109 u110 u111 u112 u113 u114 u115 u116 u117 u118 u119 u120 u121 u122 u123 u124 u125 u126 u127 u128 u129 u130 u131 u132 u133 u134 u135 u136 u137 u138 u139 u140 u141 u142 u143 u144 u145 u146 u147 u148 u149 u150 u151 u152 u153 u154 u155 u156 u157 u158 u159 u160 u161 u162 u163 u164 u165 u166 u167 u168 u169 u170 u171 u172 u173 kq HA HJ110 HO_390004 BK336 BK337 BK389 HB
   exact hcutP.out
set_option maxHeartbeats 8000000 in
set_option maxRecDepth 100000 in
theorem windlasslaw2_CodecBack.p3 (k : Nat) (a0_0 : Int) (a0_1 : Int) (a0_2 : ByteArray) (a0_3 : Int) (A0_4 : Option Addr) (c0_4 : Nat) (l0_4 : List (S24)) (a1_0 : ByteArray) (A1_1 : Option Addr) (c1_1 : Nat) (l1_1 : List (S24)) (A2 : Option Addr) (c2 : Nat) (l2 : List Int) (A3 : Option Addr) (c3 : Nat) (l3 : List Int) (r : Bool) (w : World) : (windlasslaw2_CodecBack.p2 k a0_0 a0_1 a0_2 a0_3 A0_4 c0_4 l0_4 a1_0 A1_1 c1_1 l1_1 A2 c2 l2 A3 c3 l3 r w).P:=by
 intro hu24 hu26 HR0_4 HC0_4 HR1_1 HC1_1 HR2 HC2 HR3 HC3 A5 ic00_ gb336 w8 GW336 GE336 gb337 w9 GW337 GE337 NB336_337 NB337_336 w10 ic01_ ic02_ ic03_ ic04_ ic05_ ic06_ ic07_ ic08_ ic09_ ic010_ ic011_ ic012_ ic013_ ic014_ ic015_ ic016_ ic017_ ic018_ ic019_ ic020_ ic021_ ic022_ ic023_ ic024_ ic025_ ic026_ ic027_ ic028_ ic029_ ic030_ ic031_ ic032_ ic033_ ic034_ ic035_ ic036_ ic037_ ic038_ ic039_ ic040_ ic041_ ic042_ ic043_ ic044_ ic045_ ic046_ ic047_ ic048_ ic049_ ic050_ ic051_ ic052_ ic053_ ic054_ ic055_ ic056_ ic057_ ic058_ ic059_ ic060_ ic061_ ic062_ ic063_ ic064_ ic065_ ic066_ ic067_ ic068_ ic069_ ic070_ ic071_ ic072_ ic073_ ic074_ ic075_ ic076_ ic077_ ic078_ ic079_ ic080_ ic081_ ic082_ ic083_ ic084_ ic085_ ic086_ ic087_ ic088_ ic089_ ic090_ ic091_ ic092_ ic093_ ic094_ ic095_ ic096_ ic097_ ic098_ ic099_ ic0100_ ic0101_ ic0102_ ic0103_ ic0104_ ic0105_ ic0106_ ic0107_ ic0108_ ic0109_ ic0110_ ic0111_ ic0112_ ic0113_ ic0114_ ic0115_ ic0116_ ic0117_ ic0118_ ic0119_ ic0120_ ic0121_ ic0122_ ic0123_ ic0124_ ic0125_ ic0126_ ic0127_ ic0128_ ic0129_ ic0130_ ic0131_ ic0132_ ic0133_ ic0134_ ic0135_ ic0136_ ic0137_ ic0138_ ic0139_ ic0140_ ic0141_ ic0142_ ic0143_ ic0144_ ic0145_ ic0146_ ic0147_ ic0148_ ic0149_ ic0150_ ic0151_ ic0152_ ic0153_ ic0154_ ic0155_ ic0156_ kj6 HJ6 t341 t344 A44 hnb46 hnc46 w48 v342 HO343 ic0157_ ic0158_ ic0159_ ic10_ ic11_ u11 u12 u13 ic12_ ic13_ ic14_ ic15_ ic16_ ic17_ ic18_ ic19_ ic110_ ic111_ ic112_ ic113_ ic114_ ic115_ ic116_ ic117_ ic118_ ic119_ ic120_ ic121_ ic122_ ic123_ ic124_ ic125_ ic126_ ic127_ ic128_ ic129_ ic130_ ic131_ ic132_ ic133_ ic134_ ic135_ ic136_ ic137_ ic138_ ic139_ ic140_ ic141_ ic142_ ic143_ ic144_ ic145_ ic146_ ic147_ ic148_ ic149_ ic150_ ic151_ ic152_ ic153_ ic154_ ic155_ ic156_ ic157_ ic158_ ic159_ ic160_ ic161_ ic162_ ic163_ ic164_ ic165_ ic166_ ic167_ ic168_ ic169_ ic170_ ic171_ ic172_ ic173_ ic174_ ic175_ ic176_ ic177_ ic178_ ic179_ ic180_ ic181_ ic182_ ic183_ ic184_ ic185_ ic186_ ic187_ ic188_ ic189_ ic190_ ic191_ ic192_ ic193_ ic194_ ic195_ ic196_ ic197_ ic198_ ic199_ ic1100_ ic1101_ ic1102_ ic1103_ ic1104_ ic1105_ ic1106_ ic1107_ ic1108_ ic1109_ ic1110_ ic1111_ ic1112_ ic1113_ ic1114_ ic1115_ ic1116_ ic1117_ ic1118_ ic1119_ ic1120_ ic1121_ ic1122_ ic1123_ ic1124_ ic1125_ ic1126_ ic1127_ ic1128_ ic1129_ ic1130_ ic1131_ ic1132_ ic1133_ ic1134_ ic1135_ ic1136_ ic1137_ ic1138_ ic1139_ ic1140_ ic1141_ ic1142_ ic1143_ ic1144_ ic1145_ ic1146_ ic1147_ ic1148_ ic1149_ ic1150_ ic1151_ ic1152_ ic1153_ ic1154_ kj44 HJ44 t362 t365 A74 hnb76 hnc76 w78 v363 HO364 ic1155_ ic1156_ ic1157_ ic20_ ic21_ u14 u15 u16 ic22_ ic23_ ic24_ ic25_ ic26_ ic27_ ic28_ ic29_ ic210_ ic211_ ic212_ ic213_ ic214_ ic215_ ic216_ ic217_ ic218_ ic219_ ic220_ ic221_ ic222_ ic223_ ic224_ ic225_ ic226_ ic227_ ic228_ ic229_ ic230_ ic231_ ic232_ ic233_ ic234_ ic235_ ic236_ ic237_ ic238_ ic239_ ic240_ ic241_ ic242_ ic243_ ic244_ ic245_ ic246_ ic247_ ic248_ ic249_ ic250_ ic251_ ic252_ ic253_ ic254_ ic255_ ic256_ ic257_ ic258_ ic259_ ic260_ ic261_ ic262_ ic263_ ic264_ ic265_ ic266_ ic267_ ic268_ ic269_ ic270_ ic271_ ic272_ ic273_ ic274_ ic275_ ic276_ ic277_ ic278_ ic279_ ic280_ ic281_ ic282_ ic283_ ic284_ ic285_ ic286_ ic287_ ic288_ ic289_ ic290_ ic291_ ic292_ ic293_ ic294_ ic295_ ic296_ ic297_ ic298_ ic299_ ic2100_ ic2101_ ic2102_ ic2103_ ic2104_ ic2105_ ic2106_ ic2107_ ic2108_ ic2109_ ic2110_ ic2111_ ic2112_ ic2113_ ic2114_ ic2115_ ic2116_ ic2117_ ic2118_ ic2119_ ic2120_ ic2121_ ic2122_ ic2123_ ic2124_ ic2125_ ic2126_ ic2127_ ic2128_ ic2129_ ic2130_ ic2131_ ic2132_ ic2133_ ic2134_ ic2135_ ic2136_ ic2137_ ic2138_ ic2139_ ic2140_ ic2141_ ic2142_ ic2143_ ic2144_ ic2145_ ic2146_ ic2147_ ic2148_ ic2149_ ic2150_ ic2151_ ic2152_ ic2153_ ic2154_ kj74 HJ74 t380 t381 t382 t383 t384 t387 t388 A110 w112 gb389 w113 ic2155_ ic2156_ ic2157_ ic2158_ GW389 GE389 NB336_389 NB389_336 NB337_389 NB389_337 hnb114 hnc114 hnb115 hnc115 Ao117 co117 HO386 ic2159_ ic2160_ wc u8 u9 u10 u21 u22 u23 u24 u25 u26 u27 u28 u29 u30 u31 u32 u33 u34 u35 u36 u37 u38 u39 u40 u41 u42 u43 u44 u45 u46 u47 u48 u49 u50 u51 u52 u53 u54 u55 u56 u57 u58 u59 u60 u61 u62 u63 u64 u65 u66 u67 u68 u69 u70 u71 u72 u73 u74 u75 u76 u77 u78 u79 u80 u81 u82 u83 u84 u85 u86 u87 u88 u89 u90 u91 u92 u93 u94 u95 u96 u97 u98 u99 u100 u101 u102 u103 u104 u105 u106 u107 u108 u109 u110 u111 u112 u113 u114 u115 u116 u117 u118 u119 u120 u121 u122 u123 u124 u125 u126 u127 u128 u129 u130 u131 u132 u133 u134 u135 u136 u137 u138 u139 u140 u141 u142 u143 u144 u145 u146 u147 u148 u149 u150 u151 u152 u153 u154 u155 u156 u157 u158 u159 u160 u161 u162 u163 u164 u165 u166 u167 u168 u169 u170 u171 u172 u173 kq HA HJ110 HO_390004 BK336 BK337 BK389 HB
 cases kq with
 | zero => exact absurd HA.out (by simp [windlasslaw2_CodecBack.j6])
 | succ kj110 =>
  have H:=HA.out
  clear HA
  simp only [windlasslaw2_CodecBack.j6] at H
  replace H:=Option.bind_eq_some_iff.mp H
  obtain ⟨⟨t396,t397,t400,t401⟩,A1340,H⟩:=H
  replace H : (if t401 = 0 then ((codec_PutEvent.f kj110 t396 t397).bind fun bt403 => (if bt403.2 = 0 then (if t400 = (bt403.1.length : Int) then (if 0 ≤ t400 then (if t400 ≤ (l3.length : Int) then ((windlasshelp_Bytes.f bt403.1 (l3.take (t400 : Int).toNat)).bind fun t408 => (some t408)) else (none)) else (none)) else (some false)) else (some false))) else (some true)) = some r:=H
  have A134:=Aside0.mk A1340
  clear A1340
  by_cases c135 : t401 = 0
  ·rw [if_pos c135] at H
   have c135b0 : (t401 == 0) = true:=beq_iff_eq.mpr c135
   have c135b1 : (t401 != 0) = false:=bne_eq_false_iff_eq.mpr c135
   clear c135
   replace H:=Option.bind_eq_some_iff.mp H
   obtain ⟨⟨t403,t406⟩,A1360,H⟩:=H
   replace H : (if t406 = 0 then (if t400 = (t403.length : Int) then (if 0 ≤ t400 then (if t400 ≤ (l3.length : Int) then ((windlasshelp_Bytes.f t403 (l3.take (t400 : Int).toNat)).bind fun t408 => (some t408)) else (none)) else (none)) else (some false)) else (some false)) = some r:=H
   have A136:=Aside0.mk A1360
   clear A1360
   by_cases c137 : t406 = 0
   ·rw [if_pos c137] at H
    have c137b0 : (t406 == 0) = true:=beq_iff_eq.mpr c137
    have c137b1 : (t406 != 0) = false:=bne_eq_false_iff_eq.mpr c137
    clear c137
    by_cases c138 : t400 = (t403.length : Int)
    ·rw [if_pos c138] at H
     have c138b0 : (t400 == (t403.length : Int)) = true:=beq_iff_eq.mpr c138
     have c138b1 : (t400 != (t403.length : Int)) = false:=bne_eq_false_iff_eq.mpr c138
     clear c138
     by_cases c139 : 0 ≤ t400
     ·rw [if_pos c139] at H
      have c139b0:=eq_true c139
      have c139b1 : decide (0 ≤ t400) = true:=decide_eq_true c139
      clear c139
      by_cases c140 : t400 ≤ (l3.length : Int)
      ·rw [if_pos c140] at H
       have c140b0:=eq_true c140
       have c140b1 : decide (t400 ≤ (l3.length : Int)) = true:=decide_eq_true c140
       clear c140
       replace H:=Option.bind_eq_some_iff.mp H
       obtain ⟨t408,A1410,H⟩:=H
       replace H : (some t408) = some r:=H
       have A141:=Aside0.mk A1410
       clear A1410
       obtain rfl:=Option.some.inj H
       go_wp2_with (first|((with_reducible refine gate_callee (f:=32) rfl ?_);refine goesL_ (some 148) rfl rfl Try.func32 (by kernel_rfl) rfl #[.slice A3 l3.length c3] rfl (by (try simp only [List.map_toArray,List.map_cons,List.map_nil]);first|done|rfl|(simp only [List.length_drop,List.length_take];rfl)|(go_simp;done)|(go_simp;simp;done)) ?_;(with_reducible refine (codec_Event.calls kj110 _ _ l3 t396 t397 t400 t401 _ ?side1 ?side2 A134.out).mono ?_);(case side1 => repeat (first|exact (Kd.C_below HR3.out HB.out)|(with_reducible refine Kd.C_alloc ?_ _)|(with_reducible refine Kd.C_drewN ?_ _)|(with_reducible refine Kd.C_drew ?_)));(case side2 => exact HC3.out);rintro e w142 ⟨v398,rfl,ho0,hb⟩;refine ⟨_,rfl,?_⟩;have n0_:=Aside0.mk (Kd.R_elder' (by (with_reducible repeat (first|apply Kd.R_alloc|apply Kd.R_drewN|apply Kd.R_drew));exact HO_390004.out) (Kd.R_base ho0) hb);have n1_:=Aside0.mk (Kd.R_lower (Kd.R_newB (Kd.R_newB (Kd.R_new' ho0 (Kd.R_lt (by (with_reducible repeat (first|apply Kd.R_alloc|apply Kd.R_drewN|apply Kd.R_drew));exact HO_390004.out))) (g:=gb336) (o := .cells #[.int .i64 a0_0, .int .i64 a0_1, .string a0_2, .int .i64 a0_3, .slice A0_4 l0_4.length c0_4] 24 (0,0)) (by (with_reducible repeat (first|refine blk_drewN ?_ _|refine blk_drew ?_|refine blk_alloc ?_ _));exact BK336.out)) (g:=gb389) (o := .cells #[.int .i64 t380, .int .i64 t381, .string t382, .int .i64 t383, .slice Ao117 t384.length co117] 24 (0,0)) (by (with_reducible repeat (first|refine blk_drewN ?_ _|refine blk_drew ?_|refine blk_alloc ?_ _));exact BK389.out)) (below_size (by repeat (first|(with_reducible first|exact HB.out|apply below_alloc|apply pw_below_drewN|apply below_drew1|refine below_set ?_ GE336.out|refine below_set ?_ GE337.out|refine below_set ?_ GE389.out)|exact HB.out))));have n2_:=Aside0.mk (blk_below (g:=gb336) (o := .cells #[.int .i64 a0_0, .int .i64 a0_1, .string a0_2, .int .i64 a0_3, .slice A0_4 l0_4.length c0_4] 24 (0,0)) (by (with_reducible repeat (first|refine blk_drewN ?_ _|refine blk_drew ?_|refine blk_alloc ?_ _));exact BK336.out) hb);have n3_:=Aside0.mk (blk_below (g:=gb337) (o := .cells #[.string a1_0, .slice A1_1 l1_1.length c1_1] 26 (0,0)) (by (with_reducible repeat (first|refine blk_drewN ?_ _|refine blk_drew ?_|refine blk_alloc ?_ _));exact BK337.out) hb);have n4_:=Aside0.mk (blk_below (g:=gb389) (o := .cells #[.int .i64 t380, .int .i64 t381, .string t382, .int .i64 t383, .slice Ao117 t384.length co117] 24 (0,0)) (by (with_reducible repeat (first|refine blk_drewN ?_ _|refine blk_drew ?_|refine blk_alloc ?_ _));exact BK389.out) hb);have n5_:=Aside0.mk (below_step (by repeat (first|(with_reducible first|exact HB.out|apply below_alloc|apply pw_below_drewN|apply below_drew1|refine below_set ?_ GE336.out|refine below_set ?_ GE337.out|refine below_set ?_ GE389.out)|exact HB.out)) hb);clear HO_390004;clear BK336;clear BK337;clear BK389;clear HB;have HO_390004:=n0_;have HO399:=n1_;have BK336:=n2_;have BK337:=n3_;have BK389:=n4_;have HB:=n5_;clear n0_ n1_ n2_ n3_ n4_ n5_;(try clear hb);(try clear hb2);(try clear hk);(try clear hi);(try clear ho0))|((with_reducible refine gate_dst (N:=20) rfl ?_);(try (refine gate_guard (by rfl) ?_;dsimp only));refine box_event ?hg (N:=20) ?hd (cs:=#[.string (⟨#[]⟩ : ByteArray), .slice none 0 0]) (t:=26) ?hr ?_;(case hd => rfl);(case hg => rfl);(case hr => first|(go_simp;done)|(go_simp;rfl));intro gb402 hg w143 hbox hb;have n0_:=Aside0.mk (Kd.R_below (by (with_reducible repeat (first|apply Kd.R_alloc|apply Kd.R_drewN|apply Kd.R_drew));exact HO_390004.out) hb);have n1_:=Aside0.mk (Kd.R_below (by (with_reducible repeat (first|apply Kd.R_alloc|apply Kd.R_drewN|apply Kd.R_drew));exact HO399.out) hb);have n2_:=Aside0.mk (blk_below (g:=gb336) (o := .cells #[.int .i64 a0_0, .int .i64 a0_1, .string a0_2, .int .i64 a0_3, .slice A0_4 l0_4.length c0_4] 24 (0,0)) (by (with_reducible repeat (first|refine blk_drewN ?_ _|refine blk_drew ?_|refine blk_alloc ?_ _));exact BK336.out) hb);have n3_:=Aside0.mk (blk_below (g:=gb337) (o := .cells #[.string a1_0, .slice A1_1 l1_1.length c1_1] 26 (0,0)) (by (with_reducible repeat (first|refine blk_drewN ?_ _|refine blk_drew ?_|refine blk_alloc ?_ _));exact BK337.out) hb);have n4_:=Aside0.mk (blk_below (g:=gb389) (o := .cells #[.int .i64 t380, .int .i64 t381, .string t382, .int .i64 t383, .slice Ao117 t384.length co117] 24 (0,0)) (by (with_reducible repeat (first|refine blk_drewN ?_ _|refine blk_drew ?_|refine blk_alloc ?_ _));exact BK389.out) hb);have n5_:=Aside0.mk (below_step (by repeat (first|(with_reducible first|exact HB.out|apply below_alloc|apply pw_below_drewN|apply below_drew1|refine below_set ?_ GE336.out|refine below_set ?_ GE337.out|refine below_set ?_ GE389.out)|exact HB.out)) hb);have n6_:=Aside0.mk (hbox);have n7_:=Aside0.mk ((by rw [hg];exact (below_size (by repeat (first|(with_reducible first|exact HB.out|apply below_alloc|apply pw_below_drewN|apply below_drew1|refine below_set ?_ GE336.out|refine below_set ?_ GE337.out|refine below_set ?_ GE389.out)|exact HB.out))) : w.heap.size ≤ gb402));have n8_:=Aside0.mk ((by rw [hg];exact (below_size (by repeat (first|(with_reducible first|exact HB.out|apply below_alloc|apply pw_below_drewN|apply below_drew1|refine below_set ?_ GE336.out|refine below_set ?_ GE337.out|refine below_set ?_ GE389.out)|exact HB.out))) : w.heap.size ≤ gb402));have n9_:=Aside0.mk ((by rw [hg];exact Nat.ne_of_lt (blk_lt (g:=gb336) (o := .cells #[.int .i64 a0_0, .int .i64 a0_1, .string a0_2, .int .i64 a0_3, .slice A0_4 l0_4.length c0_4] 24 (0,0)) (by (with_reducible repeat (first|refine blk_drewN ?_ _|refine blk_drew ?_|refine blk_alloc ?_ _));exact BK336.out)) : gb336 ≠ gb402));have n10_:=Aside0.mk ((by rw [hg];exact Nat.ne_of_gt (blk_lt (g:=gb336) (o := .cells #[.int .i64 a0_0, .int .i64 a0_1, .string a0_2, .int .i64 a0_3, .slice A0_4 l0_4.length c0_4] 24 (0,0)) (by (with_reducible repeat (first|refine blk_drewN ?_ _|refine blk_drew ?_|refine blk_alloc ?_ _));exact BK336.out)) : gb402 ≠ gb336));have n11_:=Aside0.mk ((by rw [hg];exact Nat.ne_of_lt (blk_lt (g:=gb337) (o := .cells #[.string a1_0, .slice A1_1 l1_1.length c1_1] 26 (0,0)) (by (with_reducible repeat (first|refine blk_drewN ?_ _|refine blk_drew ?_|refine blk_alloc ?_ _));exact BK337.out)) : gb337 ≠ gb402));have n12_:=Aside0.mk ((by rw [hg];exact Nat.ne_of_gt (blk_lt (g:=gb337) (o := .cells #[.string a1_0, .slice A1_1 l1_1.length c1_1] 26 (0,0)) (by (with_reducible repeat (first|refine blk_drewN ?_ _|refine blk_drew ?_|refine blk_alloc ?_ _));exact BK337.out)) : gb402 ≠ gb337));have n13_:=Aside0.mk ((by rw [hg];exact Nat.ne_of_lt (blk_lt (g:=gb389) (o := .cells #[.int .i64 t380, .int .i64 t381, .string t382, .int .i64 t383, .slice Ao117 t384.length co117] 24 (0,0)) (by (with_reducible repeat (first|refine blk_drewN ?_ _|refine blk_drew ?_|refine blk_alloc ?_ _));exact BK389.out)) : gb389 ≠ gb402));have n14_:=Aside0.mk ((by rw [hg];exact Nat.ne_of_gt (blk_lt (g:=gb389) (o := .cells #[.int .i64 t380, .int .i64 t381, .string t382, .int .i64 t383, .slice Ao117 t384.length co117] 24 (0,0)) (by (with_reducible repeat (first|refine blk_drewN ?_ _|refine blk_drew ?_|refine blk_alloc ?_ _));exact BK389.out)) : gb402 ≠ gb389));clear HO_390004;clear HO399;clear BK336;clear BK337;clear BK389;clear HB;have HO_390004:=n0_;have HO399:=n1_;have BK336:=n2_;have BK337:=n3_;have BK389:=n4_;have HB:=n5_;have BK402:=n6_;have GW402:=n7_;have GE402:=n8_;have NB336_402:=n9_;have NB402_336:=n10_;have NB337_402:=n11_;have NB402_337:=n12_;have NB389_402:=n13_;have NB402_389:=n14_;clear n0_ n1_ n2_ n3_ n4_ n5_ n6_ n7_ n8_ n9_ n10_ n11_ n12_ n13_ n14_;clear hb hbox hg;have hnb144:=NB402_336.out;have hnc144:=NB336_402.out;have hnb145:=NB402_337.out;have hnc145:=NB337_402.out;have hnb146:=NB402_389.out;have hnc146:=NB389_402.out;have hcz147_0 : w143.cell? ⟨gb402,0,none⟩ = some (.string (⟨#[]⟩ : ByteArray)):=(blk_cell BK402.out 0).trans rfl;have hcz147_1 : w143.cell? ⟨gb402,1,none⟩ = some (.slice none 0 0):=(blk_cell BK402.out 1).trans rfl;have hfz147_0:=blk_frozen BK402.out 0;have hfz147_1:=blk_frozen BK402.out 1;obtain ⟨Ao148,co148,eo148⟩:=Kd.R_slice HO399.out;subst eo148)|((with_reducible refine gate_callee (f:=14) rfl ?_);refine goesL_ (some 156) rfl rfl Try.func14 (by kernel_rfl) rfl #[.agg #[.string t396, .slice Ao148 t397.length co148]] rfl (by (try simp only [List.map_toArray,List.map_cons,List.map_nil]);first|done|rfl|(simp only [List.length_drop,List.length_take];rfl)|(go_simp;done)|(go_simp;simp;done)) ?_;(with_reducible refine (codec_PutEvent.calls kj110 t396 _ _ t397 t403 t406 _ ?side1 ?side2 A136.out).mono ?_);(case side1 => refine (Kd.R_reads' (e:=24) (base:=w.heap.size) (ok:=fun k_ => (((True ∧ some k_ ≠ (.slice Ao117 t384.length co117 : Value).ownBlock) ∧ k_ ≠ gb336) ∧ k_ ≠ gb389)) (n:=t397.length) (c:=co148) ?_).2.2;exact (by (with_reducible repeat (first|apply Kd.R_alloc|apply Kd.R_drewN|apply Kd.R_drew));exact (Kd.R_mono (Kd.R_far (p:=⟨gb402,1,none⟩) (Kd.R_far (p:=⟨gb402,0,none⟩) (Kd.R_types HO399.out BK402.out (by decide)) (fun _ hk => hk.2) (.string t396)) (fun _ hk => hk.2) (.slice Ao148 t397.length co148)) (fun _ h_ => h_.1))));(case side2 => exact (Kd.R_reads' HO399.out).2.1);rintro e w149 ⟨v404,rfl,ho0,hb⟩;refine ⟨_,rfl,?_⟩;have n0_:=Aside0.mk (Kd.R_below (by (with_reducible repeat (first|apply Kd.R_alloc|apply Kd.R_drewN|apply Kd.R_drew));exact (Kd.R_mono (Kd.R_far (p:=⟨gb402,1,none⟩) (Kd.R_far (p:=⟨gb402,0,none⟩) (Kd.R_types HO_390004.out BK402.out (by decide)) (fun _ hk => hk.2) (.string t396)) (fun _ hk => hk.2) (.slice Ao148 t397.length co148)) (fun _ h_ => h_.1))) hb);have n1_:=Aside0.mk (Kd.R_below (by (with_reducible repeat (first|apply Kd.R_alloc|apply Kd.R_drewN|apply Kd.R_drew));exact (Kd.R_mono (Kd.R_far (p:=⟨gb402,1,none⟩) (Kd.R_far (p:=⟨gb402,0,none⟩) (Kd.R_types HO399.out BK402.out (by decide)) (fun _ hk => hk.2) (.string t396)) (fun _ hk => hk.2) (.slice Ao148 t397.length co148)) (fun _ h_ => h_.1))) hb);have n2_:=Aside0.mk (Kd.R_lower ho0 (below_size (by repeat (first|(with_reducible first|exact HB.out|apply below_alloc|apply pw_below_drewN|apply below_drew1|refine below_set ?_ GE336.out|refine below_set ?_ GE337.out|refine below_set ?_ GE389.out|refine below_set ?_ GE402.out)|exact HB.out))));have n3_:=Aside0.mk (blk_below (g:=gb336) (o := .cells #[.int .i64 a0_0, .int .i64 a0_1, .string a0_2, .int .i64 a0_3, .slice A0_4 l0_4.length c0_4] 24 (0,0)) (by (with_reducible repeat (first|refine blk_drewN ?_ _|refine blk_drew ?_|refine blk_alloc ?_ _));refine blk_far ?_ NB336_402.out _;(with_reducible repeat (first|refine blk_drewN ?_ _|refine blk_drew ?_|refine blk_alloc ?_ _));refine blk_far ?_ NB336_402.out _;(with_reducible repeat (first|refine blk_drewN ?_ _|refine blk_drew ?_|refine blk_alloc ?_ _));exact BK336.out) hb);have n4_:=Aside0.mk (blk_below (g:=gb337) (o := .cells #[.string a1_0, .slice A1_1 l1_1.length c1_1] 26 (0,0)) (by (with_reducible repeat (first|refine blk_drewN ?_ _|refine blk_drew ?_|refine blk_alloc ?_ _));refine blk_far ?_ NB337_402.out _;(with_reducible repeat (first|refine blk_drewN ?_ _|refine blk_drew ?_|refine blk_alloc ?_ _));refine blk_far ?_ NB337_402.out _;(with_reducible repeat (first|refine blk_drewN ?_ _|refine blk_drew ?_|refine blk_alloc ?_ _));exact BK337.out) hb);have n5_:=Aside0.mk (blk_below (g:=gb389) (o := .cells #[.int .i64 t380, .int .i64 t381, .string t382, .int .i64 t383, .slice Ao117 t384.length co117] 24 (0,0)) (by (with_reducible repeat (first|refine blk_drewN ?_ _|refine blk_drew ?_|refine blk_alloc ?_ _));refine blk_far ?_ NB389_402.out _;(with_reducible repeat (first|refine blk_drewN ?_ _|refine blk_drew ?_|refine blk_alloc ?_ _));refine blk_far ?_ NB389_402.out _;(with_reducible repeat (first|refine blk_drewN ?_ _|refine blk_drew ?_|refine blk_alloc ?_ _));exact BK389.out) hb);have n6_:=Aside0.mk (blk_below (g:=gb402) (o := .cells #[.string t396, .slice Ao148 t397.length co148] 26 (0,0)) (by (with_reducible repeat (first|refine blk_drewN ?_ _|refine blk_drew ?_|refine blk_alloc ?_ _));refine blk_put (cs:=#[.string t396, .slice none 0 0]) ?_ 1 _ rfl;(with_reducible repeat (first|refine blk_drewN ?_ _|refine blk_drew ?_|refine blk_alloc ?_ _));refine blk_put (cs:=#[.string (⟨#[]⟩ : ByteArray), .slice none 0 0]) ?_ 0 _ rfl;(with_reducible repeat (first|refine blk_drewN ?_ _|refine blk_drew ?_|refine blk_alloc ?_ _));exact BK402.out) hb);have n7_:=Aside0.mk (below_step (by repeat (first|(with_reducible first|exact HB.out|apply below_alloc|apply pw_below_drewN|apply below_drew1|refine below_set ?_ GE336.out|refine below_set ?_ GE337.out|refine below_set ?_ GE389.out|refine below_set ?_ GE402.out)|exact HB.out)) hb);clear HO_390004;clear HO399;clear BK336;clear BK337;clear BK389;clear BK402;clear HB;have HO_390004:=n0_;have HO399:=n1_;have HO405:=n2_;have BK336:=n3_;have BK337:=n4_;have BK389:=n5_;have BK402:=n6_;have HB:=n7_;clear n0_ n1_ n2_ n3_ n4_ n5_ n6_ n7_;(try clear hb);(try clear hb2);(try clear hk);(try clear hi);(try clear ho0);obtain ⟨Ao150,co150,eo150⟩:=Kd.R_slice HO405.out;subst eo150;obtain ⟨i0151,hi0151,_,hsz151,_⟩:=info_parts info5;obtain ⟨hcut151,hA151,hC151⟩:=print_take_of (P:=Try.prog) (Value.int .u8) 0 30 5 .i64 Try.underlying30 hi0151 hsz151 A3 c3 l3 t400 (of_decide_eq_true (by first|(with_reducible assumption)|assumption)) (of_decide_eq_true (by first|(with_reducible assumption)|assumption)) HC3.out;have HR407:=Aside0.mk (Kd.C_of_reads (h1:=fun _ => rfl) (hA151 _ (Kd.reads_of_C HR3.out)));have HC407:=Aside0.mk hC151;clear hA151 hC151 hi0151 hsz151)|(go_at_call 16;(try rw [← show (l3.take (t400 : Int).toNat).length = t400.toNat from (by rw [List.length_take];have h_ : (t400 : Int) ≤ (l3.length : Int):=of_decide_eq_true (by first|(with_reducible assumption)|assumption);omega)]);(with_reducible refine (windlasshelp_Bytes.calls _ _ t403 _ _ (l3.take (t400 : Int).toNat) t408 _ ?side1 ?side2 ?side3 ?side4 A141.out).mono ?_);(case side1 => repeat (first|exact (Kd.R_reads' HO405.out).2.2|(with_reducible refine Kd.C_alloc ?_ _)|(with_reducible refine Kd.C_drewN ?_ _)|(with_reducible refine Kd.C_drew ?_)));(case side2 => exact (Kd.R_reads' HO405.out).2.1);(case side3 => repeat (first|exact (Kd.C_below HR407.out HB.out)|(with_reducible refine Kd.C_alloc ?_ _)|(with_reducible refine Kd.C_drewN ?_ _)|(with_reducible refine Kd.C_drew ?_)));(case side4 => exact HC407.out);rintro e w' ⟨rfl,⟨nd,rfl⟩⟩))
       go_ret
       exact ⟨by first|rfl|(simp [errW_none,errW_some] <;> rfl)|(simp [*,errW_none,errW_some] <;> rfl),by repeat (first|(with_reducible first|exact HB.out|apply below_alloc|apply pw_below_drewN|apply below_drew1|refine below_set ?_ GE336.out|refine below_set ?_ GE337.out|refine below_set ?_ GE389.out|refine below_set ?_ GE402.out)|exact HB.out)⟩
      ·rw [if_neg c140] at H
       exact absurd H (by simp)
     ·rw [if_neg c139] at H
      exact absurd H (by simp)
    ·rw [if_neg c138] at H
     have c138b0 : (t400 == (t403.length : Int)) = false:=beq_eq_false_iff_ne.mpr c138
     have c138b1 : (t400 != (t403.length : Int)) = true:=bne_iff_ne.mpr c138
     obtain rfl:=Option.some.inj H
     go_wp2_with (first|((with_reducible refine gate_callee (f:=32) rfl ?_);refine goesL_ (some 148) rfl rfl Try.func32 (by kernel_rfl) rfl #[.slice A3 l3.length c3] rfl (by (try simp only [List.map_toArray,List.map_cons,List.map_nil]);first|done|rfl|(simp only [List.length_drop,List.length_take];rfl)|(go_simp;done)|(go_simp;simp;done)) ?_;(with_reducible refine (codec_Event.calls kj110 _ _ l3 t396 t397 t400 t401 _ ?side1 ?side2 A134.out).mono ?_);(case side1 => repeat (first|exact (Kd.C_below HR3.out HB.out)|(with_reducible refine Kd.C_alloc ?_ _)|(with_reducible refine Kd.C_drewN ?_ _)|(with_reducible refine Kd.C_drew ?_)));(case side2 => exact HC3.out);rintro e w152 ⟨v398,rfl,ho0,hb⟩;refine ⟨_,rfl,?_⟩;have n0_:=Aside0.mk (Kd.R_elder' (by (with_reducible repeat (first|apply Kd.R_alloc|apply Kd.R_drewN|apply Kd.R_drew));exact HO_390004.out) (Kd.R_base ho0) hb);have n1_:=Aside0.mk (Kd.R_lower (Kd.R_newB (Kd.R_newB (Kd.R_new' ho0 (Kd.R_lt (by (with_reducible repeat (first|apply Kd.R_alloc|apply Kd.R_drewN|apply Kd.R_drew));exact HO_390004.out))) (g:=gb336) (o := .cells #[.int .i64 a0_0, .int .i64 a0_1, .string a0_2, .int .i64 a0_3, .slice A0_4 l0_4.length c0_4] 24 (0,0)) (by (with_reducible repeat (first|refine blk_drewN ?_ _|refine blk_drew ?_|refine blk_alloc ?_ _));exact BK336.out)) (g:=gb389) (o := .cells #[.int .i64 t380, .int .i64 t381, .string t382, .int .i64 t383, .slice Ao117 t384.length co117] 24 (0,0)) (by (with_reducible repeat (first|refine blk_drewN ?_ _|refine blk_drew ?_|refine blk_alloc ?_ _));exact BK389.out)) (below_size (by repeat (first|(with_reducible first|exact HB.out|apply below_alloc|apply pw_below_drewN|apply below_drew1|refine below_set ?_ GE336.out|refine below_set ?_ GE337.out|refine below_set ?_ GE389.out)|exact HB.out))));have n2_:=Aside0.mk (blk_below (g:=gb336) (o := .cells #[.int .i64 a0_0, .int .i64 a0_1, .string a0_2, .int .i64 a0_3, .slice A0_4 l0_4.length c0_4] 24 (0,0)) (by (with_reducible repeat (first|refine blk_drewN ?_ _|refine blk_drew ?_|refine blk_alloc ?_ _));exact BK336.out) hb);have n3_:=Aside0.mk (blk_below (g:=gb337) (o := .cells #[.string a1_0, .slice A1_1 l1_1.length c1_1] 26 (0,0)) (by (with_reducible repeat (first|refine blk_drewN ?_ _|refine blk_drew ?_|refine blk_alloc ?_ _));exact BK337.out) hb);have n4_:=Aside0.mk (blk_below (g:=gb389) (o := .cells #[.int .i64 t380, .int .i64 t381, .string t382, .int .i64 t383, .slice Ao117 t384.length co117] 24 (0,0)) (by (with_reducible repeat (first|refine blk_drewN ?_ _|refine blk_drew ?_|refine blk_alloc ?_ _));exact BK389.out) hb);have n5_:=Aside0.mk (below_step (by repeat (first|(with_reducible first|exact HB.out|apply below_alloc|apply pw_below_drewN|apply below_drew1|refine below_set ?_ GE336.out|refine below_set ?_ GE337.out|refine below_set ?_ GE389.out)|exact HB.out)) hb);clear HO_390004;clear BK336;clear BK337;clear BK389;clear HB;have HO_390004:=n0_;have HO399:=n1_;have BK336:=n2_;have BK337:=n3_;have BK389:=n4_;have HB:=n5_;clear n0_ n1_ n2_ n3_ n4_ n5_;(try clear hb);(try clear hb2);(try clear hk);(try clear hi);(try clear ho0))|((with_reducible refine gate_dst (N:=20) rfl ?_);(try (refine gate_guard (by rfl) ?_;dsimp only));refine box_event ?hg (N:=20) ?hd (cs:=#[.string (⟨#[]⟩ : ByteArray), .slice none 0 0]) (t:=26) ?hr ?_;(case hd => rfl);(case hg => rfl);(case hr => first|(go_simp;done)|(go_simp;rfl));intro gb402 hg w153 hbox hb;have n0_:=Aside0.mk (Kd.R_below (by (with_reducible repeat (first|apply Kd.R_alloc|apply Kd.R_drewN|apply Kd.R_drew));exact HO_390004.out) hb);have n1_:=Aside0.mk (Kd.R_below (by (with_reducible repeat (first|apply Kd.R_alloc|apply Kd.R_drewN|apply Kd.R_drew));exact HO399.out) hb);have n2_:=Aside0.mk (blk_below (g:=gb336) (o := .cells #[.int .i64 a0_0, .int .i64 a0_1, .string a0_2, .int .i64 a0_3, .slice A0_4 l0_4.length c0_4] 24 (0,0)) (by (with_reducible repeat (first|refine blk_drewN ?_ _|refine blk_drew ?_|refine blk_alloc ?_ _));exact BK336.out) hb);have n3_:=Aside0.mk (blk_below (g:=gb337) (o := .cells #[.string a1_0, .slice A1_1 l1_1.length c1_1] 26 (0,0)) (by (with_reducible repeat (first|refine blk_drewN ?_ _|refine blk_drew ?_|refine blk_alloc ?_ _));exact BK337.out) hb);have n4_:=Aside0.mk (blk_below (g:=gb389) (o := .cells #[.int .i64 t380, .int .i64 t381, .string t382, .int .i64 t383, .slice Ao117 t384.length co117] 24 (0,0)) (by (with_reducible repeat (first|refine blk_drewN ?_ _|refine blk_drew ?_|refine blk_alloc ?_ _));exact BK389.out) hb);have n5_:=Aside0.mk (below_step (by repeat (first|(with_reducible first|exact HB.out|apply below_alloc|apply pw_below_drewN|apply below_drew1|refine below_set ?_ GE336.out|refine below_set ?_ GE337.out|refine below_set ?_ GE389.out)|exact HB.out)) hb);have n6_:=Aside0.mk (hbox);have n7_:=Aside0.mk ((by rw [hg];exact (below_size (by repeat (first|(with_reducible first|exact HB.out|apply below_alloc|apply pw_below_drewN|apply below_drew1|refine below_set ?_ GE336.out|refine below_set ?_ GE337.out|refine below_set ?_ GE389.out)|exact HB.out))) : w.heap.size ≤ gb402));have n8_:=Aside0.mk ((by rw [hg];exact (below_size (by repeat (first|(with_reducible first|exact HB.out|apply below_alloc|apply pw_below_drewN|apply below_drew1|refine below_set ?_ GE336.out|refine below_set ?_ GE337.out|refine below_set ?_ GE389.out)|exact HB.out))) : w.heap.size ≤ gb402));have n9_:=Aside0.mk ((by rw [hg];exact Nat.ne_of_lt (blk_lt (g:=gb336) (o := .cells #[.int .i64 a0_0, .int .i64 a0_1, .string a0_2, .int .i64 a0_3, .slice A0_4 l0_4.length c0_4] 24 (0,0)) (by (with_reducible repeat (first|refine blk_drewN ?_ _|refine blk_drew ?_|refine blk_alloc ?_ _));exact BK336.out)) : gb336 ≠ gb402));have n10_:=Aside0.mk ((by rw [hg];exact Nat.ne_of_gt (blk_lt (g:=gb336) (o := .cells #[.int .i64 a0_0, .int .i64 a0_1, .string a0_2, .int .i64 a0_3, .slice A0_4 l0_4.length c0_4] 24 (0,0)) (by (with_reducible repeat (first|refine blk_drewN ?_ _|refine blk_drew ?_|refine blk_alloc ?_ _));exact BK336.out)) : gb402 ≠ gb336));have n11_:=Aside0.mk ((by rw [hg];exact Nat.ne_of_lt (blk_lt (g:=gb337) (o := .cells #[.string a1_0, .slice A1_1 l1_1.length c1_1] 26 (0,0)) (by (with_reducible repeat (first|refine blk_drewN ?_ _|refine blk_drew ?_|refine blk_alloc ?_ _));exact BK337.out)) : gb337 ≠ gb402));have n12_:=Aside0.mk ((by rw [hg];exact Nat.ne_of_gt (blk_lt (g:=gb337) (o := .cells #[.string a1_0, .slice A1_1 l1_1.length c1_1] 26 (0,0)) (by (with_reducible repeat (first|refine blk_drewN ?_ _|refine blk_drew ?_|refine blk_alloc ?_ _));exact BK337.out)) : gb402 ≠ gb337));have n13_:=Aside0.mk ((by rw [hg];exact Nat.ne_of_lt (blk_lt (g:=gb389) (o := .cells #[.int .i64 t380, .int .i64 t381, .string t382, .int .i64 t383, .slice Ao117 t384.length co117] 24 (0,0)) (by (with_reducible repeat (first|refine blk_drewN ?_ _|refine blk_drew ?_|refine blk_alloc ?_ _));exact BK389.out)) : gb389 ≠ gb402));have n14_:=Aside0.mk ((by rw [hg];exact Nat.ne_of_gt (blk_lt (g:=gb389) (o := .cells #[.int .i64 t380, .int .i64 t381, .string t382, .int .i64 t383, .slice Ao117 t384.length co117] 24 (0,0)) (by (with_reducible repeat (first|refine blk_drewN ?_ _|refine blk_drew ?_|refine blk_alloc ?_ _));exact BK389.out)) : gb402 ≠ gb389));clear HO_390004;clear HO399;clear BK336;clear BK337;clear BK389;clear HB;have HO_390004:=n0_;have HO399:=n1_;have BK336:=n2_;have BK337:=n3_;have BK389:=n4_;have HB:=n5_;have BK402:=n6_;have GW402:=n7_;have GE402:=n8_;have NB336_402:=n9_;have NB402_336:=n10_;have NB337_402:=n11_;have NB402_337:=n12_;have NB389_402:=n13_;have NB402_389:=n14_;clear n0_ n1_ n2_ n3_ n4_ n5_ n6_ n7_ n8_ n9_ n10_ n11_ n12_ n13_ n14_;clear hb hbox hg;have hnb154:=NB402_336.out;have hnc154:=NB336_402.out;have hnb155:=NB402_337.out;have hnc155:=NB337_402.out;have hnb156:=NB402_389.out;have hnc156:=NB389_402.out;have hcz157_0 : w153.cell? ⟨gb402,0,none⟩ = some (.string (⟨#[]⟩ : ByteArray)):=(blk_cell BK402.out 0).trans rfl;have hcz157_1 : w153.cell? ⟨gb402,1,none⟩ = some (.slice none 0 0):=(blk_cell BK402.out 1).trans rfl;have hfz157_0:=blk_frozen BK402.out 0;have hfz157_1:=blk_frozen BK402.out 1;obtain ⟨Ao158,co158,eo158⟩:=Kd.R_slice HO399.out;subst eo158)|((with_reducible refine gate_callee (f:=14) rfl ?_);refine goesL_ (some 156) rfl rfl Try.func14 (by kernel_rfl) rfl #[.agg #[.string t396, .slice Ao158 t397.length co158]] rfl (by (try simp only [List.map_toArray,List.map_cons,List.map_nil]);first|done|rfl|(simp only [List.length_drop,List.length_take];rfl)|(go_simp;done)|(go_simp;simp;done)) ?_;(with_reducible refine (codec_PutEvent.calls kj110 t396 _ _ t397 t403 t406 _ ?side1 ?side2 A136.out).mono ?_);(case side1 => refine (Kd.R_reads' (e:=24) (base:=w.heap.size) (ok:=fun k_ => (((True ∧ some k_ ≠ (.slice Ao117 t384.length co117 : Value).ownBlock) ∧ k_ ≠ gb336) ∧ k_ ≠ gb389)) (n:=t397.length) (c:=co158) ?_).2.2;exact (by (with_reducible repeat (first|apply Kd.R_alloc|apply Kd.R_drewN|apply Kd.R_drew));exact (Kd.R_mono (Kd.R_far (p:=⟨gb402,1,none⟩) (Kd.R_far (p:=⟨gb402,0,none⟩) (Kd.R_types HO399.out BK402.out (by decide)) (fun _ hk => hk.2) (.string t396)) (fun _ hk => hk.2) (.slice Ao158 t397.length co158)) (fun _ h_ => h_.1))));(case side2 => exact (Kd.R_reads' HO399.out).2.1);rintro e w159 ⟨v404,rfl,ho0,hb⟩;refine ⟨_,rfl,?_⟩;have n0_:=Aside0.mk (Kd.R_below (by (with_reducible repeat (first|apply Kd.R_alloc|apply Kd.R_drewN|apply Kd.R_drew));exact (Kd.R_mono (Kd.R_far (p:=⟨gb402,1,none⟩) (Kd.R_far (p:=⟨gb402,0,none⟩) (Kd.R_types HO_390004.out BK402.out (by decide)) (fun _ hk => hk.2) (.string t396)) (fun _ hk => hk.2) (.slice Ao158 t397.length co158)) (fun _ h_ => h_.1))) hb);have n1_:=Aside0.mk (Kd.R_below (by (with_reducible repeat (first|apply Kd.R_alloc|apply Kd.R_drewN|apply Kd.R_drew));exact (Kd.R_mono (Kd.R_far (p:=⟨gb402,1,none⟩) (Kd.R_far (p:=⟨gb402,0,none⟩) (Kd.R_types HO399.out BK402.out (by decide)) (fun _ hk => hk.2) (.string t396)) (fun _ hk => hk.2) (.slice Ao158 t397.length co158)) (fun _ h_ => h_.1))) hb);have n2_:=Aside0.mk (Kd.R_lower ho0 (below_size (by repeat (first|(with_reducible first|exact HB.out|apply below_alloc|apply pw_below_drewN|apply below_drew1|refine below_set ?_ GE336.out|refine below_set ?_ GE337.out|refine below_set ?_ GE389.out|refine below_set ?_ GE402.out)|exact HB.out))));have n3_:=Aside0.mk (blk_below (g:=gb336) (o := .cells #[.int .i64 a0_0, .int .i64 a0_1, .string a0_2, .int .i64 a0_3, .slice A0_4 l0_4.length c0_4] 24 (0,0)) (by (with_reducible repeat (first|refine blk_drewN ?_ _|refine blk_drew ?_|refine blk_alloc ?_ _));refine blk_far ?_ NB336_402.out _;(with_reducible repeat (first|refine blk_drewN ?_ _|refine blk_drew ?_|refine blk_alloc ?_ _));refine blk_far ?_ NB336_402.out _;(with_reducible repeat (first|refine blk_drewN ?_ _|refine blk_drew ?_|refine blk_alloc ?_ _));exact BK336.out) hb);have n4_:=Aside0.mk (blk_below (g:=gb337) (o := .cells #[.string a1_0, .slice A1_1 l1_1.length c1_1] 26 (0,0)) (by (with_reducible repeat (first|refine blk_drewN ?_ _|refine blk_drew ?_|refine blk_alloc ?_ _));refine blk_far ?_ NB337_402.out _;(with_reducible repeat (first|refine blk_drewN ?_ _|refine blk_drew ?_|refine blk_alloc ?_ _));refine blk_far ?_ NB337_402.out _;(with_reducible repeat (first|refine blk_drewN ?_ _|refine blk_drew ?_|refine blk_alloc ?_ _));exact BK337.out) hb);have n5_:=Aside0.mk (blk_below (g:=gb389) (o := .cells #[.int .i64 t380, .int .i64 t381, .string t382, .int .i64 t383, .slice Ao117 t384.length co117] 24 (0,0)) (by (with_reducible repeat (first|refine blk_drewN ?_ _|refine blk_drew ?_|refine blk_alloc ?_ _));refine blk_far ?_ NB389_402.out _;(with_reducible repeat (first|refine blk_drewN ?_ _|refine blk_drew ?_|refine blk_alloc ?_ _));refine blk_far ?_ NB389_402.out _;(with_reducible repeat (first|refine blk_drewN ?_ _|refine blk_drew ?_|refine blk_alloc ?_ _));exact BK389.out) hb);have n6_:=Aside0.mk (blk_below (g:=gb402) (o := .cells #[.string t396, .slice Ao158 t397.length co158] 26 (0,0)) (by (with_reducible repeat (first|refine blk_drewN ?_ _|refine blk_drew ?_|refine blk_alloc ?_ _));refine blk_put (cs:=#[.string t396, .slice none 0 0]) ?_ 1 _ rfl;(with_reducible repeat (first|refine blk_drewN ?_ _|refine blk_drew ?_|refine blk_alloc ?_ _));refine blk_put (cs:=#[.string (⟨#[]⟩ : ByteArray), .slice none 0 0]) ?_ 0 _ rfl;(with_reducible repeat (first|refine blk_drewN ?_ _|refine blk_drew ?_|refine blk_alloc ?_ _));exact BK402.out) hb);have n7_:=Aside0.mk (below_step (by repeat (first|(with_reducible first|exact HB.out|apply below_alloc|apply pw_below_drewN|apply below_drew1|refine below_set ?_ GE336.out|refine below_set ?_ GE337.out|refine below_set ?_ GE389.out|refine below_set ?_ GE402.out)|exact HB.out)) hb);clear HO_390004;clear HO399;clear BK336;clear BK337;clear BK389;clear BK402;clear HB;have HO_390004:=n0_;have HO399:=n1_;have HO405:=n2_;have BK336:=n3_;have BK337:=n4_;have BK389:=n5_;have BK402:=n6_;have HB:=n7_;clear n0_ n1_ n2_ n3_ n4_ n5_ n6_ n7_;(try clear hb);(try clear hb2);(try clear hk);(try clear hi);(try clear ho0);obtain ⟨Ao160,co160,eo160⟩:=Kd.R_slice HO405.out;subst eo160))
     go_ret
     exact ⟨by first|rfl|(simp [errW_none,errW_some] <;> rfl)|(simp [*,errW_none,errW_some] <;> rfl),by repeat (first|(with_reducible first|exact HB.out|apply below_alloc|apply pw_below_drewN|apply below_drew1|refine below_set ?_ GE336.out|refine below_set ?_ GE337.out|refine below_set ?_ GE389.out|refine below_set ?_ GE402.out)|exact HB.out)⟩
   ·rw [if_neg c137] at H
    have c137b0 : (t406 == 0) = false:=beq_eq_false_iff_ne.mpr c137
    have c137b1 : (t406 != 0) = true:=bne_iff_ne.mpr c137
    obtain rfl:=Option.some.inj H
    go_wp2_with (first|((with_reducible refine gate_callee (f:=32) rfl ?_);refine goesL_ (some 148) rfl rfl Try.func32 (by kernel_rfl) rfl #[.slice A3 l3.length c3] rfl (by (try simp only [List.map_toArray,List.map_cons,List.map_nil]);first|done|rfl|(simp only [List.length_drop,List.length_take];rfl)|(go_simp;done)|(go_simp;simp;done)) ?_;(with_reducible refine (codec_Event.calls kj110 _ _ l3 t396 t397 t400 t401 _ ?side1 ?side2 A134.out).mono ?_);(case side1 => repeat (first|exact (Kd.C_below HR3.out HB.out)|(with_reducible refine Kd.C_alloc ?_ _)|(with_reducible refine Kd.C_drewN ?_ _)|(with_reducible refine Kd.C_drew ?_)));(case side2 => exact HC3.out);rintro e w161 ⟨v398,rfl,ho0,hb⟩;refine ⟨_,rfl,?_⟩;have n0_:=Aside0.mk (Kd.R_elder' (by (with_reducible repeat (first|apply Kd.R_alloc|apply Kd.R_drewN|apply Kd.R_drew));exact HO_390004.out) (Kd.R_base ho0) hb);have n1_:=Aside0.mk (Kd.R_lower (Kd.R_newB (Kd.R_newB (Kd.R_new' ho0 (Kd.R_lt (by (with_reducible repeat (first|apply Kd.R_alloc|apply Kd.R_drewN|apply Kd.R_drew));exact HO_390004.out))) (g:=gb336) (o := .cells #[.int .i64 a0_0, .int .i64 a0_1, .string a0_2, .int .i64 a0_3, .slice A0_4 l0_4.length c0_4] 24 (0,0)) (by (with_reducible repeat (first|refine blk_drewN ?_ _|refine blk_drew ?_|refine blk_alloc ?_ _));exact BK336.out)) (g:=gb389) (o := .cells #[.int .i64 t380, .int .i64 t381, .string t382, .int .i64 t383, .slice Ao117 t384.length co117] 24 (0,0)) (by (with_reducible repeat (first|refine blk_drewN ?_ _|refine blk_drew ?_|refine blk_alloc ?_ _));exact BK389.out)) (below_size (by repeat (first|(with_reducible first|exact HB.out|apply below_alloc|apply pw_below_drewN|apply below_drew1|refine below_set ?_ GE336.out|refine below_set ?_ GE337.out|refine below_set ?_ GE389.out)|exact HB.out))));have n2_:=Aside0.mk (blk_below (g:=gb336) (o := .cells #[.int .i64 a0_0, .int .i64 a0_1, .string a0_2, .int .i64 a0_3, .slice A0_4 l0_4.length c0_4] 24 (0,0)) (by (with_reducible repeat (first|refine blk_drewN ?_ _|refine blk_drew ?_|refine blk_alloc ?_ _));exact BK336.out) hb);have n3_:=Aside0.mk (blk_below (g:=gb337) (o := .cells #[.string a1_0, .slice A1_1 l1_1.length c1_1] 26 (0,0)) (by (with_reducible repeat (first|refine blk_drewN ?_ _|refine blk_drew ?_|refine blk_alloc ?_ _));exact BK337.out) hb);have n4_:=Aside0.mk (blk_below (g:=gb389) (o := .cells #[.int .i64 t380, .int .i64 t381, .string t382, .int .i64 t383, .slice Ao117 t384.length co117] 24 (0,0)) (by (with_reducible repeat (first|refine blk_drewN ?_ _|refine blk_drew ?_|refine blk_alloc ?_ _));exact BK389.out) hb);have n5_:=Aside0.mk (below_step (by repeat (first|(with_reducible first|exact HB.out|apply below_alloc|apply pw_below_drewN|apply below_drew1|refine below_set ?_ GE336.out|refine below_set ?_ GE337.out|refine below_set ?_ GE389.out)|exact HB.out)) hb);clear HO_390004;clear BK336;clear BK337;clear BK389;clear HB;have HO_390004:=n0_;have HO399:=n1_;have BK336:=n2_;have BK337:=n3_;have BK389:=n4_;have HB:=n5_;clear n0_ n1_ n2_ n3_ n4_ n5_;(try clear hb);(try clear hb2);(try clear hk);(try clear hi);(try clear ho0))|((with_reducible refine gate_dst (N:=20) rfl ?_);(try (refine gate_guard (by rfl) ?_;dsimp only));refine box_event ?hg (N:=20) ?hd (cs:=#[.string (⟨#[]⟩ : ByteArray), .slice none 0 0]) (t:=26) ?hr ?_;(case hd => rfl);(case hg => rfl);(case hr => first|(go_simp;done)|(go_simp;rfl));intro gb402 hg w162 hbox hb;have n0_:=Aside0.mk (Kd.R_below (by (with_reducible repeat (first|apply Kd.R_alloc|apply Kd.R_drewN|apply Kd.R_drew));exact HO_390004.out) hb);have n1_:=Aside0.mk (Kd.R_below (by (with_reducible repeat (first|apply Kd.R_alloc|apply Kd.R_drewN|apply Kd.R_drew));exact HO399.out) hb);have n2_:=Aside0.mk (blk_below (g:=gb336) (o := .cells #[.int .i64 a0_0, .int .i64 a0_1, .string a0_2, .int .i64 a0_3, .slice A0_4 l0_4.length c0_4] 24 (0,0)) (by (with_reducible repeat (first|refine blk_drewN ?_ _|refine blk_drew ?_|refine blk_alloc ?_ _));exact BK336.out) hb);have n3_:=Aside0.mk (blk_below (g:=gb337) (o := .cells #[.string a1_0, .slice A1_1 l1_1.length c1_1] 26 (0,0)) (by (with_reducible repeat (first|refine blk_drewN ?_ _|refine blk_drew ?_|refine blk_alloc ?_ _));exact BK337.out) hb);have n4_:=Aside0.mk (blk_below (g:=gb389) (o := .cells #[.int .i64 t380, .int .i64 t381, .string t382, .int .i64 t383, .slice Ao117 t384.length co117] 24 (0,0)) (by (with_reducible repeat (first|refine blk_drewN ?_ _|refine blk_drew ?_|refine blk_alloc ?_ _));exact BK389.out) hb);have n5_:=Aside0.mk (below_step (by repeat (first|(with_reducible first|exact HB.out|apply below_alloc|apply pw_below_drewN|apply below_drew1|refine below_set ?_ GE336.out|refine below_set ?_ GE337.out|refine below_set ?_ GE389.out)|exact HB.out)) hb);have n6_:=Aside0.mk (hbox);have n7_:=Aside0.mk ((by rw [hg];exact (below_size (by repeat (first|(with_reducible first|exact HB.out|apply below_alloc|apply pw_below_drewN|apply below_drew1|refine below_set ?_ GE336.out|refine below_set ?_ GE337.out|refine below_set ?_ GE389.out)|exact HB.out))) : w.heap.size ≤ gb402));have n8_:=Aside0.mk ((by rw [hg];exact (below_size (by repeat (first|(with_reducible first|exact HB.out|apply below_alloc|apply pw_below_drewN|apply below_drew1|refine below_set ?_ GE336.out|refine below_set ?_ GE337.out|refine below_set ?_ GE389.out)|exact HB.out))) : w.heap.size ≤ gb402));have n9_:=Aside0.mk ((by rw [hg];exact Nat.ne_of_lt (blk_lt (g:=gb336) (o := .cells #[.int .i64 a0_0, .int .i64 a0_1, .string a0_2, .int .i64 a0_3, .slice A0_4 l0_4.length c0_4] 24 (0,0)) (by (with_reducible repeat (first|refine blk_drewN ?_ _|refine blk_drew ?_|refine blk_alloc ?_ _));exact BK336.out)) : gb336 ≠ gb402));have n10_:=Aside0.mk ((by rw [hg];exact Nat.ne_of_gt (blk_lt (g:=gb336) (o := .cells #[.int .i64 a0_0, .int .i64 a0_1, .string a0_2, .int .i64 a0_3, .slice A0_4 l0_4.length c0_4] 24 (0,0)) (by (with_reducible repeat (first|refine blk_drewN ?_ _|refine blk_drew ?_|refine blk_alloc ?_ _));exact BK336.out)) : gb402 ≠ gb336));have n11_:=Aside0.mk ((by rw [hg];exact Nat.ne_of_lt (blk_lt (g:=gb337) (o := .cells #[.string a1_0, .slice A1_1 l1_1.length c1_1] 26 (0,0)) (by (with_reducible repeat (first|refine blk_drewN ?_ _|refine blk_drew ?_|refine blk_alloc ?_ _));exact BK337.out)) : gb337 ≠ gb402));have n12_:=Aside0.mk ((by rw [hg];exact Nat.ne_of_gt (blk_lt (g:=gb337) (o := .cells #[.string a1_0, .slice A1_1 l1_1.length c1_1] 26 (0,0)) (by (with_reducible repeat (first|refine blk_drewN ?_ _|refine blk_drew ?_|refine blk_alloc ?_ _));exact BK337.out)) : gb402 ≠ gb337));have n13_:=Aside0.mk ((by rw [hg];exact Nat.ne_of_lt (blk_lt (g:=gb389) (o := .cells #[.int .i64 t380, .int .i64 t381, .string t382, .int .i64 t383, .slice Ao117 t384.length co117] 24 (0,0)) (by (with_reducible repeat (first|refine blk_drewN ?_ _|refine blk_drew ?_|refine blk_alloc ?_ _));exact BK389.out)) : gb389 ≠ gb402));have n14_:=Aside0.mk ((by rw [hg];exact Nat.ne_of_gt (blk_lt (g:=gb389) (o := .cells #[.int .i64 t380, .int .i64 t381, .string t382, .int .i64 t383, .slice Ao117 t384.length co117] 24 (0,0)) (by (with_reducible repeat (first|refine blk_drewN ?_ _|refine blk_drew ?_|refine blk_alloc ?_ _));exact BK389.out)) : gb402 ≠ gb389));clear HO_390004;clear HO399;clear BK336;clear BK337;clear BK389;clear HB;have HO_390004:=n0_;have HO399:=n1_;have BK336:=n2_;have BK337:=n3_;have BK389:=n4_;have HB:=n5_;have BK402:=n6_;have GW402:=n7_;have GE402:=n8_;have NB336_402:=n9_;have NB402_336:=n10_;have NB337_402:=n11_;have NB402_337:=n12_;have NB389_402:=n13_;have NB402_389:=n14_;clear n0_ n1_ n2_ n3_ n4_ n5_ n6_ n7_ n8_ n9_ n10_ n11_ n12_ n13_ n14_;clear hb hbox hg;have hnb163:=NB402_336.out;have hnc163:=NB336_402.out;have hnb164:=NB402_337.out;have hnc164:=NB337_402.out;have hnb165:=NB402_389.out;have hnc165:=NB389_402.out;have hcz166_0 : w162.cell? ⟨gb402,0,none⟩ = some (.string (⟨#[]⟩ : ByteArray)):=(blk_cell BK402.out 0).trans rfl;have hcz166_1 : w162.cell? ⟨gb402,1,none⟩ = some (.slice none 0 0):=(blk_cell BK402.out 1).trans rfl;have hfz166_0:=blk_frozen BK402.out 0;have hfz166_1:=blk_frozen BK402.out 1;obtain ⟨Ao167,co167,eo167⟩:=Kd.R_slice HO399.out;subst eo167)|((with_reducible refine gate_callee (f:=14) rfl ?_);refine goesL_ (some 156) rfl rfl Try.func14 (by kernel_rfl) rfl #[.agg #[.string t396, .slice Ao167 t397.length co167]] rfl (by (try simp only [List.map_toArray,List.map_cons,List.map_nil]);first|done|rfl|(simp only [List.length_drop,List.length_take];rfl)|(go_simp;done)|(go_simp;simp;done)) ?_;(with_reducible refine (codec_PutEvent.calls kj110 t396 _ _ t397 t403 t406 _ ?side1 ?side2 A136.out).mono ?_);(case side1 => refine (Kd.R_reads' (e:=24) (base:=w.heap.size) (ok:=fun k_ => (((True ∧ some k_ ≠ (.slice Ao117 t384.length co117 : Value).ownBlock) ∧ k_ ≠ gb336) ∧ k_ ≠ gb389)) (n:=t397.length) (c:=co167) ?_).2.2;exact (by (with_reducible repeat (first|apply Kd.R_alloc|apply Kd.R_drewN|apply Kd.R_drew));exact (Kd.R_mono (Kd.R_far (p:=⟨gb402,1,none⟩) (Kd.R_far (p:=⟨gb402,0,none⟩) (Kd.R_types HO399.out BK402.out (by decide)) (fun _ hk => hk.2) (.string t396)) (fun _ hk => hk.2) (.slice Ao167 t397.length co167)) (fun _ h_ => h_.1))));(case side2 => exact (Kd.R_reads' HO399.out).2.1);rintro e w168 ⟨v404,rfl,ho0,hb⟩;refine ⟨_,rfl,?_⟩;have n0_:=Aside0.mk (Kd.R_below (by (with_reducible repeat (first|apply Kd.R_alloc|apply Kd.R_drewN|apply Kd.R_drew));exact (Kd.R_mono (Kd.R_far (p:=⟨gb402,1,none⟩) (Kd.R_far (p:=⟨gb402,0,none⟩) (Kd.R_types HO_390004.out BK402.out (by decide)) (fun _ hk => hk.2) (.string t396)) (fun _ hk => hk.2) (.slice Ao167 t397.length co167)) (fun _ h_ => h_.1))) hb);have n1_:=Aside0.mk (Kd.R_below (by (with_reducible repeat (first|apply Kd.R_alloc|apply Kd.R_drewN|apply Kd.R_drew));exact (Kd.R_mono (Kd.R_far (p:=⟨gb402,1,none⟩) (Kd.R_far (p:=⟨gb402,0,none⟩) (Kd.R_types HO399.out BK402.out (by decide)) (fun _ hk => hk.2) (.string t396)) (fun _ hk => hk.2) (.slice Ao167 t397.length co167)) (fun _ h_ => h_.1))) hb);have n2_:=Aside0.mk (Kd.R_lower ho0 (below_size (by repeat (first|(with_reducible first|exact HB.out|apply below_alloc|apply pw_below_drewN|apply below_drew1|refine below_set ?_ GE336.out|refine below_set ?_ GE337.out|refine below_set ?_ GE389.out|refine below_set ?_ GE402.out)|exact HB.out))));have n3_:=Aside0.mk (blk_below (g:=gb336) (o := .cells #[.int .i64 a0_0, .int .i64 a0_1, .string a0_2, .int .i64 a0_3, .slice A0_4 l0_4.length c0_4] 24 (0,0)) (by (with_reducible repeat (first|refine blk_drewN ?_ _|refine blk_drew ?_|refine blk_alloc ?_ _));refine blk_far ?_ NB336_402.out _;(with_reducible repeat (first|refine blk_drewN ?_ _|refine blk_drew ?_|refine blk_alloc ?_ _));refine blk_far ?_ NB336_402.out _;(with_reducible repeat (first|refine blk_drewN ?_ _|refine blk_drew ?_|refine blk_alloc ?_ _));exact BK336.out) hb);have n4_:=Aside0.mk (blk_below (g:=gb337) (o := .cells #[.string a1_0, .slice A1_1 l1_1.length c1_1] 26 (0,0)) (by (with_reducible repeat (first|refine blk_drewN ?_ _|refine blk_drew ?_|refine blk_alloc ?_ _));refine blk_far ?_ NB337_402.out _;(with_reducible repeat (first|refine blk_drewN ?_ _|refine blk_drew ?_|refine blk_alloc ?_ _));refine blk_far ?_ NB337_402.out _;(with_reducible repeat (first|refine blk_drewN ?_ _|refine blk_drew ?_|refine blk_alloc ?_ _));exact BK337.out) hb);have n5_:=Aside0.mk (blk_below (g:=gb389) (o := .cells #[.int .i64 t380, .int .i64 t381, .string t382, .int .i64 t383, .slice Ao117 t384.length co117] 24 (0,0)) (by (with_reducible repeat (first|refine blk_drewN ?_ _|refine blk_drew ?_|refine blk_alloc ?_ _));refine blk_far ?_ NB389_402.out _;(with_reducible repeat (first|refine blk_drewN ?_ _|refine blk_drew ?_|refine blk_alloc ?_ _));refine blk_far ?_ NB389_402.out _;(with_reducible repeat (first|refine blk_drewN ?_ _|refine blk_drew ?_|refine blk_alloc ?_ _));exact BK389.out) hb);have n6_:=Aside0.mk (blk_below (g:=gb402) (o := .cells #[.string t396, .slice Ao167 t397.length co167] 26 (0,0)) (by (with_reducible repeat (first|refine blk_drewN ?_ _|refine blk_drew ?_|refine blk_alloc ?_ _));refine blk_put (cs:=#[.string t396, .slice none 0 0]) ?_ 1 _ rfl;(with_reducible repeat (first|refine blk_drewN ?_ _|refine blk_drew ?_|refine blk_alloc ?_ _));refine blk_put (cs:=#[.string (⟨#[]⟩ : ByteArray), .slice none 0 0]) ?_ 0 _ rfl;(with_reducible repeat (first|refine blk_drewN ?_ _|refine blk_drew ?_|refine blk_alloc ?_ _));exact BK402.out) hb);have n7_:=Aside0.mk (below_step (by repeat (first|(with_reducible first|exact HB.out|apply below_alloc|apply pw_below_drewN|apply below_drew1|refine below_set ?_ GE336.out|refine below_set ?_ GE337.out|refine below_set ?_ GE389.out|refine below_set ?_ GE402.out)|exact HB.out)) hb);clear HO_390004;clear HO399;clear BK336;clear BK337;clear BK389;clear BK402;clear HB;have HO_390004:=n0_;have HO399:=n1_;have HO405:=n2_;have BK336:=n3_;have BK337:=n4_;have BK389:=n5_;have BK402:=n6_;have HB:=n7_;clear n0_ n1_ n2_ n3_ n4_ n5_ n6_ n7_;(try clear hb);(try clear hb2);(try clear hk);(try clear hi);(try clear ho0)))
    go_ret
    exact ⟨by first|rfl|(simp [errW_none,errW_some] <;> rfl)|(simp [*,errW_none,errW_some] <;> rfl),by repeat (first|(with_reducible first|exact HB.out|apply below_alloc|apply pw_below_drewN|apply below_drew1|refine below_set ?_ GE336.out|refine below_set ?_ GE337.out|refine below_set ?_ GE389.out|refine below_set ?_ GE402.out)|exact HB.out)⟩
  ·rw [if_neg c135] at H
   have c135b0 : (t401 == 0) = false:=beq_eq_false_iff_ne.mpr c135
   have c135b1 : (t401 != 0) = true:=bne_iff_ne.mpr c135
   obtain rfl:=Option.some.inj H
   go_wp2_with (first|((with_reducible refine gate_callee (f:=32) rfl ?_);refine goesL_ (some 148) rfl rfl Try.func32 (by kernel_rfl) rfl #[.slice A3 l3.length c3] rfl (by (try simp only [List.map_toArray,List.map_cons,List.map_nil]);first|done|rfl|(simp only [List.length_drop,List.length_take];rfl)|(go_simp;done)|(go_simp;simp;done)) ?_;(with_reducible refine (codec_Event.calls kj110 _ _ l3 t396 t397 t400 t401 _ ?side1 ?side2 A134.out).mono ?_);(case side1 => repeat (first|exact (Kd.C_below HR3.out HB.out)|(with_reducible refine Kd.C_alloc ?_ _)|(with_reducible refine Kd.C_drewN ?_ _)|(with_reducible refine Kd.C_drew ?_)));(case side2 => exact HC3.out);rintro e w169 ⟨v398,rfl,ho0,hb⟩;refine ⟨_,rfl,?_⟩;have n0_:=Aside0.mk (Kd.R_elder' (by (with_reducible repeat (first|apply Kd.R_alloc|apply Kd.R_drewN|apply Kd.R_drew));exact HO_390004.out) (Kd.R_base ho0) hb);have n1_:=Aside0.mk (Kd.R_lower (Kd.R_newB (Kd.R_newB (Kd.R_new' ho0 (Kd.R_lt (by (with_reducible repeat (first|apply Kd.R_alloc|apply Kd.R_drewN|apply Kd.R_drew));exact HO_390004.out))) (g:=gb336) (o := .cells #[.int .i64 a0_0, .int .i64 a0_1, .string a0_2, .int .i64 a0_3, .slice A0_4 l0_4.length c0_4] 24 (0,0)) (by (with_reducible repeat (first|refine blk_drewN ?_ _|refine blk_drew ?_|refine blk_alloc ?_ _));exact BK336.out)) (g:=gb389) (o := .cells #[.int .i64 t380, .int .i64 t381, .string t382, .int .i64 t383, .slice Ao117 t384.length co117] 24 (0,0)) (by (with_reducible repeat (first|refine blk_drewN ?_ _|refine blk_drew ?_|refine blk_alloc ?_ _));exact BK389.out)) (below_size (by repeat (first|(with_reducible first|exact HB.out|apply below_alloc|apply pw_below_drewN|apply below_drew1|refine below_set ?_ GE336.out|refine below_set ?_ GE337.out|refine below_set ?_ GE389.out)|exact HB.out))));have n2_:=Aside0.mk (blk_below (g:=gb336) (o := .cells #[.int .i64 a0_0, .int .i64 a0_1, .string a0_2, .int .i64 a0_3, .slice A0_4 l0_4.length c0_4] 24 (0,0)) (by (with_reducible repeat (first|refine blk_drewN ?_ _|refine blk_drew ?_|refine blk_alloc ?_ _));exact BK336.out) hb);have n3_:=Aside0.mk (blk_below (g:=gb337) (o := .cells #[.string a1_0, .slice A1_1 l1_1.length c1_1] 26 (0,0)) (by (with_reducible repeat (first|refine blk_drewN ?_ _|refine blk_drew ?_|refine blk_alloc ?_ _));exact BK337.out) hb);have n4_:=Aside0.mk (blk_below (g:=gb389) (o := .cells #[.int .i64 t380, .int .i64 t381, .string t382, .int .i64 t383, .slice Ao117 t384.length co117] 24 (0,0)) (by (with_reducible repeat (first|refine blk_drewN ?_ _|refine blk_drew ?_|refine blk_alloc ?_ _));exact BK389.out) hb);have n5_:=Aside0.mk (below_step (by repeat (first|(with_reducible first|exact HB.out|apply below_alloc|apply pw_below_drewN|apply below_drew1|refine below_set ?_ GE336.out|refine below_set ?_ GE337.out|refine below_set ?_ GE389.out)|exact HB.out)) hb);clear HO_390004;clear BK336;clear BK337;clear BK389;clear HB;have HO_390004:=n0_;have HO399:=n1_;have BK336:=n2_;have BK337:=n3_;have BK389:=n4_;have HB:=n5_;clear n0_ n1_ n2_ n3_ n4_ n5_;(try clear hb);(try clear hb2);(try clear hk);(try clear hi);(try clear ho0))|((with_reducible refine gate_dst (N:=20) rfl ?_);(try (refine gate_guard (by rfl) ?_;dsimp only));refine box_event ?hg (N:=20) ?hd (cs:=#[.string (⟨#[]⟩ : ByteArray), .slice none 0 0]) (t:=26) ?hr ?_;(case hd => rfl);(case hg => rfl);(case hr => first|(go_simp;done)|(go_simp;rfl));intro gb402 hg w170 hbox hb;have n0_:=Aside0.mk (Kd.R_below (by (with_reducible repeat (first|apply Kd.R_alloc|apply Kd.R_drewN|apply Kd.R_drew));exact HO_390004.out) hb);have n1_:=Aside0.mk (Kd.R_below (by (with_reducible repeat (first|apply Kd.R_alloc|apply Kd.R_drewN|apply Kd.R_drew));exact HO399.out) hb);have n2_:=Aside0.mk (blk_below (g:=gb336) (o := .cells #[.int .i64 a0_0, .int .i64 a0_1, .string a0_2, .int .i64 a0_3, .slice A0_4 l0_4.length c0_4] 24 (0,0)) (by (with_reducible repeat (first|refine blk_drewN ?_ _|refine blk_drew ?_|refine blk_alloc ?_ _));exact BK336.out) hb);have n3_:=Aside0.mk (blk_below (g:=gb337) (o := .cells #[.string a1_0, .slice A1_1 l1_1.length c1_1] 26 (0,0)) (by (with_reducible repeat (first|refine blk_drewN ?_ _|refine blk_drew ?_|refine blk_alloc ?_ _));exact BK337.out) hb);have n4_:=Aside0.mk (blk_below (g:=gb389) (o := .cells #[.int .i64 t380, .int .i64 t381, .string t382, .int .i64 t383, .slice Ao117 t384.length co117] 24 (0,0)) (by (with_reducible repeat (first|refine blk_drewN ?_ _|refine blk_drew ?_|refine blk_alloc ?_ _));exact BK389.out) hb);have n5_:=Aside0.mk (below_step (by repeat (first|(with_reducible first|exact HB.out|apply below_alloc|apply pw_below_drewN|apply below_drew1|refine below_set ?_ GE336.out|refine below_set ?_ GE337.out|refine below_set ?_ GE389.out)|exact HB.out)) hb);have n6_:=Aside0.mk (hbox);have n7_:=Aside0.mk ((by rw [hg];exact (below_size (by repeat (first|(with_reducible first|exact HB.out|apply below_alloc|apply pw_below_drewN|apply below_drew1|refine below_set ?_ GE336.out|refine below_set ?_ GE337.out|refine below_set ?_ GE389.out)|exact HB.out))) : w.heap.size ≤ gb402));have n8_:=Aside0.mk ((by rw [hg];exact (below_size (by repeat (first|(with_reducible first|exact HB.out|apply below_alloc|apply pw_below_drewN|apply below_drew1|refine below_set ?_ GE336.out|refine below_set ?_ GE337.out|refine below_set ?_ GE389.out)|exact HB.out))) : w.heap.size ≤ gb402));have n9_:=Aside0.mk ((by rw [hg];exact Nat.ne_of_lt (blk_lt (g:=gb336) (o := .cells #[.int .i64 a0_0, .int .i64 a0_1, .string a0_2, .int .i64 a0_3, .slice A0_4 l0_4.length c0_4] 24 (0,0)) (by (with_reducible repeat (first|refine blk_drewN ?_ _|refine blk_drew ?_|refine blk_alloc ?_ _));exact BK336.out)) : gb336 ≠ gb402));have n10_:=Aside0.mk ((by rw [hg];exact Nat.ne_of_gt (blk_lt (g:=gb336) (o := .cells #[.int .i64 a0_0, .int .i64 a0_1, .string a0_2, .int .i64 a0_3, .slice A0_4 l0_4.length c0_4] 24 (0,0)) (by (with_reducible repeat (first|refine blk_drewN ?_ _|refine blk_drew ?_|refine blk_alloc ?_ _));exact BK336.out)) : gb402 ≠ gb336));have n11_:=Aside0.mk ((by rw [hg];exact Nat.ne_of_lt (blk_lt (g:=gb337) (o := .cells #[.string a1_0, .slice A1_1 l1_1.length c1_1] 26 (0,0)) (by (with_reducible repeat (first|refine blk_drewN ?_ _|refine blk_drew ?_|refine blk_alloc ?_ _));exact BK337.out)) : gb337 ≠ gb402));have n12_:=Aside0.mk ((by rw [hg];exact Nat.ne_of_gt (blk_lt (g:=gb337) (o := .cells #[.string a1_0, .slice A1_1 l1_1.length c1_1] 26 (0,0)) (by (with_reducible repeat (first|refine blk_drewN ?_ _|refine blk_drew ?_|refine blk_alloc ?_ _));exact BK337.out)) : gb402 ≠ gb337));have n13_:=Aside0.mk ((by rw [hg];exact Nat.ne_of_lt (blk_lt (g:=gb389) (o := .cells #[.int .i64 t380, .int .i64 t381, .string t382, .int .i64 t383, .slice Ao117 t384.length co117] 24 (0,0)) (by (with_reducible repeat (first|refine blk_drewN ?_ _|refine blk_drew ?_|refine blk_alloc ?_ _));exact BK389.out)) : gb389 ≠ gb402));have n14_:=Aside0.mk ((by rw [hg];exact Nat.ne_of_gt (blk_lt (g:=gb389) (o := .cells #[.int .i64 t380, .int .i64 t381, .string t382, .int .i64 t383, .slice Ao117 t384.length co117] 24 (0,0)) (by (with_reducible repeat (first|refine blk_drewN ?_ _|refine blk_drew ?_|refine blk_alloc ?_ _));exact BK389.out)) : gb402 ≠ gb389));clear HO_390004;clear HO399;clear BK336;clear BK337;clear BK389;clear HB;have HO_390004:=n0_;have HO399:=n1_;have BK336:=n2_;have BK337:=n3_;have BK389:=n4_;have HB:=n5_;have BK402:=n6_;have GW402:=n7_;have GE402:=n8_;have NB336_402:=n9_;have NB402_336:=n10_;have NB337_402:=n11_;have NB402_337:=n12_;have NB389_402:=n13_;have NB402_389:=n14_;clear n0_ n1_ n2_ n3_ n4_ n5_ n6_ n7_ n8_ n9_ n10_ n11_ n12_ n13_ n14_;clear hb hbox hg;have hnb171:=NB402_336.out;have hnc171:=NB336_402.out;have hnb172:=NB402_337.out;have hnc172:=NB337_402.out;have hnb173:=NB402_389.out;have hnc173:=NB389_402.out;have hcz174_0 : w170.cell? ⟨gb402,0,none⟩ = some (.string (⟨#[]⟩ : ByteArray)):=(blk_cell BK402.out 0).trans rfl;have hcz174_1 : w170.cell? ⟨gb402,1,none⟩ = some (.slice none 0 0):=(blk_cell BK402.out 1).trans rfl;have hfz174_0:=blk_frozen BK402.out 0;have hfz174_1:=blk_frozen BK402.out 1;obtain ⟨Ao175,co175,eo175⟩:=Kd.R_slice HO399.out;subst eo175))
   go_ret
   exact ⟨by first|rfl|(simp [errW_none,errW_some] <;> rfl)|(simp [*,errW_none,errW_some] <;> rfl),by repeat (first|(with_reducible first|exact HB.out|apply below_alloc|apply pw_below_drewN|apply below_drew1|refine below_set ?_ GE336.out|refine below_set ?_ GE337.out|refine below_set ?_ GE389.out|refine below_set ?_ GE402.out)|exact HB.out)⟩
theorem windlasslaw2_CodecBack.calls (k : Nat) (a0_0 : Int) (a0_1 : Int) (a0_2 : ByteArray) (a0_3 : Int) (A0_4 : Option Addr) (c0_4 : Nat) (l0_4 : List (S24)) (a1_0 : ByteArray) (A1_1 : Option Addr) (c1_1 : Nat) (l1_1 : List (S24)) (A2 : Option Addr) (c2 : Nat) (l2 : List Int) (A3 : Option Addr) (c3 : Nat) (l3 : List Int) (r : Bool) (w : World) (hr0_4 : Kd.C k24 w A0_4 l0_4.length l0_4) (hc0_4 : l0_4.length ≤ c0_4) (hr1_1 : Kd.C k24 w A1_1 l1_1.length l1_1) (hc1_1 : l1_1.length ≤ c1_1) (hr2 : Kd.C (Kd.int .u8) w A2 l2.length l2) (hc2 : l2.length ≤ c2) (hr3 : Kd.C (Kd.int .u8) w A3 l3.length l3) (hc3 : l3.length ≤ c3) (h : windlasslaw2_CodecBack.f k a0_0 a0_1 a0_2 a0_3 l0_4 a1_0 l1_1 l2 l3 = some r) :
  Calls Try.prog 8 #[.agg #[.int .i64 a0_0, .int .i64 a0_1, .string a0_2, .int .i64 a0_3, .slice A0_4 l0_4.length c0_4], .agg #[.string a1_0, .slice A1_1 l1_1.length c1_1], .slice A2 l2.length c2, .slice A3 l3.length c3] w fun e w' => e = .returned (.bool r) ∧ Below w.heap.size w w' :=
  (windlasslaw2_CodecBack.p0 k a0_0 a0_1 a0_2 a0_3 A0_4 c0_4 l0_4 a1_0 A1_1 c1_1 l1_1 A2 c2 l2 A3 c3 l3 r w).ok ((windlasslaw2_CodecBack.p1 k a0_0 a0_1 a0_2 a0_3 A0_4 c0_4 l0_4 a1_0 A1_1 c1_1 l1_1 A2 c2 l2 A3 c3 l3 r w).ok ((windlasslaw2_CodecBack.p2 k a0_0 a0_1 a0_2 a0_3 A0_4 c0_4 l0_4 a1_0 A1_1 c1_1 l1_1 A2 c2 l2 A3 c3 l3 r w).ok (windlasslaw2_CodecBack.p3 k a0_0 a0_1 a0_2 a0_3 A0_4 c0_4 l0_4 a1_0 A1_1 c1_1 l1_1 A2 c2 l2 A3 c3 l3 r w))) hr0_4 hc0_4 hr1_1 hc1_1 hr2 hc2 hr3 hc3 h
/-- THE ONE PURE STATEMENT of windlasslaw2_CodecBack: yours. -/
def windlasslaw2_CodecBack.Pure : Prop:=∀ (x0 : S24) (x1 : S26) (x2 : List Int) (x3 : List Int),Wf24 x0 → Wf26 x1 → (x2.length ≤ maxLen ∧ x2.length * 1 ≤ 140737488351232 ∧ ∀ y ∈ x2,(Lit.int .u8 y).wf = true) → (x3.length ≤ maxLen ∧ x3.length * 1 ≤ 140737488351232 ∧ ∀ y ∈ x3,(Lit.int .u8 y).wf = true) → ∃ k,windlasslaw2_CodecBack.f k x0.f0 x0.f1 x0.f2 x0.f3 x0.f4 x1.f0 x1.f1 x2 x3 = some true
theorem windlasslaw2_CodecBack.walk (P : windlasslaw2_CodecBack.Pure) (x0 : S24) (A0_4 : Option Addr) (c0_4 : Nat) (x1 : S26) (A1_1 : Option Addr) (c1_1 : Nat) (x2 : List Int) (A2 : Option Addr) (c2 : Nat) (x3 : List Int) (A3 : Option Addr) (c3 : Nat) (w : World) (w0 : Wf24 x0) (r0_4 : Kd.C k24 w A0_4 x0.f4.length x0.f4) (m0_4 : x0.f4.length ≤ c0_4) (w1 : Wf26 x1) (r1_1 : Kd.C k24 w A1_1 x1.f1.length x1.f1) (m1_1 : x1.f1.length ≤ c1_1) (w2 : (x2.length ≤ maxLen ∧ x2.length * 1 ≤ 140737488351232 ∧ ∀ y ∈ x2,(Lit.int .u8 y).wf = true)) (r2 : Kd.C (Kd.int .u8) w A2 x2.length x2) (m2 : x2.length ≤ c2) (w3 : (x3.length ≤ maxLen ∧ x3.length * 1 ≤ 140737488351232 ∧ ∀ y ∈ x3,(Lit.int .u8 y).wf = true)) (r3 : Kd.C (Kd.int .u8) w A3 x3.length x3) (m3 : x3.length ≤ c3) :
  Calls Try.prog 8 #[.agg #[.int .i64 x0.f0, .int .i64 x0.f1, .string x0.f2, .int .i64 x0.f3, .slice A0_4 x0.f4.length c0_4], .agg #[.string x1.f0, .slice A1_1 x1.f1.length c1_1], .slice A2 x2.length c2, .slice A3 x3.length c3] w fun e w' => e = .returned (.bool true) ∧ Below w.heap.size w w':=by
 obtain ⟨k,h⟩:=P x0 x1 x2 x3 w0 w1 w2 w3
 refine (windlasslaw2_CodecBack.calls k x0.f0 x0.f1 x0.f2 x0.f3 _ _ x0.f4 x1.f0 _ _ x1.f1 _ _ x2 _ _ x3 true w r0_4 m0_4 r1_1 m1_1 r2 m2 r3 m3 h).mono ?_
 rintro e w' ⟨rfl,hd⟩
 exact ⟨rfl,hd⟩

end Go.Proofs.Ythbnblmnamckmaa.PAll
