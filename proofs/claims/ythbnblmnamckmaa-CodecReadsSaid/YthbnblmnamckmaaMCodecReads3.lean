-- Laid by a program of this seat (wip/merge.py): PAllx39, PAllx40, PAllx41, PAllx42, PAllx43.
import Derived.Test.YthbnblmnamckmaaMCodecReads0
import Derived.Test.YthbnblmnamckmaaMCodecReads2
import Derived.Laws.Cover1
-- Laid by a program of this seat (wip/xprint.py over the kit's print).
namespace Go.Proofs.Ythbnblmnamckmaa.PAll
open Go.RowKit Go.Proofs.YthbnblmnamckmaaW.PrintWords Go.Proofs.YthbnblmnamckmaaW.PrintLast Go.Proofs.YthbnblmnamckmaaW.PrintMore
attribute [local go_sem] max2_int min2_int max_two min_two max_three min_three max_four min_four   -- for this text's walks alone
set_option linter.unusedVariables false
set_option linter.unusedSimpArgs false

/-! ### windlassref2_value: function 41 -/
mutual
def windlassref2_value.j4 : Nat → Int → Int → Int → Int → ByteArray → Int → List (S24) → Option (Int × Int × ByteArray × Int × (List (S24)) × Int × Int)
 | 0,_,_,_,_,_,_,_ => none
 | k + 1,x8,x10,x527000,x527001,x527002,x527003,x527004 => if x10 = 0 then (some (x527000,x527001,x527002,x527003,x527004,wrap64 (1 + x8),0)) else (some (0,0,(⟨#[]⟩ : ByteArray),0,([] : List (S24)),0,20))
def windlassref2_value.j0 : Nat → List Int → Int → Bool → Int → Int → ByteArray → Int → Option (Int × Int × ByteArray × Int × (List (S24)) × Int × Int)
 | 0,_,_,_,_,_,_,_ => none
 | k + 1,x0,x10,x59,x527000,x527001,x527002,x527003 => if x59 = true then (some (0,0,(⟨#[]⟩ : ByteArray),0,([] : List (S24)),0,20)) else (if 1 < (x0.length : Int) then (windlassref2_value.j4 k 1 x10 x527000 (wrap64 (rd x0 1)) x527002 x527003 ([] : List (S24))) else (none))
def windlassref2_value.j1 : Nat → List Int → Bool → Int → Int → Int → Int → Int → Int → Int → ByteArray → Int → Option (Int × Int × ByteArray × Int × (List (S24)) × Int × Int)
 | 0,_,_,_,_,_,_,_,_,_,_,_ => none
 | k + 1,x0,x1,x8,x9,x10,x11,x12,x527000,x527001,x527002,x527003 => if x10 = 0 then (if x1 = true then (if x11 > 15 then (windlassref2_value.j2 k x0 x8 x9 x10 x11 x12 true x527000 x527001 x527002 x527003) else (windlassref2_value.j2 k x0 x8 x9 x10 x11 x12 (decide (x12 > 12)) x527000 x527001 x527002 x527003)) else (windlassref2_value.j2 k x0 x8 x9 x10 x11 x12 true x527000 x527001 x527002 x527003)) else (windlassref2_value.j2 k x0 x8 x9 x10 x11 x12 true x527000 x527001 x527002 x527003)
def windlassref2_value.j2 : Nat → List Int → Int → Int → Int → Int → Int → Bool → Int → Int → ByteArray → Int → Option (Int × Int × ByteArray × Int × (List (S24)) × Int × Int)
 | 0,_,_,_,_,_,_,_,_,_,_,_ => none
 | k + 1,x0,x8,x9,x10,x11,x12,x99,x527000,x527001,x527002,x527003 => if x99 = true then (some (0,0,(⟨#[]⟩ : ByteArray),0,([] : List (S24)),0,20)) else (windlassref2_value.l0 k x0 (wrap64 (x8 + x9)) x10 x12 0 x527000 x527001 x527002 (wrap64 (x11)) ([] : List (S24)))
def windlassref2_value.l0 : Nat → List Int → Int → Int → Int → Int → Int → Int → ByteArray → Int → List (S24) → Option (Int × Int × ByteArray × Int × (List (S24)) × Int × Int)
 | 0,_,_,_,_,_,_,_,_,_,_ => none
 | k + 1,x0,x8,x10,x12,x13,x527000,x527001,x527002,x527003,x527004 => if x13 < x12 then (if 0 ≤ (wrap64 (1 + x8)) then (if (wrap64 (1 + x8)) ≤ (x0.length : Int) then ((windlassref2_value.f k (x0.drop ((wrap64 (1 + x8)) : Int).toNat) false).bind fun bt546 => (if bt546.2.2.2.2.2.2 = 0 then (if x527004.length < 2199023255552 then (windlassref2_value.l0 k x0 (wrap64 (x8 + bt546.2.2.2.2.2.1)) x10 x12 (IntKind.u64.wrap (x13 + 1)) x527000 x527001 x527002 x527003 (x527004 ++ [(⟨bt546.1,bt546.2.1,bt546.2.2.1,bt546.2.2.2.1,bt546.2.2.2.2.1⟩ : S24)])) else (none)) else (some (0,0,(⟨#[]⟩ : ByteArray),0,([] : List (S24)),0,20)))) else (none)) else (none)) else (windlassref2_value.j4 k x8 x10 x527000 x527001 x527002 x527003 x527004)
def windlassref2_value.f : Nat → List Int → Bool → Option (Int × Int × ByteArray × Int × (List (S24)) × Int × Int)
 | 0,_,_ => none
 | k + 1,l0,a1 => if (l0.length : Int) = 0 then (some (0,0,(⟨#[]⟩ : ByteArray),0,([] : List (S24)),0,20)) else (if 0 < (l0.length : Int) then (if (wrap64 (rd l0 0)) = 1 then (if 1 ≤ (l0.length : Int) then ((windlassref2_Int.f k (l0.drop 1)).bind fun bt528 => (windlassref2_value.j4 k bt528.2.1 bt528.2.2 (wrap64 (rd l0 0)) bt528.1 (⟨#[]⟩ : ByteArray) 0 ([] : List (S24)))) else (none)) else (if (wrap64 (rd l0 0)) = 2 then (if 1 ≤ (l0.length : Int) then ((windlassref2_text.f k (l0.drop 1) 64).bind fun bt532 => (windlassref2_value.j4 k bt532.2.1 bt532.2.2 (wrap64 (rd l0 0)) 0 bt532.1 0 ([] : List (S24)))) else (none)) else (if (wrap64 (rd l0 0)) = 3 then (if (l0.length : Int) < 2 then (windlassref2_value.j0 k l0 0 true (wrap64 (rd l0 0)) 0 (⟨#[]⟩ : ByteArray) 0) else (if 1 < (l0.length : Int) then (windlassref2_value.j0 k l0 0 (decide ((rd l0 1) > 1)) (wrap64 (rd l0 0)) 0 (⟨#[]⟩ : ByteArray) 0) else (none))) else (if (wrap64 (rd l0 0)) = 4 then (if 1 ≤ (l0.length : Int) then ((windlassref2_Uint.f k (l0.drop 1)).bind fun bt538 => (if bt538.2.2 = 0 then (if 0 ≤ (wrap64 (1 + bt538.2.1)) then (if (wrap64 (1 + bt538.2.1)) ≤ (l0.length : Int) then ((windlassref2_Uint.f k (l0.drop ((wrap64 (1 + bt538.2.1)) : Int).toNat)).bind fun bt542 => (windlassref2_value.j1 k l0 a1 bt538.2.1 bt542.2.1 bt542.2.2 bt538.1 bt542.1 (wrap64 (rd l0 0)) 0 (⟨#[]⟩ : ByteArray) 0)) else (none)) else (none)) else (windlassref2_value.j1 k l0 a1 bt538.2.1 0 bt538.2.2 bt538.1 0 (wrap64 (rd l0 0)) 0 (⟨#[]⟩ : ByteArray) 0))) else (none)) else (some (0,0,(⟨#[]⟩ : ByteArray),0,([] : List (S24)),0,20)))))) else (none))
end
theorem windlassref2_value.mono_l : ∀ k,(∀ y0 y1,LeO (windlassref2_value.f k y0 y1) (windlassref2_value.f (k + 1) y0 y1)) ∧ (∀ y0 y1 y2 y3 y4 y5 y6,LeO (windlassref2_value.j4 k y0 y1 y2 y3 y4 y5 y6) (windlassref2_value.j4 (k + 1) y0 y1 y2 y3 y4 y5 y6)) ∧ (∀ y0 y1 y2 y3 y4 y5 y6,LeO (windlassref2_value.j0 k y0 y1 y2 y3 y4 y5 y6) (windlassref2_value.j0 (k + 1) y0 y1 y2 y3 y4 y5 y6)) ∧ (∀ y0 y1 y2 y3 y4 y5 y6 y7 y8 y9 y10,LeO (windlassref2_value.j1 k y0 y1 y2 y3 y4 y5 y6 y7 y8 y9 y10) (windlassref2_value.j1 (k + 1) y0 y1 y2 y3 y4 y5 y6 y7 y8 y9 y10)) ∧ (∀ y0 y1 y2 y3 y4 y5 y6 y7 y8 y9 y10,LeO (windlassref2_value.j2 k y0 y1 y2 y3 y4 y5 y6 y7 y8 y9 y10) (windlassref2_value.j2 (k + 1) y0 y1 y2 y3 y4 y5 y6 y7 y8 y9 y10)) ∧ (∀ y0 y1 y2 y3 y4 y5 y6 y7 y8 y9,LeO (windlassref2_value.l0 k y0 y1 y2 y3 y4 y5 y6 y7 y8 y9) (windlassref2_value.l0 (k + 1) y0 y1 y2 y3 y4 y5 y6 y7 y8 y9))
 | 0 => ⟨fun _ _ r h => by simp [windlassref2_value.f] at h,fun _ _ _ _ _ _ _ r h => by simp [windlassref2_value.j4] at h,fun _ _ _ _ _ _ _ r h => by simp [windlassref2_value.j0] at h,fun _ _ _ _ _ _ _ _ _ _ _ r h => by simp [windlassref2_value.j1] at h,fun _ _ _ _ _ _ _ _ _ _ _ r h => by simp [windlassref2_value.j2] at h,fun _ _ _ _ _ _ _ _ _ _ r h => by simp [windlassref2_value.l0] at h⟩
 | k + 1 => by
  obtain ⟨ih0,ih1,ih2,ih3,ih4,ih5⟩:=windlassref2_value.mono_l k
  refine ⟨?_,?_,?_,?_,?_,?_⟩
  ·intro y0 y1
   unfold windlassref2_value.f
   repeat' first
   | (with_reducible exact ih0 _ _)
   | (with_reducible exact ih1 _ _ _ _ _ _ _)
   | (with_reducible exact ih2 _ _ _ _ _ _ _)
   | (with_reducible exact ih3 _ _ _ _ _ _ _ _ _ _ _)
   | (with_reducible exact ih4 _ _ _ _ _ _ _ _ _ _ _)
   | (with_reducible exact ih5 _ _ _ _ _ _ _ _ _ _)
   | (with_reducible exact windlassref2_Int.mono _ _)
   | (with_reducible exact windlassref2_Uint.mono _ _)
   | (with_reducible exact windlassref2_text.mono _ _ _)
   | (with_reducible exact LeO.refl _)
   | (with_reducible exact LeO.none _)
   | (with_reducible refine LeO.ite ?_ ?_)
   | (with_reducible refine LeO.bind ?_ (fun _ => ?_))
   | exact ih0 _ _
   | exact ih1 _ _ _ _ _ _ _
   | exact ih2 _ _ _ _ _ _ _
   | exact ih3 _ _ _ _ _ _ _ _ _ _ _
   | exact ih4 _ _ _ _ _ _ _ _ _ _ _
   | exact ih5 _ _ _ _ _ _ _ _ _ _
   | exact windlassref2_Int.mono _ _
   | exact windlassref2_Uint.mono _ _
   | exact windlassref2_text.mono _ _ _
   | exact LeO.none _
   | refine LeO.ite ?_ ?_
   | refine LeO.bind ?_ (fun _ => ?_)
  ·intro y0 y1 y2 y3 y4 y5 y6
   unfold windlassref2_value.j4
   repeat' first
   | (with_reducible exact ih0 _ _)
   | (with_reducible exact ih1 _ _ _ _ _ _ _)
   | (with_reducible exact ih2 _ _ _ _ _ _ _)
   | (with_reducible exact ih3 _ _ _ _ _ _ _ _ _ _ _)
   | (with_reducible exact ih4 _ _ _ _ _ _ _ _ _ _ _)
   | (with_reducible exact ih5 _ _ _ _ _ _ _ _ _ _)
   | (with_reducible exact windlassref2_Int.mono _ _)
   | (with_reducible exact windlassref2_Uint.mono _ _)
   | (with_reducible exact windlassref2_text.mono _ _ _)
   | (with_reducible exact LeO.refl _)
   | (with_reducible exact LeO.none _)
   | (with_reducible refine LeO.ite ?_ ?_)
   | (with_reducible refine LeO.bind ?_ (fun _ => ?_))
   | exact ih0 _ _
   | exact ih1 _ _ _ _ _ _ _
   | exact ih2 _ _ _ _ _ _ _
   | exact ih3 _ _ _ _ _ _ _ _ _ _ _
   | exact ih4 _ _ _ _ _ _ _ _ _ _ _
   | exact ih5 _ _ _ _ _ _ _ _ _ _
   | exact windlassref2_Int.mono _ _
   | exact windlassref2_Uint.mono _ _
   | exact windlassref2_text.mono _ _ _
   | exact LeO.none _
   | refine LeO.ite ?_ ?_
   | refine LeO.bind ?_ (fun _ => ?_)
  ·intro y0 y1 y2 y3 y4 y5 y6
   unfold windlassref2_value.j0
   repeat' first
   | (with_reducible exact ih0 _ _)
   | (with_reducible exact ih1 _ _ _ _ _ _ _)
   | (with_reducible exact ih2 _ _ _ _ _ _ _)
   | (with_reducible exact ih3 _ _ _ _ _ _ _ _ _ _ _)
   | (with_reducible exact ih4 _ _ _ _ _ _ _ _ _ _ _)
   | (with_reducible exact ih5 _ _ _ _ _ _ _ _ _ _)
   | (with_reducible exact windlassref2_Int.mono _ _)
   | (with_reducible exact windlassref2_Uint.mono _ _)
   | (with_reducible exact windlassref2_text.mono _ _ _)
   | (with_reducible exact LeO.refl _)
   | (with_reducible exact LeO.none _)
   | (with_reducible refine LeO.ite ?_ ?_)
   | (with_reducible refine LeO.bind ?_ (fun _ => ?_))
   | exact ih0 _ _
   | exact ih1 _ _ _ _ _ _ _
   | exact ih2 _ _ _ _ _ _ _
   | exact ih3 _ _ _ _ _ _ _ _ _ _ _
   | exact ih4 _ _ _ _ _ _ _ _ _ _ _
   | exact ih5 _ _ _ _ _ _ _ _ _ _
   | exact windlassref2_Int.mono _ _
   | exact windlassref2_Uint.mono _ _
   | exact windlassref2_text.mono _ _ _
   | exact LeO.none _
   | refine LeO.ite ?_ ?_
   | refine LeO.bind ?_ (fun _ => ?_)
  ·intro y0 y1 y2 y3 y4 y5 y6 y7 y8 y9 y10
   unfold windlassref2_value.j1
   repeat' first
   | (with_reducible exact ih0 _ _)
   | (with_reducible exact ih1 _ _ _ _ _ _ _)
   | (with_reducible exact ih2 _ _ _ _ _ _ _)
   | (with_reducible exact ih3 _ _ _ _ _ _ _ _ _ _ _)
   | (with_reducible exact ih4 _ _ _ _ _ _ _ _ _ _ _)
   | (with_reducible exact ih5 _ _ _ _ _ _ _ _ _ _)
   | (with_reducible exact windlassref2_Int.mono _ _)
   | (with_reducible exact windlassref2_Uint.mono _ _)
   | (with_reducible exact windlassref2_text.mono _ _ _)
   | (with_reducible exact LeO.refl _)
   | (with_reducible exact LeO.none _)
   | (with_reducible refine LeO.ite ?_ ?_)
   | (with_reducible refine LeO.bind ?_ (fun _ => ?_))
   | exact ih0 _ _
   | exact ih1 _ _ _ _ _ _ _
   | exact ih2 _ _ _ _ _ _ _
   | exact ih3 _ _ _ _ _ _ _ _ _ _ _
   | exact ih4 _ _ _ _ _ _ _ _ _ _ _
   | exact ih5 _ _ _ _ _ _ _ _ _ _
   | exact windlassref2_Int.mono _ _
   | exact windlassref2_Uint.mono _ _
   | exact windlassref2_text.mono _ _ _
   | exact LeO.none _
   | refine LeO.ite ?_ ?_
   | refine LeO.bind ?_ (fun _ => ?_)
  ·intro y0 y1 y2 y3 y4 y5 y6 y7 y8 y9 y10
   unfold windlassref2_value.j2
   repeat' first
   | (with_reducible exact ih0 _ _)
   | (with_reducible exact ih1 _ _ _ _ _ _ _)
   | (with_reducible exact ih2 _ _ _ _ _ _ _)
   | (with_reducible exact ih3 _ _ _ _ _ _ _ _ _ _ _)
   | (with_reducible exact ih4 _ _ _ _ _ _ _ _ _ _ _)
   | (with_reducible exact ih5 _ _ _ _ _ _ _ _ _ _)
   | (with_reducible exact windlassref2_Int.mono _ _)
   | (with_reducible exact windlassref2_Uint.mono _ _)
   | (with_reducible exact windlassref2_text.mono _ _ _)
   | (with_reducible exact LeO.refl _)
   | (with_reducible exact LeO.none _)
   | (with_reducible refine LeO.ite ?_ ?_)
   | (with_reducible refine LeO.bind ?_ (fun _ => ?_))
   | exact ih0 _ _
   | exact ih1 _ _ _ _ _ _ _
   | exact ih2 _ _ _ _ _ _ _
   | exact ih3 _ _ _ _ _ _ _ _ _ _ _
   | exact ih4 _ _ _ _ _ _ _ _ _ _ _
   | exact ih5 _ _ _ _ _ _ _ _ _ _
   | exact windlassref2_Int.mono _ _
   | exact windlassref2_Uint.mono _ _
   | exact windlassref2_text.mono _ _ _
   | exact LeO.none _
   | refine LeO.ite ?_ ?_
   | refine LeO.bind ?_ (fun _ => ?_)
  ·intro y0 y1 y2 y3 y4 y5 y6 y7 y8 y9
   unfold windlassref2_value.l0
   repeat' first
   | (with_reducible exact ih0 _ _)
   | (with_reducible exact ih1 _ _ _ _ _ _ _)
   | (with_reducible exact ih2 _ _ _ _ _ _ _)
   | (with_reducible exact ih3 _ _ _ _ _ _ _ _ _ _ _)
   | (with_reducible exact ih4 _ _ _ _ _ _ _ _ _ _ _)
   | (with_reducible exact ih5 _ _ _ _ _ _ _ _ _ _)
   | (with_reducible exact windlassref2_Int.mono _ _)
   | (with_reducible exact windlassref2_Uint.mono _ _)
   | (with_reducible exact windlassref2_text.mono _ _ _)
   | (with_reducible exact LeO.refl _)
   | (with_reducible exact LeO.none _)
   | (with_reducible refine LeO.ite ?_ ?_)
   | (with_reducible refine LeO.bind ?_ (fun _ => ?_))
   | exact ih0 _ _
   | exact ih1 _ _ _ _ _ _ _
   | exact ih2 _ _ _ _ _ _ _
   | exact ih3 _ _ _ _ _ _ _ _ _ _ _
   | exact ih4 _ _ _ _ _ _ _ _ _ _ _
   | exact ih5 _ _ _ _ _ _ _ _ _ _
   | exact windlassref2_Int.mono _ _
   | exact windlassref2_Uint.mono _ _
   | exact windlassref2_text.mono _ _ _
   | exact LeO.none _
   | refine LeO.ite ?_ ?_
   | refine LeO.bind ?_ (fun _ => ?_)
theorem windlassref2_value.mono : ∀ a0 a1 k,LeO (windlassref2_value.f k a0 a1) (windlassref2_value.f (k + 1) a0 a1):=by
 intro a0 a1 k
 obtain ⟨ih0,ih1,ih2,ih3,ih4,ih5⟩:=windlassref2_value.mono_l k
 exact ih0 a0 a1
set_option maxHeartbeats 8000000 in
set_option maxRecDepth 100000 in
theorem windlassref2_value.calls (k : Nat) : ∀ (A0 : Option Addr) (c0 : Nat) (l0 : List Int) (a1 : Bool) (r1 : Int) (r2 : Int) (r3 : ByteArray) (r4 : Int) (r5 : List (S24)) (r6 : Int) (r7 : Int) (w : World) (hr0 : Kd.C (Kd.int .u8) w A0 l0.length l0) (hc0 : l0.length ≤ c0) (h : windlassref2_value.f k l0 a1 = some (r1,r2,r3,r4,r5,r6,r7)),
  Calls Try.prog 41 #[.slice A0 l0.length c0, .bool a1] w fun e w' => ∃ v4_ : Value,e = .returned (.tuple #[.agg #[.int .i64 r1, .int .i64 r2, .string r3, .int .i64 r4,v4_], .int .i64 r6, .int .i64 r7]) ∧ Kd.R k24 24 w' w.heap.size (fun _ => True) v4_ r5 ∧ Below w.heap.size w w':=by
 induction k using Nat.strongRecOn with
 | _ k ih =>
 intro A0 c0 l0 a1 r1 r2 r3 r4 r5 r6 r7 w hr0 hc0 h
 cases k with
 | zero => exact absurd h (by simp [windlassref2_value.f])
 | succ k =>
 simp only [windlassref2_value.f] at h
 have hu24:=Try.underlying24
 have HR0:=Aside0.mk hr0
 have HC0:=Aside0.mk hc0
 clear hr0 hc0
 have HB:=Aside0.mk (Below.refl w.heap.size w)
 have H : (if (l0.length : Int) = 0 then (some (0,0,(⟨#[]⟩ : ByteArray),0,([] : List (S24)),0,20)) else (if 0 < (l0.length : Int) then (if (wrap64 (rd l0 0)) = 1 then (if 1 ≤ (l0.length : Int) then ((windlassref2_Int.f k (l0.drop 1)).bind fun bt528 => (windlassref2_value.j4 k bt528.2.1 bt528.2.2 (wrap64 (rd l0 0)) bt528.1 (⟨#[]⟩ : ByteArray) 0 ([] : List (S24)))) else (none)) else (if (wrap64 (rd l0 0)) = 2 then (if 1 ≤ (l0.length : Int) then ((windlassref2_text.f k (l0.drop 1) 64).bind fun bt532 => (windlassref2_value.j4 k bt532.2.1 bt532.2.2 (wrap64 (rd l0 0)) 0 bt532.1 0 ([] : List (S24)))) else (none)) else (if (wrap64 (rd l0 0)) = 3 then (if (l0.length : Int) < 2 then (windlassref2_value.j0 k l0 0 true (wrap64 (rd l0 0)) 0 (⟨#[]⟩ : ByteArray) 0) else (if 1 < (l0.length : Int) then (windlassref2_value.j0 k l0 0 (decide ((rd l0 1) > 1)) (wrap64 (rd l0 0)) 0 (⟨#[]⟩ : ByteArray) 0) else (none))) else (if (wrap64 (rd l0 0)) = 4 then (if 1 ≤ (l0.length : Int) then ((windlassref2_Uint.f k (l0.drop 1)).bind fun bt538 => (if bt538.2.2 = 0 then (if 0 ≤ (wrap64 (1 + bt538.2.1)) then (if (wrap64 (1 + bt538.2.1)) ≤ (l0.length : Int) then ((windlassref2_Uint.f k (l0.drop ((wrap64 (1 + bt538.2.1)) : Int).toNat)).bind fun bt542 => (windlassref2_value.j1 k l0 a1 bt538.2.1 bt542.2.1 bt542.2.2 bt538.1 bt542.1 (wrap64 (rd l0 0)) 0 (⟨#[]⟩ : ByteArray) 0)) else (none)) else (none)) else (windlassref2_value.j1 k l0 a1 bt538.2.1 0 bt538.2.2 bt538.1 0 (wrap64 (rd l0 0)) 0 (⟨#[]⟩ : ByteArray) 0))) else (none)) else (some (0,0,(⟨#[]⟩ : ByteArray),0,([] : List (S24)),0,20)))))) else (none))) = some (r1,r2,r3,r4,r5,r6,r7):=h
 clear h
 by_cases c3 : (l0.length : Int) = 0
 ·rw [if_pos c3] at H
  have c3b0 : ((l0.length : Int) == 0) = true:=beq_iff_eq.mpr c3
  have c3b1 : ((l0.length : Int) != 0) = false:=bne_eq_false_iff_eq.mpr c3
  clear c3
  simp only [Option.some.injEq,Prod.mk.injEq] at H
  obtain ⟨rfl,rfl,rfl,rfl,rfl,rfl,rfl⟩:=H
  go_enter Try.func41,Try.ntmps41
  go_wp2_with (first|((with_reducible refine gate_dst (N:=4) rfl ?_);refine box_event ?hg (N:=4) ?hd (cs:=#[.int .i64 0, .int .i64 0, .string (⟨#[]⟩ : ByteArray), .int .i64 0, .slice none 0 0]) (t:=24) ?hr ?_;(case hd => rfl);(case hg => rfl);(case hr => first|(go_simp;done)|(go_simp;rfl));intro gb524 hg w4 hbox hb;have n0_:=Aside0.mk (below_step (by repeat (first|(with_reducible first|exact HB.out|apply below_alloc|apply pw_below_drewN|apply below_drew1)|exact HB.out)) hb);have n1_:=Aside0.mk (hbox);have n2_:=Aside0.mk ((by rw [hg];exact (below_size (by repeat (first|(with_reducible first|exact HB.out|apply below_alloc|apply pw_below_drewN|apply below_drew1)|exact HB.out))) : w.heap.size ≤ gb524));have n3_:=Aside0.mk ((by rw [hg];exact (below_size (by repeat (first|(with_reducible first|exact HB.out|apply below_alloc|apply pw_below_drewN|apply below_drew1)|exact HB.out))) : w.heap.size ≤ gb524));clear HB;have HB:=n0_;have BK524:=n1_;have GW524:=n2_;have GE524:=n3_;clear n0_ n1_ n2_ n3_;clear hb hbox hg;have hcz5_0 : w4.cell? ⟨gb524,0,none⟩ = some (.int .i64 0):=(blk_cell BK524.out 0).trans rfl;have hcz5_1 : w4.cell? ⟨gb524,1,none⟩ = some (.int .i64 0):=(blk_cell BK524.out 1).trans rfl;have hcz5_2 : w4.cell? ⟨gb524,2,none⟩ = some (.string (⟨#[]⟩ : ByteArray)):=(blk_cell BK524.out 2).trans rfl;have hcz5_3 : w4.cell? ⟨gb524,3,none⟩ = some (.int .i64 0):=(blk_cell BK524.out 3).trans rfl;have hcz5_4 : w4.cell? ⟨gb524,4,none⟩ = some (.slice none 0 0):=(blk_cell BK524.out 4).trans rfl;have hfz5_0:=blk_frozen BK524.out 0;have hfz5_1:=blk_frozen BK524.out 1;have hfz5_2:=blk_frozen BK524.out 2;have hfz5_3:=blk_frozen BK524.out 3;have hfz5_4:=blk_frozen BK524.out 4))
  refine bodyPost_ret (results_ctt rfl _ _ gb524 24 #[.int .i64 0, .int .i64 0, .string (⟨#[]⟩ : ByteArray), .int .i64 0, .slice none 0 0] (0,0) _ rfl (by (with_reducible repeat (first|refine blk_drewN ?_ _|refine blk_drew ?_|refine blk_alloc ?_ _));refine blk_put (cs:=#[.int .i64 0, .int .i64 0, .string (⟨#[]⟩ : ByteArray), .int .i64 0, .slice none 0 0]) ?_ 4 _ rfl;(with_reducible repeat (first|refine blk_drewN ?_ _|refine blk_drew ?_|refine blk_alloc ?_ _));refine blk_put (cs:=#[.int .i64 0, .int .i64 0, .string (⟨#[]⟩ : ByteArray), .int .i64 0, .slice none 0 0]) ?_ 3 _ rfl;(with_reducible repeat (first|refine blk_drewN ?_ _|refine blk_drew ?_|refine blk_alloc ?_ _));refine blk_put (cs:=#[.int .i64 0, .int .i64 0, .string (⟨#[]⟩ : ByteArray), .int .i64 0, .slice none 0 0]) ?_ 2 _ rfl;(with_reducible repeat (first|refine blk_drewN ?_ _|refine blk_drew ?_|refine blk_alloc ?_ _));refine blk_put (cs:=#[.int .i64 0, .int .i64 0, .string (⟨#[]⟩ : ByteArray), .int .i64 0, .slice none 0 0]) ?_ 1 _ rfl;(with_reducible repeat (first|refine blk_drewN ?_ _|refine blk_drew ?_|refine blk_alloc ?_ _));refine blk_put (cs:=#[.int .i64 0, .int .i64 0, .string (⟨#[]⟩ : ByteArray), .int .i64 0, .slice none 0 0]) ?_ 0 _ rfl;(with_reducible repeat (first|refine blk_drewN ?_ _|refine blk_drew ?_|refine blk_alloc ?_ _));exact BK524.out) Try.underlying24 rfl (by kernel_rfl)) rfl ?_
  exact ⟨_,by first|rfl|(simp [errW_none,errW_some] <;> rfl)|(simp [*,errW_none,errW_some] <;> rfl),by first|exact Kd.R_nil _ _ _ _ _|exact Kd.N_nil _ _ _ _ _|exact Kd.V_nil _ _ _ _ _|exact Kd.Q_nil _ _ _ _ _|exact Kd.S_nil _ _ _ _ _,by repeat (first|(with_reducible first|exact HB.out|apply below_alloc|apply pw_below_drewN|apply below_drew1|refine below_set ?_ GE524.out)|exact HB.out)⟩
 ·rw [if_neg c3] at H
  have c3b0 : ((l0.length : Int) == 0) = false:=beq_eq_false_iff_ne.mpr c3
  have c3b1 : ((l0.length : Int) != 0) = true:=bne_iff_ne.mpr c3
  have c3b2 : ¬ (l0 = []):=fun h_ => c3 (by rw [h_];rfl)
  by_cases c6 : 0 < (l0.length : Int)
  ·rw [if_pos c6] at H
   have c6b0 : decide (0 < (l0.length : Int)) = true:=decide_eq_true c6
   have c6b1 : decide (0 < l0.length) = true:=decide_eq_true (by omega)
   clear c6
   have HC7:=Aside0.mk H
   clear H
   go_enter Try.func41,Try.ntmps41
   go_upto_block 0 with (first|((with_reducible refine gate_dst (N:=4) rfl ?_);refine box_event ?hg (N:=4) ?hd (cs:=#[.int .i64 0, .int .i64 0, .string (⟨#[]⟩ : ByteArray), .int .i64 0, .slice none 0 0]) (t:=24) ?hr ?_;(case hd => rfl);(case hg => rfl);(case hr => first|(go_simp;done)|(go_simp;rfl));intro gb524 hg w8 hbox hb;have n0_:=Aside0.mk (below_step (by repeat (first|(with_reducible first|exact HB.out|apply below_alloc|apply pw_below_drewN|apply below_drew1)|exact HB.out)) hb);have n1_:=Aside0.mk (hbox);have n2_:=Aside0.mk ((by rw [hg];exact (below_size (by repeat (first|(with_reducible first|exact HB.out|apply below_alloc|apply pw_below_drewN|apply below_drew1)|exact HB.out))) : w.heap.size ≤ gb524));have n3_:=Aside0.mk ((by rw [hg];exact (below_size (by repeat (first|(with_reducible first|exact HB.out|apply below_alloc|apply pw_below_drewN|apply below_drew1)|exact HB.out))) : w.heap.size ≤ gb524));clear HB;have HB:=n0_;have BK524:=n1_;have GW524:=n2_;have GE524:=n3_;clear n0_ n1_ n2_ n3_;clear hb hbox hg;have p525 : 0 ≤ (0 : Int):=(by omega);have q525 : 0 < (l0.length : Int):=of_decide_eq_true (by first|(with_reducible assumption)|assumption);obtain ⟨ad525,e525,hx525_0⟩:=Kd.at_int HR0.out 0 p525 q525;cases e525;have qi525 : (0 < l0.length) = True:=eq_true (by omega);(try rw [show ((0 : Int)).toNat = 0 from rfl] at hx525_0);(try rw [Addr.add_zero'] at hx525_0);replace hx525_0:=(HB.out.cell (World.block_lt_of_cell? w _ hx525_0)).trans hx525_0;replace p525:=eq_true p525;replace q525:=eq_true q525)|((with_reducible refine gate_dst (N:=7) rfl ?_);refine box_event ?hg (N:=7) ?hd (cs:=#[.int .i64 0, .int .i64 0, .string (⟨#[]⟩ : ByteArray), .int .i64 0, .slice none 0 0]) (t:=24) ?hr ?_;(case hd => rfl);(case hg => rfl);(case hr => first|(go_simp;done)|(go_simp;rfl));intro gb526 hg w9 hbox hb;have n0_:=Aside0.mk (blk_below (g:=gb524) (o := .cells #[.int .i64 0, .int .i64 0, .string (⟨#[]⟩ : ByteArray), .int .i64 0, .slice none 0 0] 24 (0,0)) (by (with_reducible repeat (first|refine blk_drewN ?_ _|refine blk_drew ?_|refine blk_alloc ?_ _));exact BK524.out) hb);have n1_:=Aside0.mk (below_step (by repeat (first|(with_reducible first|exact HB.out|apply below_alloc|apply pw_below_drewN|apply below_drew1|refine below_set ?_ GE524.out)|exact HB.out)) hb);have n2_:=Aside0.mk (hbox);have n3_:=Aside0.mk ((by rw [hg];exact (below_size (by repeat (first|(with_reducible first|exact HB.out|apply below_alloc|apply pw_below_drewN|apply below_drew1|refine below_set ?_ GE524.out)|exact HB.out))) : w.heap.size ≤ gb526));have n4_:=Aside0.mk ((by rw [hg];exact (below_size (by repeat (first|(with_reducible first|exact HB.out|apply below_alloc|apply pw_below_drewN|apply below_drew1|refine below_set ?_ GE524.out)|exact HB.out))) : w.heap.size ≤ gb526));have n5_:=Aside0.mk ((by rw [hg];exact Nat.ne_of_lt (blk_lt (g:=gb524) (o := .cells #[.int .i64 0, .int .i64 0, .string (⟨#[]⟩ : ByteArray), .int .i64 0, .slice none 0 0] 24 (0,0)) (by (with_reducible repeat (first|refine blk_drewN ?_ _|refine blk_drew ?_|refine blk_alloc ?_ _));exact BK524.out)) : gb524 ≠ gb526));have n6_:=Aside0.mk ((by rw [hg];exact Nat.ne_of_gt (blk_lt (g:=gb524) (o := .cells #[.int .i64 0, .int .i64 0, .string (⟨#[]⟩ : ByteArray), .int .i64 0, .slice none 0 0] 24 (0,0)) (by (with_reducible repeat (first|refine blk_drewN ?_ _|refine blk_drew ?_|refine blk_alloc ?_ _));exact BK524.out)) : gb526 ≠ gb524));clear BK524;clear HB;have BK524:=n0_;have HB:=n1_;have BK526:=n2_;have GW526:=n3_;have GE526:=n4_;have NB524_526:=n5_;have NB526_524:=n6_;clear n0_ n1_ n2_ n3_ n4_ n5_ n6_;clear hb hbox hg;have hnb10:=NB526_524.out;have hnc10:=NB524_526.out;have hcz11_0 : w9.cell? ⟨gb526,0,none⟩ = some (.int .i64 0):=(blk_cell BK526.out 0).trans rfl;have hcz11_1 : w9.cell? ⟨gb526,1,none⟩ = some (.int .i64 0):=(blk_cell BK526.out 1).trans rfl;have hcz11_2 : w9.cell? ⟨gb526,2,none⟩ = some (.string (⟨#[]⟩ : ByteArray)):=(blk_cell BK526.out 2).trans rfl;have hcz11_3 : w9.cell? ⟨gb526,3,none⟩ = some (.int .i64 0):=(blk_cell BK526.out 3).trans rfl;have hcz11_4 : w9.cell? ⟨gb526,4,none⟩ = some (.slice none 0 0):=(blk_cell BK526.out 4).trans rfl;have hfz11_0:=blk_frozen BK526.out 0;have hfz11_1:=blk_frozen BK526.out 1;have hfz11_2:=blk_frozen BK526.out 2;have hfz11_3:=blk_frozen BK526.out 3;have hfz11_4:=blk_frozen BK526.out 4))
   (try simp only [Act.put,List.setIfInBounds_toArray,List.set_cons_zero,List.set_cons_succ])
   go_cut [8,10] (fun v8 v10 wc => ∃ (kq : Nat) (x8_6 : Int) (x10_6 : Int) (x525000_6 : Int) (x525001_6 : Int) (x525002_6 : ByteArray) (x525003_6 : Int) (x527001_6 : Int) (x527002_6 : ByteArray) (x527003_6 : Int) (x527004_6 : List (S24)) (u527004 : Value),v8 = .int .i64 x8_6 ∧ v10 = .int .i64 x10_6 ∧ Aside0 (windlassref2_value.j4 kq x8_6 x10_6 (wrap64 (rd l0 0)) x527001_6 x527002_6 x527003_6 x527004_6 = some (r1,r2,r3,r4,r5,r6,r7)) ∧ Aside0 (kq ≤ k) ∧ Aside0 (Kd.R k24 24 wc w.heap.size (fun k_ => k_ ≠ gb524 ∧ k_ ≠ gb526) u527004 x527004_6) ∧ Aside0 (wc.heap[gb524]? = some (.cells #[.int .i64 x525000_6, .int .i64 x525001_6, .string x525002_6, .int .i64 x525003_6,(.slice none 0 0)] 24 (0,0))) ∧ Aside0 (wc.heap[gb526]? = some (.cells #[.int .i64 (wrap64 (rd l0 0)), .int .i64 x527001_6, .string x527002_6, .int .i64 x527003_6,u527004] 24 (0,0))) ∧ Aside0 (Below w.heap.size w wc))
   case first =>
    have H:=HC7.out
    clear HC7
    by_cases c12 : (wrap64 (rd l0 0)) = 1
    ·rw [if_pos c12] at H
     have c12b0 : ((wrap64 (rd l0 0)) == 1) = true:=beq_iff_eq.mpr c12
     have c12b1 : ((wrap64 (rd l0 0)) != 1) = false:=bne_eq_false_iff_eq.mpr c12
     clear c12
     (first|rw [c12b0]|(simp only [i64_w,i32_w];rw [c12b0])|skip)
     by_cases c13 : 1 ≤ (l0.length : Int)
     ·rw [if_pos c13] at H
      have c13b0:=eq_true c13
      have c13b1 : decide (1 ≤ (l0.length : Int)) = true:=decide_eq_true c13
      clear c13
      replace H:=Option.bind_eq_some_iff.mp H
      obtain ⟨⟨t528,t529,t530⟩,A140,H⟩:=H
      replace H : (windlassref2_value.j4 k t529 t530 (wrap64 (rd l0 0)) t528 (⟨#[]⟩ : ByteArray) 0 ([] : List (S24))) = some (r1,r2,r3,r4,r5,r6,r7):=H
      have A14:=Aside0.mk A140
      clear A140
      have H':=Aside0.mk H
      clear H
      obtain ⟨i015,hi015,_,hsz15,_⟩:=info_parts info5
      obtain ⟨A15,hcut15,hA15,hC15⟩:=print_drop_of (P:=Try.prog) (Value.int .u8) 0 30 5 .i64 Try.underlying30 hi015 hsz15 (some ad525) c0 l0 1 (by omega) (of_decide_eq_true (by first|(with_reducible assumption)|assumption)) HC0.out
      have HR527:=Aside0.mk (Kd.C_of_reads (h1:=fun _ => rfl) (hA15 _ (Kd.reads_of_C HR0.out)))
      have HC527:=Aside0.mk hC15
      clear hA15 hC15 hi015 hsz15
      go_wp2_with (first|((with_reducible refine gate_callee (f:=28) rfl ?_);refine goesL_ (some 34) rfl rfl Try.func28 (by kernel_rfl) rfl #[.slice A15 (l0.drop 1).length (c0 - 1)] rfl (by (try simp only [List.map_toArray,List.map_cons,List.map_nil]);first|done|(rw [show (l0.drop 1).length = (l0.length - 1) from List.length_drop] <;> rfl)|rfl|(simp only [List.length_drop,List.length_take];rfl)|(go_simp;done)|(go_simp;simp;done)) ?_;(with_reducible refine (windlassref2_Int.calls k _ _ (l0.drop 1) t528 t529 t530 _ ?side1 ?side2 A14.out).mono ?_);(case side1 => exact Kd.C_below HR527.out (by repeat (first|(with_reducible first|exact HB.out|apply below_alloc|apply pw_below_drewN|apply below_drew1|refine below_set ?_ GE524.out|refine below_set ?_ GE526.out)|exact HB.out)));(case side2 => exact HC527.out);rintro e w' ⟨rfl,⟨nd,rfl⟩⟩;refine ⟨_,rfl,?_⟩;have hnb16:=NB526_524.out;have hnc16:=NB524_526.out;have hcz17_0 : w9.cell? ⟨gb526,0,none⟩ = some (.int .i64 0):=(blk_cell BK526.out 0).trans rfl;have hcz17_1 : w9.cell? ⟨gb526,1,none⟩ = some (.int .i64 0):=(blk_cell BK526.out 1).trans rfl;have hcz17_2 : w9.cell? ⟨gb526,2,none⟩ = some (.string (⟨#[]⟩ : ByteArray)):=(blk_cell BK526.out 2).trans rfl;have hcz17_3 : w9.cell? ⟨gb526,3,none⟩ = some (.int .i64 0):=(blk_cell BK526.out 3).trans rfl;have hcz17_4 : w9.cell? ⟨gb526,4,none⟩ = some (.slice none 0 0):=(blk_cell BK526.out 4).trans rfl;have hfz17_0:=blk_frozen BK526.out 0;have hfz17_1:=blk_frozen BK526.out 1;have hfz17_2:=blk_frozen BK526.out 2;have hfz17_3:=blk_frozen BK526.out 3;have hfz17_4:=blk_frozen BK526.out 4))
      go_meet
      case rel => exact ⟨_,(t529),(t530),(0),(0),((⟨#[]⟩ : ByteArray)),(0),(t528),((⟨#[]⟩ : ByteArray)),(0),(([] : List (S24))),(.slice none 0 0),(by first|rfl|(simp;done)|(simp [*];done)),(by first|rfl|(simp;done)|(simp [*];done)),H',⟨by first|omega|exact Nat.le_refl _⟩,⟨by first|exact Kd.R_nil _ _ _ _ _|exact Kd.N_nil _ _ _ _ _|exact Kd.V_nil _ _ _ _ _|exact Kd.Q_nil _ _ _ _ _|exact Kd.S_nil _ _ _ _ _⟩,⟨by (with_reducible repeat (first|refine blk_drewN ?_ _|refine blk_drew ?_|refine blk_alloc ?_ _));refine blk_far ?_ NB524_526.out _;(with_reducible repeat (first|refine blk_drewN ?_ _|refine blk_drew ?_|refine blk_alloc ?_ _));refine blk_far ?_ NB524_526.out _;(with_reducible repeat (first|refine blk_drewN ?_ _|refine blk_drew ?_|refine blk_alloc ?_ _));refine blk_far ?_ NB524_526.out _;(with_reducible repeat (first|refine blk_drewN ?_ _|refine blk_drew ?_|refine blk_alloc ?_ _));refine blk_far ?_ NB524_526.out _;(with_reducible repeat (first|refine blk_drewN ?_ _|refine blk_drew ?_|refine blk_alloc ?_ _));refine blk_far ?_ NB524_526.out _;(with_reducible repeat (first|refine blk_drewN ?_ _|refine blk_drew ?_|refine blk_alloc ?_ _));refine blk_far ?_ NB524_526.out _;(with_reducible repeat (first|refine blk_drewN ?_ _|refine blk_drew ?_|refine blk_alloc ?_ _));exact BK524.out⟩,⟨by (with_reducible repeat (first|refine blk_drewN ?_ _|refine blk_drew ?_|refine blk_alloc ?_ _));refine blk_put (cs:=#[.int .i64 (wrap64 (rd l0 0)), .int .i64 0, .string (⟨#[]⟩ : ByteArray), .int .i64 0, .slice none 0 0]) ?_ 1 _ rfl;(with_reducible repeat (first|refine blk_drewN ?_ _|refine blk_drew ?_|refine blk_alloc ?_ _));refine blk_put (cs:=#[.int .i64 (wrap64 (rd l0 0)), .int .i64 0, .string (⟨#[]⟩ : ByteArray), .int .i64 0, .slice none 0 0]) ?_ 4 _ rfl;(with_reducible repeat (first|refine blk_drewN ?_ _|refine blk_drew ?_|refine blk_alloc ?_ _));refine blk_put (cs:=#[.int .i64 (wrap64 (rd l0 0)), .int .i64 0, .string (⟨#[]⟩ : ByteArray), .int .i64 0, .slice none 0 0]) ?_ 3 _ rfl;(with_reducible repeat (first|refine blk_drewN ?_ _|refine blk_drew ?_|refine blk_alloc ?_ _));refine blk_put (cs:=#[.int .i64 (wrap64 (rd l0 0)), .int .i64 0, .string (⟨#[]⟩ : ByteArray), .int .i64 0, .slice none 0 0]) ?_ 2 _ rfl;(with_reducible repeat (first|refine blk_drewN ?_ _|refine blk_drew ?_|refine blk_alloc ?_ _));refine blk_put (cs:=#[.int .i64 (wrap64 (rd l0 0)), .int .i64 0, .string (⟨#[]⟩ : ByteArray), .int .i64 0, .slice none 0 0]) ?_ 1 _ rfl;(with_reducible repeat (first|refine blk_drewN ?_ _|refine blk_drew ?_|refine blk_alloc ?_ _));refine blk_put (cs:=#[.int .i64 0, .int .i64 0, .string (⟨#[]⟩ : ByteArray), .int .i64 0, .slice none 0 0]) ?_ 0 _ rfl;(with_reducible repeat (first|refine blk_drewN ?_ _|refine blk_drew ?_|refine blk_alloc ?_ _));exact BK526.out⟩,⟨by repeat (first|(with_reducible first|exact HB.out|apply below_alloc|apply pw_below_drewN|apply below_drew1|refine below_set ?_ GE524.out|refine below_set ?_ GE526.out)|exact HB.out)⟩⟩
     ·rw [if_neg c13] at H
      exact absurd H (by simp)
    ·rw [if_neg c12] at H
     have c12b0 : ((wrap64 (rd l0 0)) == 1) = false:=beq_eq_false_iff_ne.mpr c12
     have c12b1 : ((wrap64 (rd l0 0)) != 1) = true:=bne_iff_ne.mpr c12
     (first|rw [c12b0]|(simp only [i64_w,i32_w];rw [c12b0])|skip)
     by_cases c18 : (wrap64 (rd l0 0)) = 2
     ·rw [if_pos c18] at H
      have c18b0 : ((wrap64 (rd l0 0)) == 2) = true:=beq_iff_eq.mpr c18
      have c18b1 : ((wrap64 (rd l0 0)) != 2) = false:=bne_eq_false_iff_eq.mpr c18
      clear c18
      by_cases c19 : 1 ≤ (l0.length : Int)
      ·rw [if_pos c19] at H
       have c19b0:=eq_true c19
       have c19b1 : decide (1 ≤ (l0.length : Int)) = true:=decide_eq_true c19
       clear c19
       replace H:=Option.bind_eq_some_iff.mp H
       obtain ⟨⟨t532,t533,t534⟩,A200,H⟩:=H
       replace H : (windlassref2_value.j4 k t533 t534 (wrap64 (rd l0 0)) 0 t532 0 ([] : List (S24))) = some (r1,r2,r3,r4,r5,r6,r7):=H
       have A20:=Aside0.mk A200
       clear A200
       have H':=Aside0.mk H
       clear H
       obtain ⟨i021,hi021,_,hsz21,_⟩:=info_parts info5
       obtain ⟨A21,hcut21,hA21,hC21⟩:=print_drop_of (P:=Try.prog) (Value.int .u8) 0 30 5 .i64 Try.underlying30 hi021 hsz21 (some ad525) c0 l0 1 (by omega) (of_decide_eq_true (by first|(with_reducible assumption)|assumption)) HC0.out
       have HR531:=Aside0.mk (Kd.C_of_reads (h1:=fun _ => rfl) (hA21 _ (Kd.reads_of_C HR0.out)))
       have HC531:=Aside0.mk hC21
       clear hA21 hC21 hi021 hsz21
       go_wp2_with (first|((with_reducible refine gate_callee (f:=40) rfl ?_);refine goesL_ (some 44) rfl rfl Try.func40 (by kernel_rfl) rfl #[.slice A21 (l0.drop 1).length (c0 - 1), .int .u64 64] rfl (by (try simp only [List.map_toArray,List.map_cons,List.map_nil]);first|done|(rw [show (l0.drop 1).length = (l0.length - 1) from List.length_drop] <;> rfl)|rfl|(simp only [List.length_drop,List.length_take];rfl)|(go_simp;done)|(go_simp;simp;done)) ?_;(with_reducible refine (windlassref2_text.calls k _ _ (l0.drop 1) 64 t532 t533 t534 _ ?side1 ?side2 A20.out).mono ?_);(case side1 => exact Kd.C_below HR531.out (by repeat (first|(with_reducible first|exact HB.out|apply below_alloc|apply pw_below_drewN|apply below_drew1|refine below_set ?_ GE524.out|refine below_set ?_ GE526.out)|exact HB.out)));(case side2 => exact HC531.out);rintro e w' ⟨rfl,⟨nd,rfl⟩⟩;refine ⟨_,rfl,?_⟩;have hnb22:=NB526_524.out;have hnc22:=NB524_526.out;have hcz23_0 : w9.cell? ⟨gb526,0,none⟩ = some (.int .i64 0):=(blk_cell BK526.out 0).trans rfl;have hcz23_1 : w9.cell? ⟨gb526,1,none⟩ = some (.int .i64 0):=(blk_cell BK526.out 1).trans rfl;have hcz23_2 : w9.cell? ⟨gb526,2,none⟩ = some (.string (⟨#[]⟩ : ByteArray)):=(blk_cell BK526.out 2).trans rfl;have hcz23_3 : w9.cell? ⟨gb526,3,none⟩ = some (.int .i64 0):=(blk_cell BK526.out 3).trans rfl;have hcz23_4 : w9.cell? ⟨gb526,4,none⟩ = some (.slice none 0 0):=(blk_cell BK526.out 4).trans rfl;have hfz23_0:=blk_frozen BK526.out 0;have hfz23_1:=blk_frozen BK526.out 1;have hfz23_2:=blk_frozen BK526.out 2;have hfz23_3:=blk_frozen BK526.out 3;have hfz23_4:=blk_frozen BK526.out 4))
       go_meet
       case rel => exact ⟨_,(t533),(t534),(0),(0),((⟨#[]⟩ : ByteArray)),(0),(0),(t532),(0),(([] : List (S24))),(.slice none 0 0),(by first|rfl|(simp;done)|(simp [*];done)),(by first|rfl|(simp;done)|(simp [*];done)),H',⟨by first|omega|exact Nat.le_refl _⟩,⟨by first|exact Kd.R_nil _ _ _ _ _|exact Kd.N_nil _ _ _ _ _|exact Kd.V_nil _ _ _ _ _|exact Kd.Q_nil _ _ _ _ _|exact Kd.S_nil _ _ _ _ _⟩,⟨by (with_reducible repeat (first|refine blk_drewN ?_ _|refine blk_drew ?_|refine blk_alloc ?_ _));refine blk_far ?_ NB524_526.out _;(with_reducible repeat (first|refine blk_drewN ?_ _|refine blk_drew ?_|refine blk_alloc ?_ _));refine blk_far ?_ NB524_526.out _;(with_reducible repeat (first|refine blk_drewN ?_ _|refine blk_drew ?_|refine blk_alloc ?_ _));refine blk_far ?_ NB524_526.out _;(with_reducible repeat (first|refine blk_drewN ?_ _|refine blk_drew ?_|refine blk_alloc ?_ _));refine blk_far ?_ NB524_526.out _;(with_reducible repeat (first|refine blk_drewN ?_ _|refine blk_drew ?_|refine blk_alloc ?_ _));refine blk_far ?_ NB524_526.out _;(with_reducible repeat (first|refine blk_drewN ?_ _|refine blk_drew ?_|refine blk_alloc ?_ _));refine blk_far ?_ NB524_526.out _;(with_reducible repeat (first|refine blk_drewN ?_ _|refine blk_drew ?_|refine blk_alloc ?_ _));exact BK524.out⟩,⟨by (with_reducible repeat (first|refine blk_drewN ?_ _|refine blk_drew ?_|refine blk_alloc ?_ _));refine blk_put (cs:=#[.int .i64 (wrap64 (rd l0 0)), .int .i64 0, .string (⟨#[]⟩ : ByteArray), .int .i64 0, .slice none 0 0]) ?_ 2 _ rfl;(with_reducible repeat (first|refine blk_drewN ?_ _|refine blk_drew ?_|refine blk_alloc ?_ _));refine blk_put (cs:=#[.int .i64 (wrap64 (rd l0 0)), .int .i64 0, .string (⟨#[]⟩ : ByteArray), .int .i64 0, .slice none 0 0]) ?_ 4 _ rfl;(with_reducible repeat (first|refine blk_drewN ?_ _|refine blk_drew ?_|refine blk_alloc ?_ _));refine blk_put (cs:=#[.int .i64 (wrap64 (rd l0 0)), .int .i64 0, .string (⟨#[]⟩ : ByteArray), .int .i64 0, .slice none 0 0]) ?_ 3 _ rfl;(with_reducible repeat (first|refine blk_drewN ?_ _|refine blk_drew ?_|refine blk_alloc ?_ _));refine blk_put (cs:=#[.int .i64 (wrap64 (rd l0 0)), .int .i64 0, .string (⟨#[]⟩ : ByteArray), .int .i64 0, .slice none 0 0]) ?_ 2 _ rfl;(with_reducible repeat (first|refine blk_drewN ?_ _|refine blk_drew ?_|refine blk_alloc ?_ _));refine blk_put (cs:=#[.int .i64 (wrap64 (rd l0 0)), .int .i64 0, .string (⟨#[]⟩ : ByteArray), .int .i64 0, .slice none 0 0]) ?_ 1 _ rfl;(with_reducible repeat (first|refine blk_drewN ?_ _|refine blk_drew ?_|refine blk_alloc ?_ _));refine blk_put (cs:=#[.int .i64 0, .int .i64 0, .string (⟨#[]⟩ : ByteArray), .int .i64 0, .slice none 0 0]) ?_ 0 _ rfl;(with_reducible repeat (first|refine blk_drewN ?_ _|refine blk_drew ?_|refine blk_alloc ?_ _));exact BK526.out⟩,⟨by repeat (first|(with_reducible first|exact HB.out|apply below_alloc|apply pw_below_drewN|apply below_drew1|refine below_set ?_ GE524.out|refine below_set ?_ GE526.out)|exact HB.out)⟩⟩
      ·rw [if_neg c19] at H
       exact absurd H (by simp)
     ·rw [if_neg c18] at H
      have c18b0 : ((wrap64 (rd l0 0)) == 2) = false:=beq_eq_false_iff_ne.mpr c18
      have c18b1 : ((wrap64 (rd l0 0)) != 2) = true:=bne_iff_ne.mpr c18
      by_cases c24 : (wrap64 (rd l0 0)) = 3
      ·rw [if_pos c24] at H
       have c24b0 : ((wrap64 (rd l0 0)) == 3) = true:=beq_iff_eq.mpr c24
       have c24b1 : ((wrap64 (rd l0 0)) != 3) = false:=bne_eq_false_iff_eq.mpr c24
       clear c24
       have HC25:=Aside0.mk H
       clear H
       go_upto_region 12 with (fail)
       go_cut [59] (fun v59 wc => ∃ (kq : Nat) (x59_24 : Bool),v59 = .bool x59_24 ∧ Aside0 (windlassref2_value.j0 kq l0 0 x59_24 (wrap64 (rd l0 0)) 0 (⟨#[]⟩ : ByteArray) 0 = some (r1,r2,r3,r4,r5,r6,r7)) ∧ Aside0 (kq ≤ k) ∧ Aside0 (wc.heap[gb524]? = some (.cells #[.int .i64 0, .int .i64 0, .string (⟨#[]⟩ : ByteArray), .int .i64 0,(.slice none 0 0)] 24 (0,0))) ∧ Aside0 (wc.heap[gb526]? = some (.cells #[.int .i64 (wrap64 (rd l0 0)), .int .i64 0, .string (⟨#[]⟩ : ByteArray), .int .i64 0,(.slice none 0 0)] 24 (0,0))) ∧ Aside0 (Below w.heap.size w wc))
       case first =>
        have H:=HC25.out
        clear HC25
        by_cases c26 : (l0.length : Int) < 2
        ·rw [if_pos c26] at H
         have c26b0 : decide ((l0.length : Int) < 2) = true:=decide_eq_true c26
         have c26b1 : decide (l0.length < 2) = true:=decide_eq_true (by omega)
         clear c26
         (first|rw [c26b0]|(simp only [i64_w,i32_w];rw [c26b0])|skip)
         have H':=Aside0.mk H
         clear H
         go_wp2
         go_meet
         case rel => exact ⟨_,(true),(by first|rfl|(simp;done)|(simp [*];done)),H',⟨by first|omega|exact Nat.le_refl _⟩,⟨by (with_reducible repeat (first|refine blk_drewN ?_ _|refine blk_drew ?_|refine blk_alloc ?_ _));refine blk_far ?_ NB524_526.out _;(with_reducible repeat (first|refine blk_drewN ?_ _|refine blk_drew ?_|refine blk_alloc ?_ _));refine blk_far ?_ NB524_526.out _;(with_reducible repeat (first|refine blk_drewN ?_ _|refine blk_drew ?_|refine blk_alloc ?_ _));refine blk_far ?_ NB524_526.out _;(with_reducible repeat (first|refine blk_drewN ?_ _|refine blk_drew ?_|refine blk_alloc ?_ _));refine blk_far ?_ NB524_526.out _;(with_reducible repeat (first|refine blk_drewN ?_ _|refine blk_drew ?_|refine blk_alloc ?_ _));refine blk_far ?_ NB524_526.out _;(with_reducible repeat (first|refine blk_drewN ?_ _|refine blk_drew ?_|refine blk_alloc ?_ _));exact BK524.out⟩,⟨by (with_reducible repeat (first|refine blk_drewN ?_ _|refine blk_drew ?_|refine blk_alloc ?_ _));refine blk_put (cs:=#[.int .i64 (wrap64 (rd l0 0)), .int .i64 0, .string (⟨#[]⟩ : ByteArray), .int .i64 0, .slice none 0 0]) ?_ 4 _ rfl;(with_reducible repeat (first|refine blk_drewN ?_ _|refine blk_drew ?_|refine blk_alloc ?_ _));refine blk_put (cs:=#[.int .i64 (wrap64 (rd l0 0)), .int .i64 0, .string (⟨#[]⟩ : ByteArray), .int .i64 0, .slice none 0 0]) ?_ 3 _ rfl;(with_reducible repeat (first|refine blk_drewN ?_ _|refine blk_drew ?_|refine blk_alloc ?_ _));refine blk_put (cs:=#[.int .i64 (wrap64 (rd l0 0)), .int .i64 0, .string (⟨#[]⟩ : ByteArray), .int .i64 0, .slice none 0 0]) ?_ 2 _ rfl;(with_reducible repeat (first|refine blk_drewN ?_ _|refine blk_drew ?_|refine blk_alloc ?_ _));refine blk_put (cs:=#[.int .i64 (wrap64 (rd l0 0)), .int .i64 0, .string (⟨#[]⟩ : ByteArray), .int .i64 0, .slice none 0 0]) ?_ 1 _ rfl;(with_reducible repeat (first|refine blk_drewN ?_ _|refine blk_drew ?_|refine blk_alloc ?_ _));refine blk_put (cs:=#[.int .i64 0, .int .i64 0, .string (⟨#[]⟩ : ByteArray), .int .i64 0, .slice none 0 0]) ?_ 0 _ rfl;(with_reducible repeat (first|refine blk_drewN ?_ _|refine blk_drew ?_|refine blk_alloc ?_ _));exact BK526.out⟩,⟨by repeat (first|(with_reducible first|exact HB.out|apply below_alloc|apply pw_below_drewN|apply below_drew1|refine below_set ?_ GE524.out|refine below_set ?_ GE526.out)|exact HB.out)⟩⟩
        ·rw [if_neg c26] at H
         have c26b0 : decide ((l0.length : Int) < 2) = false:=decide_eq_false c26
         have c26b1 : decide (l0.length < 2) = false:=decide_eq_false (by omega)
         clear c26
         (first|rw [c26b0]|(simp only [i64_w,i32_w];rw [c26b0])|skip)
         by_cases c27 : 1 < (l0.length : Int)
         ·rw [if_pos c27] at H
          have c27b0 : decide (1 < (l0.length : Int)) = true:=decide_eq_true c27
          have c27b1 : decide (1 < l0.length) = true:=decide_eq_true (by omega)
          clear c27
          have H':=Aside0.mk H
          clear H
          have p535 : 0 ≤ (1 : Int):=(by omega)
          have q535 : 1 < (l0.length : Int):=of_decide_eq_true (by first|(with_reducible assumption)|assumption)
          obtain ⟨ad535,e535,hx535_0⟩:=Kd.at_int HR0.out 1 p535 q535
          obtain rfl : ad525 = ad535:=(by injection e535)
          (try simp only [show (1 : Int).toNat = 1 from rfl,Nat.reduceMul,Nat.reduceEqDiff,Go.Addr.add,↓reduceIte] at hx535_0)
          have qi535 : (1 < l0.length) = True:=eq_true (by omega)
          (try rw [show ((1 : Int)).toNat = 1 from rfl] at hx535_0)
          have hn535_0 : ad525.block ≠ gb526:=Nat.ne_of_lt (Nat.lt_of_lt_of_le (by have:=World.block_lt_of_cell? _ _ hx535_0;first|rwa [add_block] at this|exact this) GW526.out)
          have hn535_1 : ad525.block ≠ gb526:=Nat.ne_of_lt (Nat.lt_of_lt_of_le (by have:=World.block_lt_of_cell? _ _ hx535_0;first|rwa [add_block] at this|exact this) GW526.out)
          have hn535_2 : ad525.block ≠ gb526:=Nat.ne_of_lt (Nat.lt_of_lt_of_le (by have:=World.block_lt_of_cell? _ _ hx535_0;first|rwa [add_block] at this|exact this) GW526.out)
          have hn535_3 : ad525.block ≠ gb526:=Nat.ne_of_lt (Nat.lt_of_lt_of_le (by have:=World.block_lt_of_cell? _ _ hx535_0;first|rwa [add_block] at this|exact this) GW526.out)
          have hn535_4 : ad525.block ≠ gb526:=Nat.ne_of_lt (Nat.lt_of_lt_of_le (by have:=World.block_lt_of_cell? _ _ hx535_0;first|rwa [add_block] at this|exact this) GW526.out)
          replace hx535_0:=(HB.out.cell (World.block_lt_of_cell? w _ hx535_0)).trans hx535_0
          replace hx535_0:=(cell_far (p:=⟨gb526,0,none⟩) (by first|(rw [add_block];exact hn535_0)|(show (Addr.add _ _).block ≠ _;rw [add_block];exact hn535_0)|exact hn535_0) (.int .i64 (wrap64 (rd l0 0)))).trans hx535_0
          replace hx535_0:=(cell_far (p:=⟨gb526,1,none⟩) (by first|(rw [add_block];exact hn535_1)|(show (Addr.add _ _).block ≠ _;rw [add_block];exact hn535_1)|exact hn535_1) (.int .i64 0)).trans hx535_0
          replace hx535_0:=(cell_far (p:=⟨gb526,2,none⟩) (by first|(rw [add_block];exact hn535_2)|(show (Addr.add _ _).block ≠ _;rw [add_block];exact hn535_2)|exact hn535_2) (.string (⟨#[]⟩ : ByteArray))).trans hx535_0
          replace hx535_0:=(cell_far (p:=⟨gb526,3,none⟩) (by first|(rw [add_block];exact hn535_3)|(show (Addr.add _ _).block ≠ _;rw [add_block];exact hn535_3)|exact hn535_3) (.int .i64 0)).trans hx535_0
          replace hx535_0:=(cell_far (p:=⟨gb526,4,none⟩) (by first|(rw [add_block];exact hn535_4)|(show (Addr.add _ _).block ≠ _;rw [add_block];exact hn535_4)|exact hn535_4) (.slice none 0 0)).trans hx535_0
          clear hn535_0
          clear hn535_1
          clear hn535_2
          clear hn535_3
          clear hn535_4
          replace p535:=eq_true p535
          replace q535:=eq_true q535
          go_wp2
          go_meet
          case rel => exact ⟨_,(decide ((rd l0 1) > 1)),(by first|rfl|(simp;done)|(simp [*];done)),H',⟨by first|omega|exact Nat.le_refl _⟩,⟨by (with_reducible repeat (first|refine blk_drewN ?_ _|refine blk_drew ?_|refine blk_alloc ?_ _));refine blk_far ?_ NB524_526.out _;(with_reducible repeat (first|refine blk_drewN ?_ _|refine blk_drew ?_|refine blk_alloc ?_ _));refine blk_far ?_ NB524_526.out _;(with_reducible repeat (first|refine blk_drewN ?_ _|refine blk_drew ?_|refine blk_alloc ?_ _));refine blk_far ?_ NB524_526.out _;(with_reducible repeat (first|refine blk_drewN ?_ _|refine blk_drew ?_|refine blk_alloc ?_ _));refine blk_far ?_ NB524_526.out _;(with_reducible repeat (first|refine blk_drewN ?_ _|refine blk_drew ?_|refine blk_alloc ?_ _));refine blk_far ?_ NB524_526.out _;(with_reducible repeat (first|refine blk_drewN ?_ _|refine blk_drew ?_|refine blk_alloc ?_ _));exact BK524.out⟩,⟨by (with_reducible repeat (first|refine blk_drewN ?_ _|refine blk_drew ?_|refine blk_alloc ?_ _));refine blk_put (cs:=#[.int .i64 (wrap64 (rd l0 0)), .int .i64 0, .string (⟨#[]⟩ : ByteArray), .int .i64 0, .slice none 0 0]) ?_ 4 _ rfl;(with_reducible repeat (first|refine blk_drewN ?_ _|refine blk_drew ?_|refine blk_alloc ?_ _));refine blk_put (cs:=#[.int .i64 (wrap64 (rd l0 0)), .int .i64 0, .string (⟨#[]⟩ : ByteArray), .int .i64 0, .slice none 0 0]) ?_ 3 _ rfl;(with_reducible repeat (first|refine blk_drewN ?_ _|refine blk_drew ?_|refine blk_alloc ?_ _));refine blk_put (cs:=#[.int .i64 (wrap64 (rd l0 0)), .int .i64 0, .string (⟨#[]⟩ : ByteArray), .int .i64 0, .slice none 0 0]) ?_ 2 _ rfl;(with_reducible repeat (first|refine blk_drewN ?_ _|refine blk_drew ?_|refine blk_alloc ?_ _));refine blk_put (cs:=#[.int .i64 (wrap64 (rd l0 0)), .int .i64 0, .string (⟨#[]⟩ : ByteArray), .int .i64 0, .slice none 0 0]) ?_ 1 _ rfl;(with_reducible repeat (first|refine blk_drewN ?_ _|refine blk_drew ?_|refine blk_alloc ?_ _));refine blk_put (cs:=#[.int .i64 0, .int .i64 0, .string (⟨#[]⟩ : ByteArray), .int .i64 0, .slice none 0 0]) ?_ 0 _ rfl;(with_reducible repeat (first|refine blk_drewN ?_ _|refine blk_drew ?_|refine blk_alloc ?_ _));exact BK526.out⟩,⟨by repeat (first|(with_reducible first|exact HB.out|apply below_alloc|apply pw_below_drewN|apply below_drew1|refine below_set ?_ GE524.out|refine below_set ?_ GE526.out)|exact HB.out)⟩⟩
         ·rw [if_neg c27] at H
          exact absurd H (by simp)
       case rest =>
        clear HC25
        try clear c1
        try clear c2
        try clear p2
        try clear c3
        try clear c3b0
        try clear c3b1
        try clear c3b2
        try clear c4
        try clear p5
        try clear q5
        try clear hx5
        try clear qi5
        try clear c6
        try clear c6b0
        try clear c6b1
        try clear p6
        try clear c10
        try clear c12
        try clear c12b0
        try clear c12b1
        try clear c13
        try clear c13b0
        try clear c13b1
        try clear c16
        try clear c18
        try clear c18b0
        try clear c18b1
        try clear c19
        try clear c19b0
        try clear c19b1
        try clear c22
        try clear c24
        try clear c24b0
        try clear c24b1
        try clear c26
        try clear c26b0
        try clear c26b1
        try clear c27
        try clear c27b0
        try clear c27b1
        try clear hcz11_0
        try clear hcz11_1
        try clear hcz11_2
        try clear hcz11_3
        try clear hcz11_4
        try clear hcz17_0
        try clear hcz17_1
        try clear hcz17_2
        try clear hcz17_3
        try clear hcz17_4
        try clear hcz23_0
        try clear hcz23_1
        try clear hcz23_2
        try clear hcz23_3
        try clear hcz23_4
        try clear hcz5_0
        try clear hcz5_1
        try clear hcz5_2
        try clear hcz5_3
        try clear hcz5_4
        try clear hfz11_0
        try clear hfz11_1
        try clear hfz11_2
        try clear hfz11_3
        try clear hfz11_4
        try clear hfz17_0
        try clear hfz17_1
        try clear hfz17_2
        try clear hfz17_3
        try clear hfz17_4
        try clear hfz23_0
        try clear hfz23_1
        try clear hfz23_2
        try clear hfz23_3
        try clear hfz23_4
        try clear hfz5_0
        try clear hfz5_1
        try clear hfz5_2
        try clear hfz5_3
        try clear hfz5_4
        try clear hx525_0
        try clear hx535_0
        try clear p525
        try clear p535
        try clear q525
        try clear q535
        obtain ⟨kq,x59_24,rfl,HA,HJ24,BK524,BK526,HB⟩:=hcut
        cases kq with
        | zero => exact absurd HA.out (by simp [windlassref2_value.j0])
        | succ kj24 =>
         have H:=HA.out
         clear HA
         simp only [windlassref2_value.j0] at H
         by_cases c28 : x59_24 = true
         ·subst c28
          have H1 : (some (0,0,(⟨#[]⟩ : ByteArray),0,([] : List (S24)),0,20)) = some (r1,r2,r3,r4,r5,r6,r7):=by rw [if_pos rfl] at H;exact H
          clear H
          have H:=H1
          clear H1
          simp only [Option.some.injEq,Prod.mk.injEq] at H
          obtain ⟨rfl,rfl,rfl,rfl,rfl,rfl,rfl⟩:=H
          have hnb29:=NB524_526.out
          have hnc29:=NB526_524.out
          have hcz30_0 : wc.cell? ⟨gb524,0,none⟩ = some (.int .i64 0):=(blk_cell BK524.out 0).trans rfl
          have hcz30_1 : wc.cell? ⟨gb524,1,none⟩ = some (.int .i64 0):=(blk_cell BK524.out 1).trans rfl
          have hcz30_2 : wc.cell? ⟨gb524,2,none⟩ = some (.string (⟨#[]⟩ : ByteArray)):=(blk_cell BK524.out 2).trans rfl
          have hcz30_3 : wc.cell? ⟨gb524,3,none⟩ = some (.int .i64 0):=(blk_cell BK524.out 3).trans rfl
          have hcz30_4 : wc.cell? ⟨gb524,4,none⟩ = some (.slice none 0 0):=(blk_cell BK524.out 4).trans rfl
          have hfz30_0:=blk_frozen BK524.out 0
          have hfz30_1:=blk_frozen BK524.out 1
          have hfz30_2:=blk_frozen BK524.out 2
          have hfz30_3:=blk_frozen BK524.out 3
          have hfz30_4:=blk_frozen BK524.out 4
          go_wp2
          refine bodyPost_ret (results_ctt rfl _ _ gb524 24 #[.int .i64 0, .int .i64 0, .string (⟨#[]⟩ : ByteArray), .int .i64 0, .slice none 0 0] (0,0) _ rfl (by (with_reducible repeat (first|refine blk_drewN ?_ _|refine blk_drew ?_|refine blk_alloc ?_ _));refine blk_put (cs:=#[.int .i64 0, .int .i64 0, .string (⟨#[]⟩ : ByteArray), .int .i64 0, .slice none 0 0]) ?_ 4 _ rfl;(with_reducible repeat (first|refine blk_drewN ?_ _|refine blk_drew ?_|refine blk_alloc ?_ _));refine blk_put (cs:=#[.int .i64 0, .int .i64 0, .string (⟨#[]⟩ : ByteArray), .int .i64 0, .slice none 0 0]) ?_ 3 _ rfl;(with_reducible repeat (first|refine blk_drewN ?_ _|refine blk_drew ?_|refine blk_alloc ?_ _));refine blk_put (cs:=#[.int .i64 0, .int .i64 0, .string (⟨#[]⟩ : ByteArray), .int .i64 0, .slice none 0 0]) ?_ 2 _ rfl;(with_reducible repeat (first|refine blk_drewN ?_ _|refine blk_drew ?_|refine blk_alloc ?_ _));refine blk_put (cs:=#[.int .i64 0, .int .i64 0, .string (⟨#[]⟩ : ByteArray), .int .i64 0, .slice none 0 0]) ?_ 1 _ rfl;(with_reducible repeat (first|refine blk_drewN ?_ _|refine blk_drew ?_|refine blk_alloc ?_ _));refine blk_put (cs:=#[.int .i64 0, .int .i64 0, .string (⟨#[]⟩ : ByteArray), .int .i64 0, .slice none 0 0]) ?_ 0 _ rfl;(with_reducible repeat (first|refine blk_drewN ?_ _|refine blk_drew ?_|refine blk_alloc ?_ _));exact BK524.out) Try.underlying24 rfl (by kernel_rfl)) rfl ?_
          exact ⟨_,by first|rfl|(simp [errW_none,errW_some] <;> rfl)|(simp [*,errW_none,errW_some] <;> rfl),by first|exact Kd.R_nil _ _ _ _ _|exact Kd.N_nil _ _ _ _ _|exact Kd.V_nil _ _ _ _ _|exact Kd.Q_nil _ _ _ _ _|exact Kd.S_nil _ _ _ _ _,by repeat (first|(with_reducible first|exact HB.out|apply below_alloc|apply pw_below_drewN|apply below_drew1|refine below_set ?_ GE524.out|refine below_set ?_ GE526.out)|exact HB.out)⟩
         ·replace c28:=Bool.eq_false_iff.mpr c28
          subst c28
          have H1 : (if 1 < (l0.length : Int) then (windlassref2_value.j4 kj24 1 0 (wrap64 (rd l0 0)) (wrap64 (rd l0 1)) (⟨#[]⟩ : ByteArray) 0 ([] : List (S24))) else (none)) = some (r1,r2,r3,r4,r5,r6,r7):=by rw [if_neg (show ¬ (false = true) by decide)] at H;exact H
          clear H
          have H:=H1
          clear H1
          by_cases c31 : 1 < (l0.length : Int)
          ·rw [if_pos c31] at H
           have c31b0 : decide (1 < (l0.length : Int)) = true:=decide_eq_true c31
           have c31b1 : decide (1 < l0.length) = true:=decide_eq_true (by omega)
           clear c31
           have H':=Aside0.mk H
           clear H
           have p536 : 0 ≤ (1 : Int):=(by omega)
           have q536 : 1 < (l0.length : Int):=of_decide_eq_true (by first|(with_reducible assumption)|assumption)
           obtain ⟨ad536,e536,hx536_0⟩:=Kd.at_int HR0.out 1 p536 q536
           obtain rfl : ad525 = ad536:=(by injection e536)
           (try simp only [show (1 : Int).toNat = 1 from rfl,Nat.reduceMul,Nat.reduceEqDiff,Go.Addr.add,↓reduceIte] at hx536_0)
           have qi536 : (1 < l0.length) = True:=eq_true (by omega)
           (try rw [show ((1 : Int)).toNat = 1 from rfl] at hx536_0)
           replace hx536_0:=(HB.out.cell (World.block_lt_of_cell? w _ hx536_0)).trans hx536_0
           replace p536:=eq_true p536
           replace q536:=eq_true q536
           have hnb32:=NB526_524.out
           have hnc32:=NB524_526.out
           have hcz33_0 : wc.cell? ⟨gb526,0,none⟩ = some (.int .i64 (wrap64 (rd l0 0))):=(blk_cell BK526.out 0).trans rfl
           have hcz33_1 : wc.cell? ⟨gb526,1,none⟩ = some (.int .i64 0):=(blk_cell BK526.out 1).trans rfl
           have hcz33_2 : wc.cell? ⟨gb526,2,none⟩ = some (.string (⟨#[]⟩ : ByteArray)):=(blk_cell BK526.out 2).trans rfl
           have hcz33_3 : wc.cell? ⟨gb526,3,none⟩ = some (.int .i64 0):=(blk_cell BK526.out 3).trans rfl
           have hcz33_4 : wc.cell? ⟨gb526,4,none⟩ = some (.slice none 0 0):=(blk_cell BK526.out 4).trans rfl
           have hfz33_0:=blk_frozen BK526.out 0
           have hfz33_1:=blk_frozen BK526.out 1
           have hfz33_2:=blk_frozen BK526.out 2
           have hfz33_3:=blk_frozen BK526.out 3
           have hfz33_4:=blk_frozen BK526.out 4
           go_wp2
           go_meet
           case rel => exact ⟨_,(1),(0),(0),(0),((⟨#[]⟩ : ByteArray)),(0),(wrap64 (rd l0 1)),((⟨#[]⟩ : ByteArray)),(0),(([] : List (S24))),(.slice none 0 0),(by first|rfl|(simp;done)|(simp [*];done)),(by first|rfl|(simp;done)|(simp [*];done)),H',⟨by have:=HJ24.out;first|omega|exact Nat.le_refl _⟩,⟨by first|exact Kd.R_nil _ _ _ _ _|exact Kd.N_nil _ _ _ _ _|exact Kd.V_nil _ _ _ _ _|exact Kd.Q_nil _ _ _ _ _|exact Kd.S_nil _ _ _ _ _⟩,⟨by (with_reducible repeat (first|refine blk_drewN ?_ _|refine blk_drew ?_|refine blk_alloc ?_ _));refine blk_far ?_ NB524_526.out _;(with_reducible repeat (first|refine blk_drewN ?_ _|refine blk_drew ?_|refine blk_alloc ?_ _));exact BK524.out⟩,⟨by (with_reducible repeat (first|refine blk_drewN ?_ _|refine blk_drew ?_|refine blk_alloc ?_ _));refine blk_put (cs:=#[.int .i64 (wrap64 (rd l0 0)), .int .i64 0, .string (⟨#[]⟩ : ByteArray), .int .i64 0, .slice none 0 0]) ?_ 1 _ rfl;(with_reducible repeat (first|refine blk_drewN ?_ _|refine blk_drew ?_|refine blk_alloc ?_ _));exact BK526.out⟩,⟨by repeat (first|(with_reducible first|exact HB.out|apply below_alloc|apply pw_below_drewN|apply below_drew1|refine below_set ?_ GE524.out|refine below_set ?_ GE526.out)|exact HB.out)⟩⟩
          ·rw [if_neg c31] at H
           exact absurd H (by simp)
      ·rw [if_neg c24] at H
       have c24b0 : ((wrap64 (rd l0 0)) == 3) = false:=beq_eq_false_iff_ne.mpr c24
       have c24b1 : ((wrap64 (rd l0 0)) != 3) = true:=bne_iff_ne.mpr c24
       by_cases c34 : (wrap64 (rd l0 0)) = 4
       ·rw [if_pos c34] at H
        have c34b0 : ((wrap64 (rd l0 0)) == 4) = true:=beq_iff_eq.mpr c34
        have c34b1 : ((wrap64 (rd l0 0)) != 4) = false:=bne_eq_false_iff_eq.mpr c34
        clear c34
        by_cases c35 : 1 ≤ (l0.length : Int)
        ·rw [if_pos c35] at H
         have c35b0:=eq_true c35
         have c35b1 : decide (1 ≤ (l0.length : Int)) = true:=decide_eq_true c35
         clear c35
         replace H:=Option.bind_eq_some_iff.mp H
         obtain ⟨⟨t538,t539,t540⟩,A360,H⟩:=H
         replace H : (if t540 = 0 then (if 0 ≤ (wrap64 (1 + t539)) then (if (wrap64 (1 + t539)) ≤ (l0.length : Int) then ((windlassref2_Uint.f k (l0.drop ((wrap64 (1 + t539)) : Int).toNat)).bind fun bt542 => (windlassref2_value.j1 k l0 a1 t539 bt542.2.1 bt542.2.2 t538 bt542.1 (wrap64 (rd l0 0)) 0 (⟨#[]⟩ : ByteArray) 0)) else (none)) else (none)) else (windlassref2_value.j1 k l0 a1 t539 0 t540 t538 0 (wrap64 (rd l0 0)) 0 (⟨#[]⟩ : ByteArray) 0)) = some (r1,r2,r3,r4,r5,r6,r7):=H
         have A36:=Aside0.mk A360
         clear A360
         have HC37:=Aside0.mk H
         clear H
         obtain ⟨i038,hi038,_,hsz38,_⟩:=info_parts info5
         obtain ⟨A38,hcut38,hA38,hC38⟩:=print_drop_of (P:=Try.prog) (Value.int .u8) 0 30 5 .i64 Try.underlying30 hi038 hsz38 (some ad525) c0 l0 1 (by omega) (of_decide_eq_true (by first|(with_reducible assumption)|assumption)) HC0.out
         have HR537:=Aside0.mk (Kd.C_of_reads (h1:=fun _ => rfl) (hA38 _ (Kd.reads_of_C HR0.out)))
         have HC537:=Aside0.mk hC38
         clear hA38 hC38 hi038 hsz38
         go_upto_if 76 with (first|((with_reducible refine gate_callee (f:=27) rfl ?_);refine goesL_ (some 71) rfl rfl Try.func27 (by kernel_rfl) rfl #[.slice A38 (l0.drop 1).length (c0 - 1)] rfl (by (try simp only [List.map_toArray,List.map_cons,List.map_nil]);first|done|(rw [show (l0.drop 1).length = (l0.length - 1) from List.length_drop] <;> rfl)|rfl|(simp only [List.length_drop,List.length_take];rfl)|(go_simp;done)|(go_simp;simp;done)) ?_;(with_reducible refine (windlassref2_Uint.calls k _ _ (l0.drop 1) t538 t539 t540 _ ?side1 ?side2 A36.out).mono ?_);(case side1 => exact Kd.C_below HR537.out (by repeat (first|(with_reducible first|exact HB.out|apply below_alloc|apply pw_below_drewN|apply below_drew1|refine below_set ?_ GE524.out|refine below_set ?_ GE526.out)|exact HB.out)));(case side2 => exact HC537.out);rintro e w' ⟨rfl,⟨nd,rfl⟩⟩;refine ⟨_,rfl,?_⟩))
         (try simp only [Act.put,List.setIfInBounds_toArray,List.set_cons_zero,List.set_cons_succ])
         go_cut [9,10,12] (fun v9 v10 v12 wc => ∃ (kq : Nat) (x9_36 : Int) (x10_36 : Int) (x12_36 : Int),v9 = .int .i64 x9_36 ∧ v10 = .int .i64 x10_36 ∧ v12 = .int .u64 x12_36 ∧ Aside0 (windlassref2_value.j1 kq l0 a1 t539 x9_36 x10_36 t538 x12_36 (wrap64 (rd l0 0)) 0 (⟨#[]⟩ : ByteArray) 0 = some (r1,r2,r3,r4,r5,r6,r7)) ∧ Aside0 (kq ≤ k) ∧ Aside0 (wc.heap[gb524]? = some (.cells #[.int .i64 0, .int .i64 0, .string (⟨#[]⟩ : ByteArray), .int .i64 0,(.slice none 0 0)] 24 (0,0))) ∧ Aside0 (wc.heap[gb526]? = some (.cells #[.int .i64 (wrap64 (rd l0 0)), .int .i64 0, .string (⟨#[]⟩ : ByteArray), .int .i64 0,(.slice none 0 0)] 24 (0,0))) ∧ Aside0 (Below w.heap.size w wc))
         case first =>
          have H:=HC37.out
          clear HC37
          by_cases c39 : t540 = 0
          ·rw [if_pos c39] at H
           have c39b0 : (t540 == 0) = true:=beq_iff_eq.mpr c39
           have c39b1 : (t540 != 0) = false:=bne_eq_false_iff_eq.mpr c39
           clear c39
           (first|rw [c39b0]|(simp only [i64_w,i32_w];rw [c39b0])|skip)
           obtain ⟨ji40,hji40⟩ : ∃ j_ : Int,(wrap64 (1 + t539)) = j_:=⟨_,rfl⟩
           replace H : (if 0 ≤ (ji40) then (if (ji40) ≤ (l0.length : Int) then ((windlassref2_Uint.f k (l0.drop ((ji40) : Int).toNat)).bind fun bt542 => (windlassref2_value.j1 k l0 a1 t539 bt542.2.1 bt542.2.2 t538 bt542.1 (wrap64 (rd l0 0)) 0 (⟨#[]⟩ : ByteArray) 0)) else (none)) else (none)) = some (r1,r2,r3,r4,r5,r6,r7):=by first|(rw [hji40] at H;exact H)|(simp only [hji40] at H ⊢;exact H)
           have hji40w : (IntKind.i64.wrap (1 + t539)) = ji40:=(i64_w _).trans hji40
           by_cases c41 : 0 ≤ (ji40)
           ·rw [if_pos c41] at H
            have c41b0:=eq_true c41
            have c41b1 : decide (0 ≤ (ji40)) = true:=decide_eq_true c41
            clear c41
            by_cases c42 : (ji40) ≤ (l0.length : Int)
            ·rw [if_pos c42] at H
             have c42b0:=eq_true c42
             have c42b1 : decide ((ji40) ≤ (l0.length : Int)) = true:=decide_eq_true c42
             clear c42
             replace H:=Option.bind_eq_some_iff.mp H
             obtain ⟨⟨t542,t543,t544⟩,A430,H⟩:=H
             replace H : (windlassref2_value.j1 k l0 a1 t539 t543 t544 t538 t542 (wrap64 (rd l0 0)) 0 (⟨#[]⟩ : ByteArray) 0) = some (r1,r2,r3,r4,r5,r6,r7):=H
             have A43:=Aside0.mk A430
             clear A430
             have H':=Aside0.mk H
             clear H
             obtain ⟨i044,hi044,_,hsz44,_⟩:=info_parts info5
             obtain ⟨A44,hcut44,hA44,hC44⟩:=print_drop_of (P:=Try.prog) (Value.int .u8) 0 30 5 .i64 Try.underlying30 hi044 hsz44 (some ad525) c0 l0 (ji40) (of_decide_eq_true (by first|(with_reducible assumption)|assumption)) (of_decide_eq_true (by first|(with_reducible assumption)|assumption)) HC0.out
             have HR541:=Aside0.mk (Kd.C_of_reads (h1:=fun _ => rfl) (hA44 _ (Kd.reads_of_C HR0.out)))
             have HC541:=Aside0.mk hC44
             clear hA44 hC44 hi044 hsz44
             go_wp2_with (first|((with_reducible refine gate_callee (f:=27) rfl ?_);refine goesL_ (some 82) rfl rfl Try.func27 (by kernel_rfl) rfl #[.slice A44 (l0.drop ((ji40) : Int).toNat).length (c0 - (ji40).toNat)] rfl (by (try simp only [List.map_toArray,List.map_cons,List.map_nil]);first|done|(rw [show (l0.drop ((ji40) : Int).toNat).length = (l0.length - (ji40).toNat) from List.length_drop] <;> rfl)|(simp only [hji40];rfl)|rfl|(simp only [List.length_drop,List.length_take];rfl)|(go_simp;done)|(go_simp;simp;done)) ?_;(with_reducible refine (windlassref2_Uint.calls k _ _ (l0.drop ((ji40) : Int).toNat) t542 t543 t544 _ ?side1 ?side2 A43.out).mono ?_);(case side1 => exact Kd.C_below HR541.out (by repeat (first|(with_reducible first|exact HB.out|apply below_alloc|apply pw_below_drewN|apply below_drew1|refine below_set ?_ GE524.out|refine below_set ?_ GE526.out)|exact HB.out)));(case side2 => exact HC541.out);rintro e w' ⟨rfl,⟨nd,rfl⟩⟩;refine ⟨_,rfl,?_⟩))
             go_meet
             case rel => exact ⟨_,(t543),(t544),(t542),(by first|rfl|(simp;done)|(simp [*];done)),(by first|rfl|(simp;done)|(simp [*];done)),(by first|rfl|(simp;done)|(simp [*];done)),H',⟨by first|omega|exact Nat.le_refl _⟩,⟨by (with_reducible repeat (first|refine blk_drewN ?_ _|refine blk_drew ?_|refine blk_alloc ?_ _));refine blk_far ?_ NB524_526.out _;(with_reducible repeat (first|refine blk_drewN ?_ _|refine blk_drew ?_|refine blk_alloc ?_ _));refine blk_far ?_ NB524_526.out _;(with_reducible repeat (first|refine blk_drewN ?_ _|refine blk_drew ?_|refine blk_alloc ?_ _));refine blk_far ?_ NB524_526.out _;(with_reducible repeat (first|refine blk_drewN ?_ _|refine blk_drew ?_|refine blk_alloc ?_ _));refine blk_far ?_ NB524_526.out _;(with_reducible repeat (first|refine blk_drewN ?_ _|refine blk_drew ?_|refine blk_alloc ?_ _));refine blk_far ?_ NB524_526.out _;(with_reducible repeat (first|refine blk_drewN ?_ _|refine blk_drew ?_|refine blk_alloc ?_ _));exact BK524.out⟩,⟨by (with_reducible repeat (first|refine blk_drewN ?_ _|refine blk_drew ?_|refine blk_alloc ?_ _));refine blk_put (cs:=#[.int .i64 (wrap64 (rd l0 0)), .int .i64 0, .string (⟨#[]⟩ : ByteArray), .int .i64 0, .slice none 0 0]) ?_ 4 _ rfl;(with_reducible repeat (first|refine blk_drewN ?_ _|refine blk_drew ?_|refine blk_alloc ?_ _));refine blk_put (cs:=#[.int .i64 (wrap64 (rd l0 0)), .int .i64 0, .string (⟨#[]⟩ : ByteArray), .int .i64 0, .slice none 0 0]) ?_ 3 _ rfl;(with_reducible repeat (first|refine blk_drewN ?_ _|refine blk_drew ?_|refine blk_alloc ?_ _));refine blk_put (cs:=#[.int .i64 (wrap64 (rd l0 0)), .int .i64 0, .string (⟨#[]⟩ : ByteArray), .int .i64 0, .slice none 0 0]) ?_ 2 _ rfl;(with_reducible repeat (first|refine blk_drewN ?_ _|refine blk_drew ?_|refine blk_alloc ?_ _));refine blk_put (cs:=#[.int .i64 (wrap64 (rd l0 0)), .int .i64 0, .string (⟨#[]⟩ : ByteArray), .int .i64 0, .slice none 0 0]) ?_ 1 _ rfl;(with_reducible repeat (first|refine blk_drewN ?_ _|refine blk_drew ?_|refine blk_alloc ?_ _));refine blk_put (cs:=#[.int .i64 0, .int .i64 0, .string (⟨#[]⟩ : ByteArray), .int .i64 0, .slice none 0 0]) ?_ 0 _ rfl;(with_reducible repeat (first|refine blk_drewN ?_ _|refine blk_drew ?_|refine blk_alloc ?_ _));exact BK526.out⟩,⟨by repeat (first|(with_reducible first|exact HB.out|apply below_alloc|apply pw_below_drewN|apply below_drew1|refine below_set ?_ GE524.out|refine below_set ?_ GE526.out)|exact HB.out)⟩⟩
            ·rw [if_neg c42] at H
             exact absurd H (by simp)
           ·rw [if_neg c41] at H
            exact absurd H (by simp)
          ·rw [if_neg c39] at H
           have c39b0 : (t540 == 0) = false:=beq_eq_false_iff_ne.mpr c39
           have c39b1 : (t540 != 0) = true:=bne_iff_ne.mpr c39
           (first|rw [c39b0]|(simp only [i64_w,i32_w];rw [c39b0])|skip)
           have H':=Aside0.mk H
           clear H
           go_wp2
           go_meet
           case rel => exact ⟨_,(0),(t540),(0),(by first|rfl|(simp;done)|(simp [*];done)),(by first|rfl|(simp;done)|(simp [*];done)),(by first|rfl|(simp;done)|(simp [*];done)),H',⟨by first|omega|exact Nat.le_refl _⟩,⟨by (with_reducible repeat (first|refine blk_drewN ?_ _|refine blk_drew ?_|refine blk_alloc ?_ _));refine blk_far ?_ NB524_526.out _;(with_reducible repeat (first|refine blk_drewN ?_ _|refine blk_drew ?_|refine blk_alloc ?_ _));refine blk_far ?_ NB524_526.out _;(with_reducible repeat (first|refine blk_drewN ?_ _|refine blk_drew ?_|refine blk_alloc ?_ _));refine blk_far ?_ NB524_526.out _;(with_reducible repeat (first|refine blk_drewN ?_ _|refine blk_drew ?_|refine blk_alloc ?_ _));refine blk_far ?_ NB524_526.out _;(with_reducible repeat (first|refine blk_drewN ?_ _|refine blk_drew ?_|refine blk_alloc ?_ _));refine blk_far ?_ NB524_526.out _;(with_reducible repeat (first|refine blk_drewN ?_ _|refine blk_drew ?_|refine blk_alloc ?_ _));exact BK524.out⟩,⟨by (with_reducible repeat (first|refine blk_drewN ?_ _|refine blk_drew ?_|refine blk_alloc ?_ _));refine blk_put (cs:=#[.int .i64 (wrap64 (rd l0 0)), .int .i64 0, .string (⟨#[]⟩ : ByteArray), .int .i64 0, .slice none 0 0]) ?_ 4 _ rfl;(with_reducible repeat (first|refine blk_drewN ?_ _|refine blk_drew ?_|refine blk_alloc ?_ _));refine blk_put (cs:=#[.int .i64 (wrap64 (rd l0 0)), .int .i64 0, .string (⟨#[]⟩ : ByteArray), .int .i64 0, .slice none 0 0]) ?_ 3 _ rfl;(with_reducible repeat (first|refine blk_drewN ?_ _|refine blk_drew ?_|refine blk_alloc ?_ _));refine blk_put (cs:=#[.int .i64 (wrap64 (rd l0 0)), .int .i64 0, .string (⟨#[]⟩ : ByteArray), .int .i64 0, .slice none 0 0]) ?_ 2 _ rfl;(with_reducible repeat (first|refine blk_drewN ?_ _|refine blk_drew ?_|refine blk_alloc ?_ _));refine blk_put (cs:=#[.int .i64 (wrap64 (rd l0 0)), .int .i64 0, .string (⟨#[]⟩ : ByteArray), .int .i64 0, .slice none 0 0]) ?_ 1 _ rfl;(with_reducible repeat (first|refine blk_drewN ?_ _|refine blk_drew ?_|refine blk_alloc ?_ _));refine blk_put (cs:=#[.int .i64 0, .int .i64 0, .string (⟨#[]⟩ : ByteArray), .int .i64 0, .slice none 0 0]) ?_ 0 _ rfl;(with_reducible repeat (first|refine blk_drewN ?_ _|refine blk_drew ?_|refine blk_alloc ?_ _));exact BK526.out⟩,⟨by repeat (first|(with_reducible first|exact HB.out|apply below_alloc|apply pw_below_drewN|apply below_drew1|refine below_set ?_ GE524.out|refine below_set ?_ GE526.out)|exact HB.out)⟩⟩
         case rest =>
          clear HC37
          try clear c1
          try clear c2
          try clear p2
          try clear c3
          try clear c3b0
          try clear c3b1
          try clear c3b2
          try clear c4
          try clear p5
          try clear q5
          try clear hx5
          try clear qi5
          try clear c6
          try clear c6b0
          try clear c6b1
          try clear p6
          try clear c10
          try clear c12
          try clear c12b0
          try clear c12b1
          try clear c13
          try clear c13b0
          try clear c13b1
          try clear c16
          try clear c18
          try clear c18b0
          try clear c18b1
          try clear c19
          try clear c19b0
          try clear c19b1
          try clear c22
          try clear c24
          try clear c24b0
          try clear c24b1
          try clear c26
          try clear c26b0
          try clear c26b1
          try clear c27
          try clear c27b0
          try clear c27b1
          try clear c28
          try clear c29
          try clear c31
          try clear c31b0
          try clear c31b1
          try clear c32
          try clear c34
          try clear c34b0
          try clear c34b1
          try clear c35
          try clear c35b0
          try clear c35b1
          try clear c39
          try clear c39b0
          try clear c39b1
          try clear c40
          try clear c41
          try clear c41b0
          try clear c41b1
          try clear c42
          try clear c42b0
          try clear c42b1
          try clear hcz11_0
          try clear hcz11_1
          try clear hcz11_2
          try clear hcz11_3
          try clear hcz11_4
          try clear hcz17_0
          try clear hcz17_1
          try clear hcz17_2
          try clear hcz17_3
          try clear hcz17_4
          try clear hcz23_0
          try clear hcz23_1
          try clear hcz23_2
          try clear hcz23_3
          try clear hcz23_4
          try clear hcz30_0
          try clear hcz30_1
          try clear hcz30_2
          try clear hcz30_3
          try clear hcz30_4
          try clear hcz33_0
          try clear hcz33_1
          try clear hcz33_2
          try clear hcz33_3
          try clear hcz33_4
          try clear hcz5_0
          try clear hcz5_1
          try clear hcz5_2
          try clear hcz5_3
          try clear hcz5_4
          try clear hfz11_0
          try clear hfz11_1
          try clear hfz11_2
          try clear hfz11_3
          try clear hfz11_4
          try clear hfz17_0
          try clear hfz17_1
          try clear hfz17_2
          try clear hfz17_3
          try clear hfz17_4
          try clear hfz23_0
          try clear hfz23_1
          try clear hfz23_2
          try clear hfz23_3
          try clear hfz23_4
          try clear hfz30_0
          try clear hfz30_1
          try clear hfz30_2
          try clear hfz30_3
          try clear hfz30_4
          try clear hfz33_0
          try clear hfz33_1
          try clear hfz33_2
          try clear hfz33_3
          try clear hfz33_4
          try clear hfz5_0
          try clear hfz5_1
          try clear hfz5_2
          try clear hfz5_3
          try clear hfz5_4
          try clear hx525_0
          try clear hx535_0
          try clear hx536_0
          try clear p2
          try clear p5
          try clear p525
          try clear p535
          try clear p536
          try clear p6
          try clear q5
          try clear q525
          try clear q535
          try clear q536
          obtain ⟨kq,x9_36,x10_36,x12_36,rfl,rfl,rfl,HA,HJ36,BK524,BK526,HB⟩:=hcut
          cases kq with
          | zero => exact absurd HA.out (by simp [windlassref2_value.j1])
          | succ kj36 =>
           have H:=HA.out
           clear HA
           simp only [windlassref2_value.j1] at H
           have HC45:=Aside0.mk H
           clear H
           go_upto_region 21 with (fail)
           go_cut [99] (fun v99 wc => ∃ (kq : Nat) (x99_44 : Bool),v99 = .bool x99_44 ∧ Aside0 (windlassref2_value.j2 kq l0 t539 x9_36 x10_36 t538 x12_36 x99_44 (wrap64 (rd l0 0)) 0 (⟨#[]⟩ : ByteArray) 0 = some (r1,r2,r3,r4,r5,r6,r7)) ∧ Aside0 (kq ≤ kj36) ∧ Aside0 (wc.heap[gb524]? = some (.cells #[.int .i64 0, .int .i64 0, .string (⟨#[]⟩ : ByteArray), .int .i64 0,(.slice none 0 0)] 24 (0,0))) ∧ Aside0 (wc.heap[gb526]? = some (.cells #[.int .i64 (wrap64 (rd l0 0)), .int .i64 0, .string (⟨#[]⟩ : ByteArray), .int .i64 0,(.slice none 0 0)] 24 (0,0))) ∧ Aside0 (Below w.heap.size w wc))
           case first =>
            have H:=HC45.out
            clear HC45
            by_cases c46 : x10_36 = 0
            ·rw [if_pos c46] at H
             have c46b0 : (x10_36 == 0) = true:=beq_iff_eq.mpr c46
             have c46b1 : (x10_36 != 0) = false:=bne_eq_false_iff_eq.mpr c46
             clear c46
             (first|rw [c46b0]|(simp only [i64_w,i32_w];rw [c46b0])|skip)
             by_cases c47 : a1 = true
             ·subst c47
              have H1 : (if t538 > 15 then (windlassref2_value.j2 kj36 l0 t539 x9_36 x10_36 t538 x12_36 true (wrap64 (rd l0 0)) 0 (⟨#[]⟩ : ByteArray) 0) else (windlassref2_value.j2 kj36 l0 t539 x9_36 x10_36 t538 x12_36 (decide (x12_36 > 12)) (wrap64 (rd l0 0)) 0 (⟨#[]⟩ : ByteArray) 0)) = some (r1,r2,r3,r4,r5,r6,r7):=by rw [if_pos rfl] at H;exact H
              clear H
              have H:=H1
              clear H1
              by_cases c48 : t538 > 15
              ·rw [if_pos c48] at H
               have c48b0 : decide (15 < t538) = true:=decide_eq_true c48
               clear c48
               have H':=Aside0.mk H
               clear H
               go_wp2
               go_meet
               case rel => exact ⟨_,(true),(by first|rfl|(simp;done)|(simp [*];done)),H',⟨by have:=HJ36.out;first|omega|exact Nat.le_refl _⟩,⟨by (with_reducible repeat (first|refine blk_drewN ?_ _|refine blk_drew ?_|refine blk_alloc ?_ _));exact BK524.out⟩,⟨by (with_reducible repeat (first|refine blk_drewN ?_ _|refine blk_drew ?_|refine blk_alloc ?_ _));exact BK526.out⟩,⟨by repeat (first|(with_reducible first|exact HB.out|apply below_alloc|apply pw_below_drewN|apply below_drew1|refine below_set ?_ GE524.out|refine below_set ?_ GE526.out)|exact HB.out)⟩⟩
              ·rw [if_neg c48] at H
               have c48b0 : decide (15 < t538) = false:=decide_eq_false c48
               clear c48
               have H':=Aside0.mk H
               clear H
               go_wp2
               go_meet
               case rel => exact ⟨_,(decide (x12_36 > 12)),(by first|rfl|(simp;done)|(simp [*];done)),H',⟨by have:=HJ36.out;first|omega|exact Nat.le_refl _⟩,⟨by (with_reducible repeat (first|refine blk_drewN ?_ _|refine blk_drew ?_|refine blk_alloc ?_ _));exact BK524.out⟩,⟨by (with_reducible repeat (first|refine blk_drewN ?_ _|refine blk_drew ?_|refine blk_alloc ?_ _));exact BK526.out⟩,⟨by repeat (first|(with_reducible first|exact HB.out|apply below_alloc|apply pw_below_drewN|apply below_drew1|refine below_set ?_ GE524.out|refine below_set ?_ GE526.out)|exact HB.out)⟩⟩
             ·replace c47:=Bool.eq_false_iff.mpr c47
              subst c47
              have H1 : (windlassref2_value.j2 kj36 l0 t539 x9_36 x10_36 t538 x12_36 true (wrap64 (rd l0 0)) 0 (⟨#[]⟩ : ByteArray) 0) = some (r1,r2,r3,r4,r5,r6,r7):=by rw [if_neg (show ¬ (false = true) by decide)] at H;exact H
              clear H
              have H:=H1
              clear H1
              have H':=Aside0.mk H
              clear H
              go_wp2
              go_meet
              case rel => exact ⟨_,(true),(by first|rfl|(simp;done)|(simp [*];done)),H',⟨by have:=HJ36.out;first|omega|exact Nat.le_refl _⟩,⟨by (with_reducible repeat (first|refine blk_drewN ?_ _|refine blk_drew ?_|refine blk_alloc ?_ _));exact BK524.out⟩,⟨by (with_reducible repeat (first|refine blk_drewN ?_ _|refine blk_drew ?_|refine blk_alloc ?_ _));exact BK526.out⟩,⟨by repeat (first|(with_reducible first|exact HB.out|apply below_alloc|apply pw_below_drewN|apply below_drew1|refine below_set ?_ GE524.out|refine below_set ?_ GE526.out)|exact HB.out)⟩⟩
            ·rw [if_neg c46] at H
             have c46b0 : (x10_36 == 0) = false:=beq_eq_false_iff_ne.mpr c46
             have c46b1 : (x10_36 != 0) = true:=bne_iff_ne.mpr c46
             (first|rw [c46b0]|(simp only [i64_w,i32_w];rw [c46b0])|skip)
             have H':=Aside0.mk H
             clear H
             go_wp2
             go_meet
             case rel => exact ⟨_,(true),(by first|rfl|(simp;done)|(simp [*];done)),H',⟨by have:=HJ36.out;first|omega|exact Nat.le_refl _⟩,⟨by (with_reducible repeat (first|refine blk_drewN ?_ _|refine blk_drew ?_|refine blk_alloc ?_ _));exact BK524.out⟩,⟨by (with_reducible repeat (first|refine blk_drewN ?_ _|refine blk_drew ?_|refine blk_alloc ?_ _));exact BK526.out⟩,⟨by repeat (first|(with_reducible first|exact HB.out|apply below_alloc|apply pw_below_drewN|apply below_drew1|refine below_set ?_ GE524.out|refine below_set ?_ GE526.out)|exact HB.out)⟩⟩
           case rest =>
            clear HC45
            try clear c1
            try clear c2
            try clear p2
            try clear c3
            try clear c3b0
            try clear c3b1
            try clear c3b2
            try clear c4
            try clear p5
            try clear q5
            try clear hx5
            try clear qi5
            try clear c6
            try clear c6b0
            try clear c6b1
            try clear p6
            try clear c10
            try clear c12
            try clear c12b0
            try clear c12b1
            try clear c13
            try clear c13b0
            try clear c13b1
            try clear c16
            try clear c18
            try clear c18b0
            try clear c18b1
            try clear c19
            try clear c19b0
            try clear c19b1
            try clear c22
            try clear c24
            try clear c24b0
            try clear c24b1
            try clear c26
            try clear c26b0
            try clear c26b1
            try clear c27
            try clear c27b0
            try clear c27b1
            try clear c28
            try clear c29
            try clear c31
            try clear c31b0
            try clear c31b1
            try clear c32
            try clear c34
            try clear c34b0
            try clear c34b1
            try clear c35
            try clear c35b0
            try clear c35b1
            try clear c39
            try clear c39b0
            try clear c39b1
            try clear c40
            try clear c41
            try clear c41b0
            try clear c41b1
            try clear c42
            try clear c42b0
            try clear c42b1
            try clear c46
            try clear c46b0
            try clear c46b1
            try clear c47
            try clear c48
            try clear c48b0
            try clear hcz11_0
            try clear hcz11_1
            try clear hcz11_2
            try clear hcz11_3
            try clear hcz11_4
            try clear hcz17_0
            try clear hcz17_1
            try clear hcz17_2
            try clear hcz17_3
            try clear hcz17_4
            try clear hcz23_0
            try clear hcz23_1
            try clear hcz23_2
            try clear hcz23_3
            try clear hcz23_4
            try clear hcz30_0
            try clear hcz30_1
            try clear hcz30_2
            try clear hcz30_3
            try clear hcz30_4
            try clear hcz33_0
            try clear hcz33_1
            try clear hcz33_2
            try clear hcz33_3
            try clear hcz33_4
            try clear hcz5_0
            try clear hcz5_1
            try clear hcz5_2
            try clear hcz5_3
            try clear hcz5_4
            try clear hfz11_0
            try clear hfz11_1
            try clear hfz11_2
            try clear hfz11_3
            try clear hfz11_4
            try clear hfz17_0
            try clear hfz17_1
            try clear hfz17_2
            try clear hfz17_3
            try clear hfz17_4
            try clear hfz23_0
            try clear hfz23_1
            try clear hfz23_2
            try clear hfz23_3
            try clear hfz23_4
            try clear hfz30_0
            try clear hfz30_1
            try clear hfz30_2
            try clear hfz30_3
            try clear hfz30_4
            try clear hfz33_0
            try clear hfz33_1
            try clear hfz33_2
            try clear hfz33_3
            try clear hfz33_4
            try clear hfz5_0
            try clear hfz5_1
            try clear hfz5_2
            try clear hfz5_3
            try clear hfz5_4
            try clear hx525_0
            try clear hx535_0
            try clear hx536_0
            try clear p2
            try clear p5
            try clear p525
            try clear p535
            try clear p536
            try clear p6
            try clear q5
            try clear q525
            try clear q535
            try clear q536
            obtain ⟨kq,x99_44,rfl,HA,HJ44,BK524,BK526,HB⟩:=hcut
            cases kq with
            | zero => exact absurd HA.out (by simp [windlassref2_value.j2])
            | succ kj44 =>
             have H:=HA.out
             clear HA
             simp only [windlassref2_value.j2] at H
             by_cases c49 : x99_44 = true
             ·subst c49
              have H1 : (some (0,0,(⟨#[]⟩ : ByteArray),0,([] : List (S24)),0,20)) = some (r1,r2,r3,r4,r5,r6,r7):=by rw [if_pos rfl] at H;exact H
              clear H
              have H:=H1
              clear H1
              simp only [Option.some.injEq,Prod.mk.injEq] at H
              obtain ⟨rfl,rfl,rfl,rfl,rfl,rfl,rfl⟩:=H
              have hnb50:=NB524_526.out
              have hnc50:=NB526_524.out
              have hcz51_0 : wc.cell? ⟨gb524,0,none⟩ = some (.int .i64 0):=(blk_cell BK524.out 0).trans rfl
              have hcz51_1 : wc.cell? ⟨gb524,1,none⟩ = some (.int .i64 0):=(blk_cell BK524.out 1).trans rfl
              have hcz51_2 : wc.cell? ⟨gb524,2,none⟩ = some (.string (⟨#[]⟩ : ByteArray)):=(blk_cell BK524.out 2).trans rfl
              have hcz51_3 : wc.cell? ⟨gb524,3,none⟩ = some (.int .i64 0):=(blk_cell BK524.out 3).trans rfl
              have hcz51_4 : wc.cell? ⟨gb524,4,none⟩ = some (.slice none 0 0):=(blk_cell BK524.out 4).trans rfl
              have hfz51_0:=blk_frozen BK524.out 0
              have hfz51_1:=blk_frozen BK524.out 1
              have hfz51_2:=blk_frozen BK524.out 2
              have hfz51_3:=blk_frozen BK524.out 3
              have hfz51_4:=blk_frozen BK524.out 4
              go_wp2
              refine bodyPost_ret (results_ctt rfl _ _ gb524 24 #[.int .i64 0, .int .i64 0, .string (⟨#[]⟩ : ByteArray), .int .i64 0, .slice none 0 0] (0,0) _ rfl (by (with_reducible repeat (first|refine blk_drewN ?_ _|refine blk_drew ?_|refine blk_alloc ?_ _));refine blk_put (cs:=#[.int .i64 0, .int .i64 0, .string (⟨#[]⟩ : ByteArray), .int .i64 0, .slice none 0 0]) ?_ 4 _ rfl;(with_reducible repeat (first|refine blk_drewN ?_ _|refine blk_drew ?_|refine blk_alloc ?_ _));refine blk_put (cs:=#[.int .i64 0, .int .i64 0, .string (⟨#[]⟩ : ByteArray), .int .i64 0, .slice none 0 0]) ?_ 3 _ rfl;(with_reducible repeat (first|refine blk_drewN ?_ _|refine blk_drew ?_|refine blk_alloc ?_ _));refine blk_put (cs:=#[.int .i64 0, .int .i64 0, .string (⟨#[]⟩ : ByteArray), .int .i64 0, .slice none 0 0]) ?_ 2 _ rfl;(with_reducible repeat (first|refine blk_drewN ?_ _|refine blk_drew ?_|refine blk_alloc ?_ _));refine blk_put (cs:=#[.int .i64 0, .int .i64 0, .string (⟨#[]⟩ : ByteArray), .int .i64 0, .slice none 0 0]) ?_ 1 _ rfl;(with_reducible repeat (first|refine blk_drewN ?_ _|refine blk_drew ?_|refine blk_alloc ?_ _));refine blk_put (cs:=#[.int .i64 0, .int .i64 0, .string (⟨#[]⟩ : ByteArray), .int .i64 0, .slice none 0 0]) ?_ 0 _ rfl;(with_reducible repeat (first|refine blk_drewN ?_ _|refine blk_drew ?_|refine blk_alloc ?_ _));exact BK524.out) Try.underlying24 rfl (by kernel_rfl)) rfl ?_
              exact ⟨_,by first|rfl|(simp [errW_none,errW_some] <;> rfl)|(simp [*,errW_none,errW_some] <;> rfl),by first|exact Kd.R_nil _ _ _ _ _|exact Kd.N_nil _ _ _ _ _|exact Kd.V_nil _ _ _ _ _|exact Kd.Q_nil _ _ _ _ _|exact Kd.S_nil _ _ _ _ _,by repeat (first|(with_reducible first|exact HB.out|apply below_alloc|apply pw_below_drewN|apply below_drew1|refine below_set ?_ GE524.out|refine below_set ?_ GE526.out)|exact HB.out)⟩
             ·replace c49:=Bool.eq_false_iff.mpr c49
              subst c49
              have H1 : (windlassref2_value.l0 kj44 l0 (wrap64 (t539 + x9_36)) x10_36 x12_36 0 (wrap64 (rd l0 0)) 0 (⟨#[]⟩ : ByteArray) (wrap64 (t538)) ([] : List (S24))) = some (r1,r2,r3,r4,r5,r6,r7):=by rw [if_neg (show ¬ (false = true) by decide)] at H;exact H
              clear H
              have H:=H1
              clear H1
              have H':=Aside0.mk H
              clear H
              have hnb52:=NB526_524.out
              have hnc52:=NB524_526.out
              have hcz53_0 : wc.cell? ⟨gb526,0,none⟩ = some (.int .i64 (wrap64 (rd l0 0))):=(blk_cell BK526.out 0).trans rfl
              have hcz53_1 : wc.cell? ⟨gb526,1,none⟩ = some (.int .i64 0):=(blk_cell BK526.out 1).trans rfl
              have hcz53_2 : wc.cell? ⟨gb526,2,none⟩ = some (.string (⟨#[]⟩ : ByteArray)):=(blk_cell BK526.out 2).trans rfl
              have hcz53_3 : wc.cell? ⟨gb526,3,none⟩ = some (.int .i64 0):=(blk_cell BK526.out 3).trans rfl
              have hcz53_4 : wc.cell? ⟨gb526,4,none⟩ = some (.slice none 0 0):=(blk_cell BK526.out 4).trans rfl
              have hfz53_0:=blk_frozen BK526.out 0
              have hfz53_1:=blk_frozen BK526.out 1
              have hfz53_2:=blk_frozen BK526.out 2
              have hfz53_3:=blk_frozen BK526.out 3
              have hfz53_4:=blk_frozen BK526.out 4
              go_wp2
              go_loopg [8,13] kj44 (fun kq v8 v13 w' => ∃ (x8_3 : Int) (x13_3 : Int) (x525000_3 : Int) (x525001_3 : Int) (x525002_3 : ByteArray) (x525003_3 : Int) (x527004_3 : List (S24)) (u527004 : Value),v8 = .int .i64 x8_3 ∧ v13 = .int .u64 x13_3 ∧ Aside0 (windlassref2_value.l0 kq l0 x8_3 x10_36 x12_36 x13_3 (wrap64 (rd l0 0)) 0 (⟨#[]⟩ : ByteArray) (wrap64 (t538)) x527004_3 = some (r1,r2,r3,r4,r5,r6,r7)) ∧ Aside0 (kq ≤ kj44) ∧ Aside0 (Kd.R k24 24 w' w.heap.size (fun k_ => k_ ≠ gb524 ∧ k_ ≠ gb526) u527004 x527004_3) ∧ Aside0 (w'.heap[gb524]? = some (.cells #[.int .i64 x525000_3, .int .i64 x525001_3, .string x525002_3, .int .i64 x525003_3,(.slice none 0 0)] 24 (0,0))) ∧ Aside0 (w'.heap[gb526]? = some (.cells #[.int .i64 (wrap64 (rd l0 0)), .int .i64 0, .string (⟨#[]⟩ : ByteArray), .int .i64 (wrap64 (t538)),u527004] 24 (0,0))) ∧ Aside0 (Below w.heap.size w w'))
              case atStart => exact ⟨(wrap64 (t539 + x9_36)),(0),(0),(0),((⟨#[]⟩ : ByteArray)),(0),(([] : List (S24))),(.slice none 0 0),(by first|rfl|(simp;done)|(simp [*];done)),(by first|rfl|(simp;done)|(simp [*];done)),H',⟨Nat.le_refl _⟩,⟨by first|exact Kd.R_nil _ _ _ _ _|exact Kd.N_nil _ _ _ _ _|exact Kd.V_nil _ _ _ _ _|exact Kd.Q_nil _ _ _ _ _|exact Kd.S_nil _ _ _ _ _⟩,⟨by (with_reducible repeat (first|refine blk_drewN ?_ _|refine blk_drew ?_|refine blk_alloc ?_ _));refine blk_far ?_ NB524_526.out _;(with_reducible repeat (first|refine blk_drewN ?_ _|refine blk_drew ?_|refine blk_alloc ?_ _));exact BK524.out⟩,⟨by (with_reducible repeat (first|refine blk_drewN ?_ _|refine blk_drew ?_|refine blk_alloc ?_ _));refine blk_put (cs:=#[.int .i64 (wrap64 (rd l0 0)), .int .i64 0, .string (⟨#[]⟩ : ByteArray), .int .i64 0, .slice none 0 0]) ?_ 3 _ rfl;(with_reducible repeat (first|refine blk_drewN ?_ _|refine blk_drew ?_|refine blk_alloc ?_ _));exact BK526.out⟩,⟨by repeat (first|(with_reducible first|exact HB.out|apply below_alloc|apply pw_below_drewN|apply below_drew1|refine below_set ?_ GE524.out|refine below_set ?_ GE526.out)|exact HB.out)⟩⟩
              case round =>
               clear H'
               try clear c1
               try clear c2
               try clear p2
               try clear c3
               try clear c3b0
               try clear c3b1
               try clear c3b2
               try clear c4
               try clear c5
               try clear p5
               try clear q5
               try clear hx5
               try clear qi5
               try clear c6
               try clear c6b0
               try clear c6b1
               try clear p6
               try clear c10
               try clear c12
               try clear c12b0
               try clear c12b1
               try clear c13
               try clear c13b0
               try clear c13b1
               try clear c16
               try clear c18
               try clear c18b0
               try clear c18b1
               try clear c19
               try clear c19b0
               try clear c19b1
               try clear c22
               try clear c24
               try clear c24b0
               try clear c24b1
               try clear c26
               try clear c26b0
               try clear c26b1
               try clear c27
               try clear c27b0
               try clear c27b1
               try clear c28
               try clear c29
               try clear c31
               try clear c31b0
               try clear c31b1
               try clear c32
               try clear c34
               try clear c34b0
               try clear c34b1
               try clear c35
               try clear c35b0
               try clear c35b1
               try clear c39
               try clear c39b0
               try clear c39b1
               try clear c40
               try clear c41
               try clear c41b0
               try clear c41b1
               try clear c42
               try clear c42b0
               try clear c42b1
               try clear c46
               try clear c46b0
               try clear c46b1
               try clear c47
               try clear c48
               try clear c48b0
               try clear c49
               try clear c50
               try clear c52
               try clear p52
               try clear q52
               try clear hx52
               try clear p53
               try clear q53
               try clear hx53
               try clear qi53
               try clear hcz11_0
               try clear hcz11_1
               try clear hcz11_2
               try clear hcz11_3
               try clear hcz11_4
               try clear hcz17_0
               try clear hcz17_1
               try clear hcz17_2
               try clear hcz17_3
               try clear hcz17_4
               try clear hcz23_0
               try clear hcz23_1
               try clear hcz23_2
               try clear hcz23_3
               try clear hcz23_4
               try clear hcz30_0
               try clear hcz30_1
               try clear hcz30_2
               try clear hcz30_3
               try clear hcz30_4
               try clear hcz33_0
               try clear hcz33_1
               try clear hcz33_2
               try clear hcz33_3
               try clear hcz33_4
               try clear hcz51_0
               try clear hcz51_1
               try clear hcz51_2
               try clear hcz51_3
               try clear hcz51_4
               try clear hcz53_0
               try clear hcz53_1
               try clear hcz53_2
               try clear hcz53_3
               try clear hcz53_4
               try clear hcz5_0
               try clear hcz5_1
               try clear hcz5_2
               try clear hcz5_3
               try clear hcz5_4
               try clear hfz11_0
               try clear hfz11_1
               try clear hfz11_2
               try clear hfz11_3
               try clear hfz11_4
               try clear hfz17_0
               try clear hfz17_1
               try clear hfz17_2
               try clear hfz17_3
               try clear hfz17_4
               try clear hfz23_0
               try clear hfz23_1
               try clear hfz23_2
               try clear hfz23_3
               try clear hfz23_4
               try clear hfz30_0
               try clear hfz30_1
               try clear hfz30_2
               try clear hfz30_3
               try clear hfz30_4
               try clear hfz33_0
               try clear hfz33_1
               try clear hfz33_2
               try clear hfz33_3
               try clear hfz33_4
               try clear hfz51_0
               try clear hfz51_1
               try clear hfz51_2
               try clear hfz51_3
               try clear hfz51_4
               try clear hfz53_0
               try clear hfz53_1
               try clear hfz53_2
               try clear hfz53_3
               try clear hfz53_4
               try clear hfz5_0
               try clear hfz5_1
               try clear hfz5_2
               try clear hfz5_3
               try clear hfz5_4
               try clear hx525_0
               try clear hx535_0
               try clear hx536_0
               try clear p2
               try clear p5
               try clear p525
               try clear p535
               try clear p536
               try clear p6
               try clear q5
               try clear q525
               try clear q535
               try clear q536
               obtain ⟨x8_3,x13_3,x525000_3,x525001_3,x525002_3,x525003_3,x527004_3,u527004,rfl,rfl,HA,HK3,HO_527004,BK524,BK526,HB⟩:=hrel
               cases gk with
               | zero => exact absurd HA.out (by simp [windlassref2_value.l0])
               | succ k3 =>
                have H:=HA.out
                clear HA
                simp only [windlassref2_value.l0] at H
                by_cases c54 : x13_3 < x12_36
                ·rw [if_pos c54] at H
                 have c54b0 : decide (x13_3 < x12_36) = true:=decide_eq_true c54
                 clear c54
                 obtain ⟨ji55,hji55⟩ : ∃ j_ : Int,(wrap64 (1 + x8_3)) = j_:=⟨_,rfl⟩
                 replace H : (if 0 ≤ (ji55) then (if (ji55) ≤ (l0.length : Int) then ((windlassref2_value.f k3 (l0.drop ((ji55) : Int).toNat) false).bind fun bt546 => (if bt546.2.2.2.2.2.2 = 0 then (if x527004_3.length < 2199023255552 then (windlassref2_value.l0 k3 l0 (wrap64 (x8_3 + bt546.2.2.2.2.2.1)) x10_36 x12_36 (IntKind.u64.wrap (x13_3 + 1)) (wrap64 (rd l0 0)) 0 (⟨#[]⟩ : ByteArray) (wrap64 (t538)) (x527004_3 ++ [(⟨bt546.1,bt546.2.1,bt546.2.2.1,bt546.2.2.2.1,bt546.2.2.2.2.1⟩ : S24)])) else (none)) else (some (0,0,(⟨#[]⟩ : ByteArray),0,([] : List (S24)),0,20)))) else (none)) else (none)) = some (r1,r2,r3,r4,r5,r6,r7):=by first|(rw [hji55] at H;exact H)|(simp only [hji55] at H ⊢;exact H)
                 have hji55w : (IntKind.i64.wrap (1 + x8_3)) = ji55:=(i64_w _).trans hji55
                 by_cases c56 : 0 ≤ (ji55)
                 ·rw [if_pos c56] at H
                  have c56b0:=eq_true c56
                  have c56b1 : decide (0 ≤ (ji55)) = true:=decide_eq_true c56
                  clear c56
                  by_cases c57 : (ji55) ≤ (l0.length : Int)
                  ·rw [if_pos c57] at H
                   have c57b0:=eq_true c57
                   have c57b1 : decide ((ji55) ≤ (l0.length : Int)) = true:=decide_eq_true c57
                   clear c57
                   replace H:=Option.bind_eq_some_iff.mp H
                   obtain ⟨⟨t546,t547,t548,t549,t550,t553,t554⟩,A580,H⟩:=H
                   replace H : (if t554 = 0 then (if x527004_3.length < 2199023255552 then (windlassref2_value.l0 k3 l0 (wrap64 (x8_3 + t553)) x10_36 x12_36 (IntKind.u64.wrap (x13_3 + 1)) (wrap64 (rd l0 0)) 0 (⟨#[]⟩ : ByteArray) (wrap64 (t538)) (x527004_3 ++ [(⟨t546,t547,t548,t549,t550⟩ : S24)])) else (none)) else (some (0,0,(⟨#[]⟩ : ByteArray),0,([] : List (S24)),0,20))) = some (r1,r2,r3,r4,r5,r6,r7):=H
                   have A58:=Aside0.mk A580
                   clear A580
                   by_cases c59 : t554 = 0
                   ·rw [if_pos c59] at H
                    have c59b0 : (t554 == 0) = true:=beq_iff_eq.mpr c59
                    have c59b1 : (t554 != 0) = false:=bne_eq_false_iff_eq.mpr c59
                    clear c59
                    by_cases c60 : x527004_3.length < 2199023255552
                    ·rw [if_pos c60] at H
                     have LMc60:=Aside0.mk c60
                     clear c60
                     obtain ⟨y556,hy556⟩ : ∃ y_ : List (S24),y_ = (x527004_3 ++ [(⟨t546,t547,t548,t549,t550⟩ : S24)]):=⟨_,rfl⟩
                     replace H : (windlassref2_value.l0 k3 l0 (wrap64 (x8_3 + t553)) x10_36 x12_36 (IntKind.u64.wrap (x13_3 + 1)) (wrap64 (rd l0 0)) 0 (⟨#[]⟩ : ByteArray) (wrap64 (t538)) y556) = some (r1,r2,r3,r4,r5,r6,r7):=by first|(rw [hy556];with_reducible exact H)|(have H2_:=(Option.bind_some _ _).symm.trans H;rw [hy556];with_reducible exact H2_)|(have H2_:=(Option.bind_some _ _).symm.trans H;with_reducible exact H2_)|with_reducible exact H|(rw [hy556];exact H)|exact H
                     have Ny556:=Aside0.mk hy556
                     clear hy556
                     have H':=Aside0.mk H
                     clear H
                     obtain ⟨i061,hi061,_,hsz61,_⟩:=info_parts info5
                     obtain ⟨A61,hcut61,hA61,hC61⟩:=print_drop_of (P:=Try.prog) (Value.int .u8) 0 30 5 .i64 Try.underlying30 hi061 hsz61 (some ad525) c0 l0 (ji55) (of_decide_eq_true (by first|(with_reducible assumption)|assumption)) (of_decide_eq_true (by first|(with_reducible assumption)|assumption)) HC0.out
                     have HR545:=Aside0.mk (Kd.C_of_reads (h1:=fun _ => rfl) (hA61 _ (Kd.reads_of_C HR0.out)))
                     have HC545:=Aside0.mk hC61
                     clear hA61 hC61 hi061 hsz61
                     go_wp2_with (first|((with_reducible refine gate_callee (f:=41) rfl ?_);refine goesL_ (some 117) rfl rfl Try.func41 (by kernel_rfl) rfl #[.slice A61 (l0.drop ((ji55) : Int).toNat).length (c0 - (ji55).toNat), .bool false] rfl (by (try simp only [List.map_toArray,List.map_cons,List.map_nil]);first|done|(rw [show (l0.drop ((ji55) : Int).toNat).length = (l0.length - (ji55).toNat) from List.length_drop] <;> rfl)|(simp only [hji55];rfl)|rfl|(simp only [List.length_drop,List.length_take];rfl)|(go_simp;done)|(go_simp;simp;done)) ?_;(with_reducible refine (ih k3 (by have:=HJ36.out;have:=HJ44.out;have:=HK3.out;omega) _ _ (l0.drop ((ji55) : Int).toNat) false t546 t547 t548 t549 t550 t553 t554 _ ?side1 ?side2 A58.out).mono ?_);(case side1 => repeat (first|exact (Kd.C_below HR545.out HB.out)|(with_reducible refine Kd.C_alloc ?_ _)|(with_reducible refine Kd.C_drewN ?_ _)|(with_reducible refine Kd.C_drew ?_)));(case side2 => exact HC545.out);rintro e w62 ⟨v551,rfl,ho0,hb⟩;refine ⟨_,rfl,?_⟩;have n0_:=Aside0.mk (Kd.R_elder' (by (with_reducible repeat (first|apply Kd.R_alloc|apply Kd.R_drewN|apply Kd.R_drew));exact HO_527004.out) (Kd.R_base ho0) hb);have n1_:=Aside0.mk (Kd.R_lower (Kd.R_newB (Kd.R_newB (Kd.R_new' ho0 (Kd.R_lt (by (with_reducible repeat (first|apply Kd.R_alloc|apply Kd.R_drewN|apply Kd.R_drew));exact HO_527004.out))) (g:=gb524) (o := .cells #[.int .i64 x525000_3, .int .i64 x525001_3, .string x525002_3, .int .i64 x525003_3, .slice none 0 0] 24 (0,0)) (by (with_reducible repeat (first|refine blk_drewN ?_ _|refine blk_drew ?_|refine blk_alloc ?_ _));exact BK524.out)) (g:=gb526) (o := .cells #[.int .i64 (wrap64 (rd l0 0)), .int .i64 0, .string (⟨#[]⟩ : ByteArray), .int .i64 (wrap64 (t538)),u527004] 24 (0,0)) (by (with_reducible repeat (first|refine blk_drewN ?_ _|refine blk_drew ?_|refine blk_alloc ?_ _));exact BK526.out)) (below_size (by repeat (first|(with_reducible first|exact HB.out|apply below_alloc|apply pw_below_drewN|apply below_drew1|refine below_set ?_ GE524.out|refine below_set ?_ GE526.out)|exact HB.out))));have n2_:=Aside0.mk (blk_below (g:=gb524) (o := .cells #[.int .i64 x525000_3, .int .i64 x525001_3, .string x525002_3, .int .i64 x525003_3, .slice none 0 0] 24 (0,0)) (by (with_reducible repeat (first|refine blk_drewN ?_ _|refine blk_drew ?_|refine blk_alloc ?_ _));exact BK524.out) hb);have n3_:=Aside0.mk (blk_below (g:=gb526) (o := .cells #[.int .i64 (wrap64 (rd l0 0)), .int .i64 0, .string (⟨#[]⟩ : ByteArray), .int .i64 (wrap64 (t538)),u527004] 24 (0,0)) (by (with_reducible repeat (first|refine blk_drewN ?_ _|refine blk_drew ?_|refine blk_alloc ?_ _));exact BK526.out) hb);have n4_:=Aside0.mk (below_step (by repeat (first|(with_reducible first|exact HB.out|apply below_alloc|apply pw_below_drewN|apply below_drew1|refine below_set ?_ GE524.out|refine below_set ?_ GE526.out)|exact HB.out)) hb);clear HO_527004;clear BK524;clear BK526;clear HB;have HO_527004:=n0_;have HO552:=n1_;have BK524:=n2_;have BK526:=n3_;have HB:=n4_;clear n0_ n1_ n2_ n3_ n4_;(try clear hb);(try clear hb2);(try clear hk);(try clear hi);(try clear ho0))|((with_reducible refine gate_dst (N:=14) rfl ?_);refine box_event ?hg (N:=14) ?hd (cs:=#[.int .i64 0, .int .i64 0, .string (⟨#[]⟩ : ByteArray), .int .i64 0, .slice none 0 0]) (t:=24) ?hr ?_;(case hd => rfl);(case hg => rfl);(case hr => first|(go_simp;done)|(go_simp;rfl));intro gb555 hg w63 hbox hb;have n0_:=Aside0.mk (Kd.R_below (Kd.R_elderB (by (with_reducible repeat (first|apply Kd.R_alloc|apply Kd.R_drewN|apply Kd.R_drew));exact HO_527004.out) gb555 (Nat.le_of_eq hg.symm)) hb);have n1_:=Aside0.mk (Kd.R_below (Kd.R_elderB (by (with_reducible repeat (first|apply Kd.R_alloc|apply Kd.R_drewN|apply Kd.R_drew));exact HO552.out) gb555 (Nat.le_of_eq hg.symm)) hb);have n2_:=Aside0.mk (blk_below (g:=gb524) (o := .cells #[.int .i64 x525000_3, .int .i64 x525001_3, .string x525002_3, .int .i64 x525003_3, .slice none 0 0] 24 (0,0)) (by (with_reducible repeat (first|refine blk_drewN ?_ _|refine blk_drew ?_|refine blk_alloc ?_ _));exact BK524.out) hb);have n3_:=Aside0.mk (blk_below (g:=gb526) (o := .cells #[.int .i64 (wrap64 (rd l0 0)), .int .i64 0, .string (⟨#[]⟩ : ByteArray), .int .i64 (wrap64 (t538)),u527004] 24 (0,0)) (by (with_reducible repeat (first|refine blk_drewN ?_ _|refine blk_drew ?_|refine blk_alloc ?_ _));exact BK526.out) hb);have n4_:=Aside0.mk (below_step (by repeat (first|(with_reducible first|exact HB.out|apply below_alloc|apply pw_below_drewN|apply below_drew1|refine below_set ?_ GE524.out|refine below_set ?_ GE526.out)|exact HB.out)) hb);have n5_:=Aside0.mk (hbox);have n6_:=Aside0.mk ((by rw [hg];exact (below_size (by repeat (first|(with_reducible first|exact HB.out|apply below_alloc|apply pw_below_drewN|apply below_drew1|refine below_set ?_ GE524.out|refine below_set ?_ GE526.out)|exact HB.out))) : w.heap.size ≤ gb555));have n7_:=Aside0.mk ((by rw [hg];exact (below_size (by repeat (first|(with_reducible first|exact HB.out|apply below_alloc|apply pw_below_drewN|apply below_drew1|refine below_set ?_ GE524.out|refine below_set ?_ GE526.out)|exact HB.out))) : w.heap.size ≤ gb555));have n8_:=Aside0.mk ((by rw [hg];exact Nat.ne_of_lt (blk_lt (g:=gb524) (o := .cells #[.int .i64 x525000_3, .int .i64 x525001_3, .string x525002_3, .int .i64 x525003_3, .slice none 0 0] 24 (0,0)) (by (with_reducible repeat (first|refine blk_drewN ?_ _|refine blk_drew ?_|refine blk_alloc ?_ _));exact BK524.out)) : gb524 ≠ gb555));have n9_:=Aside0.mk ((by rw [hg];exact Nat.ne_of_gt (blk_lt (g:=gb524) (o := .cells #[.int .i64 x525000_3, .int .i64 x525001_3, .string x525002_3, .int .i64 x525003_3, .slice none 0 0] 24 (0,0)) (by (with_reducible repeat (first|refine blk_drewN ?_ _|refine blk_drew ?_|refine blk_alloc ?_ _));exact BK524.out)) : gb555 ≠ gb524));have n10_:=Aside0.mk ((by rw [hg];exact Nat.ne_of_lt (blk_lt (g:=gb526) (o := .cells #[.int .i64 (wrap64 (rd l0 0)), .int .i64 0, .string (⟨#[]⟩ : ByteArray), .int .i64 (wrap64 (t538)),u527004] 24 (0,0)) (by (with_reducible repeat (first|refine blk_drewN ?_ _|refine blk_drew ?_|refine blk_alloc ?_ _));exact BK526.out)) : gb526 ≠ gb555));have n11_:=Aside0.mk ((by rw [hg];exact Nat.ne_of_gt (blk_lt (g:=gb526) (o := .cells #[.int .i64 (wrap64 (rd l0 0)), .int .i64 0, .string (⟨#[]⟩ : ByteArray), .int .i64 (wrap64 (t538)),u527004] 24 (0,0)) (by (with_reducible repeat (first|refine blk_drewN ?_ _|refine blk_drew ?_|refine blk_alloc ?_ _));exact BK526.out)) : gb555 ≠ gb526));clear HO_527004;clear HO552;clear BK524;clear BK526;clear HB;have HO_527004:=n0_;have HO552:=n1_;have BK524:=n2_;have BK526:=n3_;have HB:=n4_;have BK555:=n5_;have GW555:=n6_;have GE555:=n7_;have NB524_555:=n8_;have NB555_524:=n9_;have NB526_555:=n10_;have NB555_526:=n11_;clear n0_ n1_ n2_ n3_ n4_ n5_ n6_ n7_ n8_ n9_ n10_ n11_;clear hb hbox hg;have hnb64:=NB555_524.out;have hnc64:=NB524_555.out;have hnb65:=NB555_526.out;have hnc65:=NB526_555.out;have hcz66_0 : w63.cell? ⟨gb555,0,none⟩ = some (.int .i64 0):=(blk_cell BK555.out 0).trans rfl;have hcz66_1 : w63.cell? ⟨gb555,1,none⟩ = some (.int .i64 0):=(blk_cell BK555.out 1).trans rfl;have hcz66_2 : w63.cell? ⟨gb555,2,none⟩ = some (.string (⟨#[]⟩ : ByteArray)):=(blk_cell BK555.out 2).trans rfl;have hcz66_3 : w63.cell? ⟨gb555,3,none⟩ = some (.int .i64 0):=(blk_cell BK555.out 3).trans rfl;have hcz66_4 : w63.cell? ⟨gb555,4,none⟩ = some (.slice none 0 0):=(blk_cell BK555.out 4).trans rfl;have hfz66_0:=blk_frozen BK555.out 0;have hfz66_1:=blk_frozen BK555.out 1;have hfz66_2:=blk_frozen BK555.out 2;have hfz66_3:=blk_frozen BK555.out 3;have hfz66_4:=blk_frozen BK555.out 4;obtain ⟨Ao67,co67,eo67⟩:=Kd.R_slice HO552.out;subst eo67)|((with_reducible refine gate_store (t:=24) (p:=14) rfl ?_);refine store_event (t:=24) (p:=14) (v:=?vo_w68) (w1:=(((((w63.setCell ⟨gb555,0,none⟩ (.int .i64 t546)).setCell ⟨gb555,1,none⟩ (.int .i64 t547)).setCell ⟨gb555,2,none⟩ (.string t548)).setCell ⟨gb555,3,none⟩ (.int .i64 t549)).setCell ⟨gb555,4,none⟩ (.slice Ao67 t550.length co67))) ?hg ?ho ?hn ?hr ?_;(case ho => rfl);(case hg => rfl);(case hn => rfl);(case hr => first|(go_simp;done)|(go_simp;rfl));intro w68 hw;have n0_ : Aside0 (Kd.R k24 24 w68 w.heap.size (fun k_ => some k_ ≠ (.slice Ao67 t550.length co67 : Value).ownBlock ∧ k_ ≠ gb524 ∧ k_ ≠ gb526 ∧ k_ ≠ gb555) u527004 x527004_3):=⟨(by rw [hw];exact (by (with_reducible repeat (first|apply Kd.R_alloc|apply Kd.R_drewN|apply Kd.R_drew));exact Kd.R_mono (Kd.R_far (p:=⟨gb555,4,none⟩) (Kd.R_far (p:=⟨gb555,3,none⟩) (Kd.R_far (p:=⟨gb555,2,none⟩) (Kd.R_far (p:=⟨gb555,1,none⟩) (Kd.R_far (p:=⟨gb555,0,none⟩) (Kd.R_mono HO_527004.out (fun k_ hk => (⟨hk,hk.2⟩ : _ ∧ k_ ≠ gb555))) (fun _ hk => hk.2) (.int .i64 t546)) (fun _ hk => hk.2) (.int .i64 t547)) (fun _ hk => hk.2) (.string t548)) (fun _ hk => hk.2) (.int .i64 t549)) (fun _ hk => hk.2) (.slice Ao67 t550.length co67)) (fun _ hk => ⟨hk.1.1.2,⟨hk.1.1.1.1,⟨hk.1.1.1.2,hk.1.2⟩⟩⟩)))⟩;have n1_ : Aside0 (Kd.R k24 24 w68 w.heap.size (fun k_ => some k_ ≠ (u527004 : Value).ownBlock ∧ k_ ≠ gb524 ∧ k_ ≠ gb526 ∧ k_ ≠ gb555) (.slice Ao67 t550.length co67) t550):=⟨(by rw [hw];exact (by (with_reducible repeat (first|apply Kd.R_alloc|apply Kd.R_drewN|apply Kd.R_drew));exact Kd.R_mono (Kd.R_far (p:=⟨gb555,4,none⟩) (Kd.R_far (p:=⟨gb555,3,none⟩) (Kd.R_far (p:=⟨gb555,2,none⟩) (Kd.R_far (p:=⟨gb555,1,none⟩) (Kd.R_far (p:=⟨gb555,0,none⟩) (Kd.R_mono HO552.out (fun k_ hk => (⟨hk,hk.2⟩ : _ ∧ k_ ≠ gb555))) (fun _ hk => hk.2) (.int .i64 t546)) (fun _ hk => hk.2) (.int .i64 t547)) (fun _ hk => hk.2) (.string t548)) (fun _ hk => hk.2) (.int .i64 t549)) (fun _ hk => hk.2) (.slice Ao67 t550.length co67)) (fun _ hk => ⟨hk.1.1.1.1.2,⟨hk.1.1.1.2,⟨hk.1.1.2,hk.1.2⟩⟩⟩)))⟩;have n2_ : Aside0 (w68.heap[gb524]? = some (.cells #[.int .i64 x525000_3, .int .i64 x525001_3, .string x525002_3, .int .i64 x525003_3, .slice none 0 0] 24 (0,0))):=⟨(by rw [hw];exact (by (with_reducible repeat (first|refine blk_drewN ?_ _|refine blk_drew ?_|refine blk_alloc ?_ _));refine blk_far ?_ NB524_555.out _;(with_reducible repeat (first|refine blk_drewN ?_ _|refine blk_drew ?_|refine blk_alloc ?_ _));refine blk_far ?_ NB524_555.out _;(with_reducible repeat (first|refine blk_drewN ?_ _|refine blk_drew ?_|refine blk_alloc ?_ _));refine blk_far ?_ NB524_555.out _;(with_reducible repeat (first|refine blk_drewN ?_ _|refine blk_drew ?_|refine blk_alloc ?_ _));refine blk_far ?_ NB524_555.out _;(with_reducible repeat (first|refine blk_drewN ?_ _|refine blk_drew ?_|refine blk_alloc ?_ _));refine blk_far ?_ NB524_555.out _;(with_reducible repeat (first|refine blk_drewN ?_ _|refine blk_drew ?_|refine blk_alloc ?_ _));exact BK524.out))⟩;have n3_ : Aside0 (w68.heap[gb526]? = some (.cells #[.int .i64 (wrap64 (rd l0 0)), .int .i64 0, .string (⟨#[]⟩ : ByteArray), .int .i64 (wrap64 (t538)),u527004] 24 (0,0))):=⟨(by rw [hw];exact (by (with_reducible repeat (first|refine blk_drewN ?_ _|refine blk_drew ?_|refine blk_alloc ?_ _));refine blk_far ?_ NB526_555.out _;(with_reducible repeat (first|refine blk_drewN ?_ _|refine blk_drew ?_|refine blk_alloc ?_ _));refine blk_far ?_ NB526_555.out _;(with_reducible repeat (first|refine blk_drewN ?_ _|refine blk_drew ?_|refine blk_alloc ?_ _));refine blk_far ?_ NB526_555.out _;(with_reducible repeat (first|refine blk_drewN ?_ _|refine blk_drew ?_|refine blk_alloc ?_ _));refine blk_far ?_ NB526_555.out _;(with_reducible repeat (first|refine blk_drewN ?_ _|refine blk_drew ?_|refine blk_alloc ?_ _));refine blk_far ?_ NB526_555.out _;(with_reducible repeat (first|refine blk_drewN ?_ _|refine blk_drew ?_|refine blk_alloc ?_ _));exact BK526.out))⟩;have n4_ : Aside0 (w68.heap[gb555]? = some (.cells #[.int .i64 t546, .int .i64 t547, .string t548, .int .i64 t549, .slice Ao67 t550.length co67] 24 (0,0))):=⟨(by rw [hw];exact (by (with_reducible repeat (first|refine blk_drewN ?_ _|refine blk_drew ?_|refine blk_alloc ?_ _));refine blk_put (cs:=#[.int .i64 t546, .int .i64 t547, .string t548, .int .i64 t549, .slice none 0 0]) ?_ 4 _ rfl;(with_reducible repeat (first|refine blk_drewN ?_ _|refine blk_drew ?_|refine blk_alloc ?_ _));refine blk_put (cs:=#[.int .i64 t546, .int .i64 t547, .string t548, .int .i64 0, .slice none 0 0]) ?_ 3 _ rfl;(with_reducible repeat (first|refine blk_drewN ?_ _|refine blk_drew ?_|refine blk_alloc ?_ _));refine blk_put (cs:=#[.int .i64 t546, .int .i64 t547, .string (⟨#[]⟩ : ByteArray), .int .i64 0, .slice none 0 0]) ?_ 2 _ rfl;(with_reducible repeat (first|refine blk_drewN ?_ _|refine blk_drew ?_|refine blk_alloc ?_ _));refine blk_put (cs:=#[.int .i64 t546, .int .i64 0, .string (⟨#[]⟩ : ByteArray), .int .i64 0, .slice none 0 0]) ?_ 1 _ rfl;(with_reducible repeat (first|refine blk_drewN ?_ _|refine blk_drew ?_|refine blk_alloc ?_ _));refine blk_put (cs:=#[.int .i64 0, .int .i64 0, .string (⟨#[]⟩ : ByteArray), .int .i64 0, .slice none 0 0]) ?_ 0 _ rfl;(with_reducible repeat (first|refine blk_drewN ?_ _|refine blk_drew ?_|refine blk_alloc ?_ _));exact BK555.out))⟩;have n5_ : Aside0 (Below w.heap.size w w68):=⟨(by rw [hw];exact (by repeat (first|(with_reducible first|exact HB.out|apply below_alloc|apply pw_below_drewN|apply below_drew1|refine below_set ?_ GE524.out|refine below_set ?_ GE526.out|refine below_set ?_ GE555.out)|exact HB.out)))⟩;clear hw;clear HO_527004;clear HO552;clear BK524;clear BK526;clear BK555;clear HB;have HO_527004:=n0_;have HO552:=n1_;have BK524:=n2_;have BK526:=n3_;have BK555:=n4_;have HB:=n5_;clear n0_ n1_ n2_ n3_ n4_ n5_;have hnb69:=NB526_524.out;have hnc69:=NB524_526.out;have hcz70_0 : w68.cell? ⟨gb526,0,none⟩ = some (.int .i64 (wrap64 (rd l0 0))):=(blk_cell BK526.out 0).trans rfl;have hcz70_1 : w68.cell? ⟨gb526,1,none⟩ = some (.int .i64 0):=(blk_cell BK526.out 1).trans rfl;have hcz70_2 : w68.cell? ⟨gb526,2,none⟩ = some (.string (⟨#[]⟩ : ByteArray)):=(blk_cell BK526.out 2).trans rfl;have hcz70_3 : w68.cell? ⟨gb526,3,none⟩ = some (.int .i64 (wrap64 (t538))):=(blk_cell BK526.out 3).trans rfl;have hcz70_4 : w68.cell? ⟨gb526,4,none⟩ = some (u527004):=(blk_cell BK526.out 4).trans rfl;have hfz70_0:=blk_frozen BK526.out 0;have hfz70_1:=blk_frozen BK526.out 1;have hfz70_2:=blk_frozen BK526.out 2;have hfz70_3:=blk_frozen BK526.out 3;have hfz70_4:=blk_frozen BK526.out 4;have hcz71_0 : w68.cell? ⟨gb555,0,none⟩ = some (.int .i64 t546):=(blk_cell BK555.out 0).trans rfl;have hcz71_1 : w68.cell? ⟨gb555,1,none⟩ = some (.int .i64 t547):=(blk_cell BK555.out 1).trans rfl;have hcz71_2 : w68.cell? ⟨gb555,2,none⟩ = some (.string t548):=(blk_cell BK555.out 2).trans rfl;have hcz71_3 : w68.cell? ⟨gb555,3,none⟩ = some (.int .i64 t549):=(blk_cell BK555.out 3).trans rfl;have hcz71_4 : w68.cell? ⟨gb555,4,none⟩ = some (.slice Ao67 t550.length co67):=(blk_cell BK555.out 4).trans rfl;have hfz71_0:=blk_frozen BK555.out 0;have hfz71_1:=blk_frozen BK555.out 1;have hfz71_2:=blk_frozen BK555.out 2;have hfz71_3:=blk_frozen BK555.out 3;have hfz71_4:=blk_frozen BK555.out 4)|((with_reducible refine gate_builtin (b := .append) (xs:=#[.tmp 125, .tmp 127]) rfl ?_);at_builtin;refine Kd.R_append k24 (w0:=w) w.heap.size rfl (.tmp 125) (.tmp 127) 22 24 (.agg #[(.int .i64 0),(.int .i64 0),(.string ⟨#[]⟩),(.int .i64 0),(.slice none 0 0)]) 64 rfl Try.underlying22 info24 rfl (by decide) (by omega) u527004 x527004_3 (⟨t546,t547,t548,t549,t550⟩ : S24) [.int .i64 t546, .int .i64 t547, .string t548, .int .i64 t549, .slice Ao67 t550.length co67] (fun k_ => k_ ≠ gb524 ∧ k_ ≠ gb526 ∧ k_ ≠ gb555) (fun k_ => ((fun k_ => k_ ≠ gb524 ∧ k_ ≠ gb526 ∧ k_ ≠ gb555)) k_ ∧ some k_ ≠ (u527004 : Value).ownBlock) rfl rfl ?aP (fun _ hk => hk) ?aF ?aO ?aB ?aS ?aL ?_;(case aP => exact k24_mkM _ _ _ (⟨t546,t547,t548,t549,t550⟩ : S24) (Kd.R_mono (HO552.out) (fun k_ hk => ⟨⟨hk.2.1,⟨hk.2.2.1,hk.2.2.2⟩⟩,hk.1⟩)));(case aB => exact (by repeat (first|(with_reducible first|exact HB.out|apply below_alloc|apply pw_below_drewN|apply below_drew1|refine below_set ?_ GE524.out|refine below_set ?_ GE526.out|refine below_set ?_ GE555.out)|exact HB.out)));(case aF => exact (fun k_ hk => ⟨Kd.freshB (g:=gb524) (o := .cells #[.int .i64 x525000_3, .int .i64 x525001_3, .string x525002_3, .int .i64 x525003_3, .slice none 0 0] 24 (0,0)) (by (with_reducible repeat (first|refine blk_drewN ?_ _|refine blk_drew ?_|refine blk_alloc ?_ _));exact BK524.out) k_ hk,Kd.freshB (g:=gb526) (o := .cells #[.int .i64 (wrap64 (rd l0 0)), .int .i64 0, .string (⟨#[]⟩ : ByteArray), .int .i64 (wrap64 (t538)),u527004] 24 (0,0)) (by (with_reducible repeat (first|refine blk_drewN ?_ _|refine blk_drew ?_|refine blk_alloc ?_ _));exact BK526.out) k_ hk,Kd.freshB (g:=gb555) (o := .cells #[.int .i64 t546, .int .i64 t547, .string t548, .int .i64 t549, .slice Ao67 t550.length co67] 24 (0,0)) (by (with_reducible repeat (first|refine blk_drewN ?_ _|refine blk_drew ?_|refine blk_alloc ?_ _));exact BK555.out) k_ hk⟩));(case aO => exact (by (with_reducible repeat (first|apply Kd.R_alloc|apply Kd.R_drewN|apply Kd.R_drew));exact Kd.R_mono HO_527004.out (fun _ hk => ⟨hk.2.1,⟨hk.2.2.1,hk.2.2.2⟩⟩)));(case aS => exact (below_size (by repeat (first|(with_reducible first|exact HB.out|apply below_alloc|apply pw_below_drewN|apply below_drew1|refine below_set ?_ GE524.out|refine below_set ?_ GE526.out|refine below_set ?_ GE555.out)|exact HB.out))));(case aL => have:=LMc60.out;omega);intro v557 w72 ho hb hg hat;rw [← Ny556.out] at ho;have n0_:=Aside0.mk (blk_grown (g:=gb524) (o := .cells #[.int .i64 x525000_3, .int .i64 x525001_3, .string x525002_3, .int .i64 x525003_3, .slice none 0 0] 24 (0,0)) (by (with_reducible repeat (first|refine blk_drewN ?_ _|refine blk_drew ?_|refine blk_alloc ?_ _));exact BK524.out) hg (Kd.R_away HO_527004.out (fun _ hk => hk.2.1)));have n1_:=Aside0.mk (blk_grown (g:=gb526) (o := .cells #[.int .i64 (wrap64 (rd l0 0)), .int .i64 0, .string (⟨#[]⟩ : ByteArray), .int .i64 (wrap64 (t538)),u527004] 24 (0,0)) (by (with_reducible repeat (first|refine blk_drewN ?_ _|refine blk_drew ?_|refine blk_alloc ?_ _));exact BK526.out) hg (Kd.R_away HO_527004.out (fun _ hk => hk.2.2.1)));have n2_:=Aside0.mk (blk_grown (g:=gb555) (o := .cells #[.int .i64 t546, .int .i64 t547, .string t548, .int .i64 t549, .slice Ao67 t550.length co67] 24 (0,0)) (by (with_reducible repeat (first|refine blk_drewN ?_ _|refine blk_drew ?_|refine blk_alloc ?_ _));exact BK555.out) hg (Kd.R_away HO_527004.out (fun _ hk => hk.2.2.2)));have n3_:=Aside0.mk (hb);have n4_:=Aside0.mk (ho);clear BK524;clear BK526;clear BK555;clear HB;clear HO_527004;clear HO552;have BK524:=n0_;have BK526:=n1_;have BK555:=n2_;have HB:=n3_;have HO558:=n4_;clear n0_ n1_ n2_ n3_ n4_;clear ho hb hg hat;obtain ⟨Ao73,co73,eo73⟩:=Kd.R_slice HO558.out;subst eo73;have hcz74_0 : w72.cell? ⟨gb526,0,none⟩ = some (.int .i64 (wrap64 (rd l0 0))):=(blk_cell BK526.out 0).trans rfl;have hcz74_1 : w72.cell? ⟨gb526,1,none⟩ = some (.int .i64 0):=(blk_cell BK526.out 1).trans rfl;have hcz74_2 : w72.cell? ⟨gb526,2,none⟩ = some (.string (⟨#[]⟩ : ByteArray)):=(blk_cell BK526.out 2).trans rfl;have hcz74_3 : w72.cell? ⟨gb526,3,none⟩ = some (.int .i64 (wrap64 (t538))):=(blk_cell BK526.out 3).trans rfl;have hcz74_4 : w72.cell? ⟨gb526,4,none⟩ = some (u527004):=(blk_cell BK526.out 4).trans rfl;have hfz74_0:=blk_frozen BK526.out 0;have hfz74_1:=blk_frozen BK526.out 1;have hfz74_2:=blk_frozen BK526.out 2;have hfz74_3:=blk_frozen BK526.out 3;have hfz74_4:=blk_frozen BK526.out 4))
                     go_roundg k3
                     case measure => have:=HJ36.out;have:=HJ44.out;have:=HK3.out;omega
                     case rel => exact ⟨(wrap64 (x8_3 + t553)),(IntKind.u64.wrap (x13_3 + 1)),(x525000_3),(x525001_3),(x525002_3),(x525003_3),(y556),(.slice Ao73 y556.length co73),(by first|rfl|(simp;done)|(simp [*];done)),(by first|rfl|(simp;done)|(simp [*];done)),H',⟨by have:=HJ36.out;have:=HJ44.out;have:=HK3.out;omega⟩,⟨by (with_reducible repeat (first|apply Kd.R_alloc|apply Kd.R_drewN|apply Kd.R_drew));exact Kd.R_mono (Kd.R_far (p:=⟨gb526,4,none⟩) (Kd.R_mono HO558.out (fun k_ hk => (⟨hk,hk.2.1⟩ : _ ∧ k_ ≠ gb526))) (fun _ hk => hk.2) (.slice Ao73 y556.length co73)) (fun _ hk => ⟨hk.1.1,hk.1.2.1⟩)⟩,⟨by (with_reducible repeat (first|refine blk_drewN ?_ _|refine blk_drew ?_|refine blk_alloc ?_ _));refine blk_far ?_ NB524_526.out _;(with_reducible repeat (first|refine blk_drewN ?_ _|refine blk_drew ?_|refine blk_alloc ?_ _));exact BK524.out⟩,⟨by (with_reducible repeat (first|refine blk_drewN ?_ _|refine blk_drew ?_|refine blk_alloc ?_ _));refine blk_put (cs:=#[.int .i64 (wrap64 (rd l0 0)), .int .i64 0, .string (⟨#[]⟩ : ByteArray), .int .i64 (wrap64 (t538)),u527004]) ?_ 4 _ rfl;(with_reducible repeat (first|refine blk_drewN ?_ _|refine blk_drew ?_|refine blk_alloc ?_ _));exact BK526.out⟩,⟨by repeat (first|(with_reducible first|exact HB.out|apply below_alloc|apply pw_below_drewN|apply below_drew1|refine below_set ?_ GE524.out|refine below_set ?_ GE526.out|refine below_set ?_ GE555.out)|exact HB.out)⟩⟩
                    ·rw [if_neg c60] at H
                     exact absurd H (by simp)
                   ·rw [if_neg c59] at H
                    have c59b0 : (t554 == 0) = false:=beq_eq_false_iff_ne.mpr c59
                    have c59b1 : (t554 != 0) = true:=bne_iff_ne.mpr c59
                    simp only [Option.some.injEq,Prod.mk.injEq] at H
                    obtain ⟨rfl,rfl,rfl,rfl,rfl,rfl,rfl⟩:=H
                    obtain ⟨i075,hi075,_,hsz75,_⟩:=info_parts info5
                    obtain ⟨A75,hcut75,hA75,hC75⟩:=print_drop_of (P:=Try.prog) (Value.int .u8) 0 30 5 .i64 Try.underlying30 hi075 hsz75 (some ad525) c0 l0 (ji55) (of_decide_eq_true (by first|(with_reducible assumption)|assumption)) (of_decide_eq_true (by first|(with_reducible assumption)|assumption)) HC0.out
                    have HR545:=Aside0.mk (Kd.C_of_reads (h1:=fun _ => rfl) (hA75 _ (Kd.reads_of_C HR0.out)))
                    have HC545:=Aside0.mk hC75
                    clear hA75 hC75 hi075 hsz75
                    go_wp2_with (first|((with_reducible refine gate_callee (f:=41) rfl ?_);refine goesL_ (some 117) rfl rfl Try.func41 (by kernel_rfl) rfl #[.slice A75 (l0.drop ((ji55) : Int).toNat).length (c0 - (ji55).toNat), .bool false] rfl (by (try simp only [List.map_toArray,List.map_cons,List.map_nil]);first|done|(rw [show (l0.drop ((ji55) : Int).toNat).length = (l0.length - (ji55).toNat) from List.length_drop] <;> rfl)|(simp only [hji55];rfl)|rfl|(simp only [List.length_drop,List.length_take];rfl)|(go_simp;done)|(go_simp;simp;done)) ?_;(with_reducible refine (ih k3 (by have:=HJ36.out;have:=HJ44.out;have:=HK3.out;omega) _ _ (l0.drop ((ji55) : Int).toNat) false t546 t547 t548 t549 t550 t553 t554 _ ?side1 ?side2 A58.out).mono ?_);(case side1 => repeat (first|exact (Kd.C_below HR545.out HB.out)|(with_reducible refine Kd.C_alloc ?_ _)|(with_reducible refine Kd.C_drewN ?_ _)|(with_reducible refine Kd.C_drew ?_)));(case side2 => exact HC545.out);rintro e w76 ⟨v551,rfl,ho0,hb⟩;refine ⟨_,rfl,?_⟩;have n0_:=Aside0.mk (Kd.R_elder' (by (with_reducible repeat (first|apply Kd.R_alloc|apply Kd.R_drewN|apply Kd.R_drew));exact HO_527004.out) (Kd.R_base ho0) hb);have n1_:=Aside0.mk (Kd.R_lower (Kd.R_newB (Kd.R_newB (Kd.R_new' ho0 (Kd.R_lt (by (with_reducible repeat (first|apply Kd.R_alloc|apply Kd.R_drewN|apply Kd.R_drew));exact HO_527004.out))) (g:=gb524) (o := .cells #[.int .i64 x525000_3, .int .i64 x525001_3, .string x525002_3, .int .i64 x525003_3, .slice none 0 0] 24 (0,0)) (by (with_reducible repeat (first|refine blk_drewN ?_ _|refine blk_drew ?_|refine blk_alloc ?_ _));exact BK524.out)) (g:=gb526) (o := .cells #[.int .i64 (wrap64 (rd l0 0)), .int .i64 0, .string (⟨#[]⟩ : ByteArray), .int .i64 (wrap64 (t538)),u527004] 24 (0,0)) (by (with_reducible repeat (first|refine blk_drewN ?_ _|refine blk_drew ?_|refine blk_alloc ?_ _));exact BK526.out)) (below_size (by repeat (first|(with_reducible first|exact HB.out|apply below_alloc|apply pw_below_drewN|apply below_drew1|refine below_set ?_ GE524.out|refine below_set ?_ GE526.out)|exact HB.out))));have n2_:=Aside0.mk (blk_below (g:=gb524) (o := .cells #[.int .i64 x525000_3, .int .i64 x525001_3, .string x525002_3, .int .i64 x525003_3, .slice none 0 0] 24 (0,0)) (by (with_reducible repeat (first|refine blk_drewN ?_ _|refine blk_drew ?_|refine blk_alloc ?_ _));exact BK524.out) hb);have n3_:=Aside0.mk (blk_below (g:=gb526) (o := .cells #[.int .i64 (wrap64 (rd l0 0)), .int .i64 0, .string (⟨#[]⟩ : ByteArray), .int .i64 (wrap64 (t538)),u527004] 24 (0,0)) (by (with_reducible repeat (first|refine blk_drewN ?_ _|refine blk_drew ?_|refine blk_alloc ?_ _));exact BK526.out) hb);have n4_:=Aside0.mk (below_step (by repeat (first|(with_reducible first|exact HB.out|apply below_alloc|apply pw_below_drewN|apply below_drew1|refine below_set ?_ GE524.out|refine below_set ?_ GE526.out)|exact HB.out)) hb);clear HO_527004;clear BK524;clear BK526;clear HB;have HO_527004:=n0_;have HO552:=n1_;have BK524:=n2_;have BK526:=n3_;have HB:=n4_;clear n0_ n1_ n2_ n3_ n4_;(try clear hb);(try clear hb2);(try clear hk);(try clear hi);(try clear ho0))|((with_reducible refine gate_dst (N:=14) rfl ?_);refine box_event ?hg (N:=14) ?hd (cs:=#[.int .i64 0, .int .i64 0, .string (⟨#[]⟩ : ByteArray), .int .i64 0, .slice none 0 0]) (t:=24) ?hr ?_;(case hd => rfl);(case hg => rfl);(case hr => first|(go_simp;done)|(go_simp;rfl));intro gb555 hg w77 hbox hb;have n0_:=Aside0.mk (Kd.R_below (Kd.R_elderB (by (with_reducible repeat (first|apply Kd.R_alloc|apply Kd.R_drewN|apply Kd.R_drew));exact HO_527004.out) gb555 (Nat.le_of_eq hg.symm)) hb);have n1_:=Aside0.mk (Kd.R_below (Kd.R_elderB (by (with_reducible repeat (first|apply Kd.R_alloc|apply Kd.R_drewN|apply Kd.R_drew));exact HO552.out) gb555 (Nat.le_of_eq hg.symm)) hb);have n2_:=Aside0.mk (blk_below (g:=gb524) (o := .cells #[.int .i64 x525000_3, .int .i64 x525001_3, .string x525002_3, .int .i64 x525003_3, .slice none 0 0] 24 (0,0)) (by (with_reducible repeat (first|refine blk_drewN ?_ _|refine blk_drew ?_|refine blk_alloc ?_ _));exact BK524.out) hb);have n3_:=Aside0.mk (blk_below (g:=gb526) (o := .cells #[.int .i64 (wrap64 (rd l0 0)), .int .i64 0, .string (⟨#[]⟩ : ByteArray), .int .i64 (wrap64 (t538)),u527004] 24 (0,0)) (by (with_reducible repeat (first|refine blk_drewN ?_ _|refine blk_drew ?_|refine blk_alloc ?_ _));exact BK526.out) hb);have n4_:=Aside0.mk (below_step (by repeat (first|(with_reducible first|exact HB.out|apply below_alloc|apply pw_below_drewN|apply below_drew1|refine below_set ?_ GE524.out|refine below_set ?_ GE526.out)|exact HB.out)) hb);have n5_:=Aside0.mk (hbox);have n6_:=Aside0.mk ((by rw [hg];exact (below_size (by repeat (first|(with_reducible first|exact HB.out|apply below_alloc|apply pw_below_drewN|apply below_drew1|refine below_set ?_ GE524.out|refine below_set ?_ GE526.out)|exact HB.out))) : w.heap.size ≤ gb555));have n7_:=Aside0.mk ((by rw [hg];exact (below_size (by repeat (first|(with_reducible first|exact HB.out|apply below_alloc|apply pw_below_drewN|apply below_drew1|refine below_set ?_ GE524.out|refine below_set ?_ GE526.out)|exact HB.out))) : w.heap.size ≤ gb555));have n8_:=Aside0.mk ((by rw [hg];exact Nat.ne_of_lt (blk_lt (g:=gb524) (o := .cells #[.int .i64 x525000_3, .int .i64 x525001_3, .string x525002_3, .int .i64 x525003_3, .slice none 0 0] 24 (0,0)) (by (with_reducible repeat (first|refine blk_drewN ?_ _|refine blk_drew ?_|refine blk_alloc ?_ _));exact BK524.out)) : gb524 ≠ gb555));have n9_:=Aside0.mk ((by rw [hg];exact Nat.ne_of_gt (blk_lt (g:=gb524) (o := .cells #[.int .i64 x525000_3, .int .i64 x525001_3, .string x525002_3, .int .i64 x525003_3, .slice none 0 0] 24 (0,0)) (by (with_reducible repeat (first|refine blk_drewN ?_ _|refine blk_drew ?_|refine blk_alloc ?_ _));exact BK524.out)) : gb555 ≠ gb524));have n10_:=Aside0.mk ((by rw [hg];exact Nat.ne_of_lt (blk_lt (g:=gb526) (o := .cells #[.int .i64 (wrap64 (rd l0 0)), .int .i64 0, .string (⟨#[]⟩ : ByteArray), .int .i64 (wrap64 (t538)),u527004] 24 (0,0)) (by (with_reducible repeat (first|refine blk_drewN ?_ _|refine blk_drew ?_|refine blk_alloc ?_ _));exact BK526.out)) : gb526 ≠ gb555));have n11_:=Aside0.mk ((by rw [hg];exact Nat.ne_of_gt (blk_lt (g:=gb526) (o := .cells #[.int .i64 (wrap64 (rd l0 0)), .int .i64 0, .string (⟨#[]⟩ : ByteArray), .int .i64 (wrap64 (t538)),u527004] 24 (0,0)) (by (with_reducible repeat (first|refine blk_drewN ?_ _|refine blk_drew ?_|refine blk_alloc ?_ _));exact BK526.out)) : gb555 ≠ gb526));clear HO_527004;clear HO552;clear BK524;clear BK526;clear HB;have HO_527004:=n0_;have HO552:=n1_;have BK524:=n2_;have BK526:=n3_;have HB:=n4_;have BK555:=n5_;have GW555:=n6_;have GE555:=n7_;have NB524_555:=n8_;have NB555_524:=n9_;have NB526_555:=n10_;have NB555_526:=n11_;clear n0_ n1_ n2_ n3_ n4_ n5_ n6_ n7_ n8_ n9_ n10_ n11_;clear hb hbox hg;have hnb78:=NB555_524.out;have hnc78:=NB524_555.out;have hnb79:=NB555_526.out;have hnc79:=NB526_555.out;have hcz80_0 : w77.cell? ⟨gb555,0,none⟩ = some (.int .i64 0):=(blk_cell BK555.out 0).trans rfl;have hcz80_1 : w77.cell? ⟨gb555,1,none⟩ = some (.int .i64 0):=(blk_cell BK555.out 1).trans rfl;have hcz80_2 : w77.cell? ⟨gb555,2,none⟩ = some (.string (⟨#[]⟩ : ByteArray)):=(blk_cell BK555.out 2).trans rfl;have hcz80_3 : w77.cell? ⟨gb555,3,none⟩ = some (.int .i64 0):=(blk_cell BK555.out 3).trans rfl;have hcz80_4 : w77.cell? ⟨gb555,4,none⟩ = some (.slice none 0 0):=(blk_cell BK555.out 4).trans rfl;have hfz80_0:=blk_frozen BK555.out 0;have hfz80_1:=blk_frozen BK555.out 1;have hfz80_2:=blk_frozen BK555.out 2;have hfz80_3:=blk_frozen BK555.out 3;have hfz80_4:=blk_frozen BK555.out 4;obtain ⟨Ao81,co81,eo81⟩:=Kd.R_slice HO552.out;subst eo81;have hnb82:=NB524_526.out;have hnc82:=NB526_524.out;have hcz83_0 : w77.cell? ⟨gb524,0,none⟩ = some (.int .i64 x525000_3):=(blk_cell BK524.out 0).trans rfl;have hcz83_1 : w77.cell? ⟨gb524,1,none⟩ = some (.int .i64 x525001_3):=(blk_cell BK524.out 1).trans rfl;have hcz83_2 : w77.cell? ⟨gb524,2,none⟩ = some (.string x525002_3):=(blk_cell BK524.out 2).trans rfl;have hcz83_3 : w77.cell? ⟨gb524,3,none⟩ = some (.int .i64 x525003_3):=(blk_cell BK524.out 3).trans rfl;have hcz83_4 : w77.cell? ⟨gb524,4,none⟩ = some (.slice none 0 0):=(blk_cell BK524.out 4).trans rfl;have hfz83_0:=blk_frozen BK524.out 0;have hfz83_1:=blk_frozen BK524.out 1;have hfz83_2:=blk_frozen BK524.out 2;have hfz83_3:=blk_frozen BK524.out 3;have hfz83_4:=blk_frozen BK524.out 4))
                    refine bodyPost_ret (results_ctt rfl _ _ gb524 24 #[.int .i64 0, .int .i64 0, .string (⟨#[]⟩ : ByteArray), .int .i64 0, .slice none 0 0] (0,0) _ rfl (by (with_reducible repeat (first|refine blk_drewN ?_ _|refine blk_drew ?_|refine blk_alloc ?_ _));refine blk_put (cs:=#[.int .i64 0, .int .i64 0, .string (⟨#[]⟩ : ByteArray), .int .i64 0, .slice none 0 0]) ?_ 4 _ rfl;(with_reducible repeat (first|refine blk_drewN ?_ _|refine blk_drew ?_|refine blk_alloc ?_ _));refine blk_put (cs:=#[.int .i64 0, .int .i64 0, .string (⟨#[]⟩ : ByteArray), .int .i64 x525003_3, .slice none 0 0]) ?_ 3 _ rfl;(with_reducible repeat (first|refine blk_drewN ?_ _|refine blk_drew ?_|refine blk_alloc ?_ _));refine blk_put (cs:=#[.int .i64 0, .int .i64 0, .string x525002_3, .int .i64 x525003_3, .slice none 0 0]) ?_ 2 _ rfl;(with_reducible repeat (first|refine blk_drewN ?_ _|refine blk_drew ?_|refine blk_alloc ?_ _));refine blk_put (cs:=#[.int .i64 0, .int .i64 x525001_3, .string x525002_3, .int .i64 x525003_3, .slice none 0 0]) ?_ 1 _ rfl;(with_reducible repeat (first|refine blk_drewN ?_ _|refine blk_drew ?_|refine blk_alloc ?_ _));refine blk_put (cs:=#[.int .i64 x525000_3, .int .i64 x525001_3, .string x525002_3, .int .i64 x525003_3, .slice none 0 0]) ?_ 0 _ rfl;(with_reducible repeat (first|refine blk_drewN ?_ _|refine blk_drew ?_|refine blk_alloc ?_ _));refine blk_far ?_ NB524_555.out _;(with_reducible repeat (first|refine blk_drewN ?_ _|refine blk_drew ?_|refine blk_alloc ?_ _));refine blk_far ?_ NB524_555.out _;(with_reducible repeat (first|refine blk_drewN ?_ _|refine blk_drew ?_|refine blk_alloc ?_ _));refine blk_far ?_ NB524_555.out _;(with_reducible repeat (first|refine blk_drewN ?_ _|refine blk_drew ?_|refine blk_alloc ?_ _));refine blk_far ?_ NB524_555.out _;(with_reducible repeat (first|refine blk_drewN ?_ _|refine blk_drew ?_|refine blk_alloc ?_ _));refine blk_far ?_ NB524_555.out _;(with_reducible repeat (first|refine blk_drewN ?_ _|refine blk_drew ?_|refine blk_alloc ?_ _));exact BK524.out) Try.underlying24 rfl (by kernel_rfl)) rfl ?_
                    exact ⟨_,by first|rfl|(simp [errW_none,errW_some] <;> rfl)|(simp only [← hji55];first|rfl|(simp [errW_none,errW_some] <;> rfl))|(simp [*,errW_none,errW_some] <;> rfl),by first|exact Kd.R_nil _ _ _ _ _|exact Kd.N_nil _ _ _ _ _|exact Kd.V_nil _ _ _ _ _|exact Kd.Q_nil _ _ _ _ _|exact Kd.S_nil _ _ _ _ _,by repeat (first|(with_reducible first|exact HB.out|apply below_alloc|apply pw_below_drewN|apply below_drew1|refine below_set ?_ GE524.out|refine below_set ?_ GE526.out|refine below_set ?_ GE555.out)|exact HB.out)⟩
                  ·rw [if_neg c57] at H
                   exact absurd H (by simp)
                 ·rw [if_neg c56] at H
                  exact absurd H (by simp)
                ·rw [if_neg c54] at H
                 have c54b0 : decide (x13_3 < x12_36) = false:=decide_eq_false c54
                 clear c54
                 have H':=Aside0.mk H
                 clear H
                 go_wp2
                 go_meet
                 case rel => exact ⟨_,(x8_3),(x10_36),(x525000_3),(x525001_3),(x525002_3),(x525003_3),(0),((⟨#[]⟩ : ByteArray)),((wrap64 (t538))),(x527004_3),(u527004),(by first|rfl|(simp;done)|(simp [*];done)),(by first|rfl|(simp;done)|(simp [*];done)),H',⟨by have:=HJ36.out;have:=HJ44.out;have:=HK3.out;first|omega|exact Nat.le_refl _⟩,⟨by (with_reducible repeat (first|apply Kd.R_alloc|apply Kd.R_drewN|apply Kd.R_drew));exact HO_527004.out⟩,⟨by (with_reducible repeat (first|refine blk_drewN ?_ _|refine blk_drew ?_|refine blk_alloc ?_ _));exact BK524.out⟩,⟨by (with_reducible repeat (first|refine blk_drewN ?_ _|refine blk_drew ?_|refine blk_alloc ?_ _));exact BK526.out⟩,⟨by repeat (first|(with_reducible first|exact HB.out|apply below_alloc|apply pw_below_drewN|apply below_drew1|refine below_set ?_ GE524.out|refine below_set ?_ GE526.out)|exact HB.out)⟩⟩
        ·rw [if_neg c35] at H
         exact absurd H (by simp)
       ·rw [if_neg c34] at H
        have c34b0 : ((wrap64 (rd l0 0)) == 4) = false:=beq_eq_false_iff_ne.mpr c34
        have c34b1 : ((wrap64 (rd l0 0)) != 4) = true:=bne_iff_ne.mpr c34
        simp only [Option.some.injEq,Prod.mk.injEq] at H
        obtain ⟨rfl,rfl,rfl,rfl,rfl,rfl,rfl⟩:=H
        have hnb84:=NB524_526.out
        have hnc84:=NB526_524.out
        have hcz85_0 : w9.cell? ⟨gb524,0,none⟩ = some (.int .i64 0):=(blk_cell BK524.out 0).trans rfl
        have hcz85_1 : w9.cell? ⟨gb524,1,none⟩ = some (.int .i64 0):=(blk_cell BK524.out 1).trans rfl
        have hcz85_2 : w9.cell? ⟨gb524,2,none⟩ = some (.string (⟨#[]⟩ : ByteArray)):=(blk_cell BK524.out 2).trans rfl
        have hcz85_3 : w9.cell? ⟨gb524,3,none⟩ = some (.int .i64 0):=(blk_cell BK524.out 3).trans rfl
        have hcz85_4 : w9.cell? ⟨gb524,4,none⟩ = some (.slice none 0 0):=(blk_cell BK524.out 4).trans rfl
        have hfz85_0:=blk_frozen BK524.out 0
        have hfz85_1:=blk_frozen BK524.out 1
        have hfz85_2:=blk_frozen BK524.out 2
        have hfz85_3:=blk_frozen BK524.out 3
        have hfz85_4:=blk_frozen BK524.out 4
        go_wp2
        refine bodyPost_ret (results_ctt rfl _ _ gb524 24 #[.int .i64 0, .int .i64 0, .string (⟨#[]⟩ : ByteArray), .int .i64 0, .slice none 0 0] (0,0) _ rfl (by (with_reducible repeat (first|refine blk_drewN ?_ _|refine blk_drew ?_|refine blk_alloc ?_ _));refine blk_put (cs:=#[.int .i64 0, .int .i64 0, .string (⟨#[]⟩ : ByteArray), .int .i64 0, .slice none 0 0]) ?_ 4 _ rfl;(with_reducible repeat (first|refine blk_drewN ?_ _|refine blk_drew ?_|refine blk_alloc ?_ _));refine blk_put (cs:=#[.int .i64 0, .int .i64 0, .string (⟨#[]⟩ : ByteArray), .int .i64 0, .slice none 0 0]) ?_ 3 _ rfl;(with_reducible repeat (first|refine blk_drewN ?_ _|refine blk_drew ?_|refine blk_alloc ?_ _));refine blk_put (cs:=#[.int .i64 0, .int .i64 0, .string (⟨#[]⟩ : ByteArray), .int .i64 0, .slice none 0 0]) ?_ 2 _ rfl;(with_reducible repeat (first|refine blk_drewN ?_ _|refine blk_drew ?_|refine blk_alloc ?_ _));refine blk_put (cs:=#[.int .i64 0, .int .i64 0, .string (⟨#[]⟩ : ByteArray), .int .i64 0, .slice none 0 0]) ?_ 1 _ rfl;(with_reducible repeat (first|refine blk_drewN ?_ _|refine blk_drew ?_|refine blk_alloc ?_ _));refine blk_put (cs:=#[.int .i64 0, .int .i64 0, .string (⟨#[]⟩ : ByteArray), .int .i64 0, .slice none 0 0]) ?_ 0 _ rfl;(with_reducible repeat (first|refine blk_drewN ?_ _|refine blk_drew ?_|refine blk_alloc ?_ _));refine blk_far ?_ NB524_526.out _;(with_reducible repeat (first|refine blk_drewN ?_ _|refine blk_drew ?_|refine blk_alloc ?_ _));refine blk_far ?_ NB524_526.out _;(with_reducible repeat (first|refine blk_drewN ?_ _|refine blk_drew ?_|refine blk_alloc ?_ _));refine blk_far ?_ NB524_526.out _;(with_reducible repeat (first|refine blk_drewN ?_ _|refine blk_drew ?_|refine blk_alloc ?_ _));refine blk_far ?_ NB524_526.out _;(with_reducible repeat (first|refine blk_drewN ?_ _|refine blk_drew ?_|refine blk_alloc ?_ _));refine blk_far ?_ NB524_526.out _;(with_reducible repeat (first|refine blk_drewN ?_ _|refine blk_drew ?_|refine blk_alloc ?_ _));exact BK524.out) Try.underlying24 rfl (by kernel_rfl)) rfl ?_
        exact ⟨_,by first|rfl|(simp [errW_none,errW_some] <;> rfl)|(simp [*,errW_none,errW_some] <;> rfl),by first|exact Kd.R_nil _ _ _ _ _|exact Kd.N_nil _ _ _ _ _|exact Kd.V_nil _ _ _ _ _|exact Kd.Q_nil _ _ _ _ _|exact Kd.S_nil _ _ _ _ _,by repeat (first|(with_reducible first|exact HB.out|apply below_alloc|apply pw_below_drewN|apply below_drew1|refine below_set ?_ GE524.out|refine below_set ?_ GE526.out)|exact HB.out)⟩
   case rest =>
    clear HC7
    try clear c1
    try clear c2
    try clear p2
    try clear c3
    try clear c3b0
    try clear c3b1
    try clear c3b2
    try clear c4
    try clear c5
    try clear p5
    try clear q5
    try clear hx5
    try clear qi5
    try clear c6
    try clear c6b0
    try clear c6b1
    try clear p6
    try clear c7
    try clear c8
    try clear c10
    try clear c12
    try clear c12b0
    try clear c12b1
    try clear c13
    try clear c13b0
    try clear c13b1
    try clear c16
    try clear c18
    try clear c18b0
    try clear c18b1
    try clear c19
    try clear c19b0
    try clear c19b1
    try clear c22
    try clear c24
    try clear c24b0
    try clear c24b1
    try clear c26
    try clear c26b0
    try clear c26b1
    try clear c27
    try clear c27b0
    try clear c27b1
    try clear c28
    try clear c29
    try clear c31
    try clear c31b0
    try clear c31b1
    try clear c32
    try clear c34
    try clear c34b0
    try clear c34b1
    try clear c35
    try clear c35b0
    try clear c35b1
    try clear c39
    try clear c39b0
    try clear c39b1
    try clear c40
    try clear c41
    try clear c41b0
    try clear c41b1
    try clear c42
    try clear c42b0
    try clear c42b1
    try clear c46
    try clear c46b0
    try clear c46b1
    try clear c47
    try clear c48
    try clear c48b0
    try clear c49
    try clear c50
    try clear c52
    try clear p52
    try clear q52
    try clear hx52
    try clear p53
    try clear q53
    try clear hx53
    try clear qi53
    try clear c54
    try clear c54b0
    try clear c56
    try clear c56b0
    try clear c56b1
    try clear c57
    try clear c57b0
    try clear c57b1
    try clear c59
    try clear c59b0
    try clear c59b1
    try clear c60
    try clear c64
    try clear p64
    try clear c65
    try clear c69
    try clear c78
    try clear c79
    try clear c82
    try clear c84
    try clear hcz11_0
    try clear hcz11_1
    try clear hcz11_2
    try clear hcz11_3
    try clear hcz11_4
    try clear hcz17_0
    try clear hcz17_1
    try clear hcz17_2
    try clear hcz17_3
    try clear hcz17_4
    try clear hcz23_0
    try clear hcz23_1
    try clear hcz23_2
    try clear hcz23_3
    try clear hcz23_4
    try clear hcz30_0
    try clear hcz30_1
    try clear hcz30_2
    try clear hcz30_3
    try clear hcz30_4
    try clear hcz33_0
    try clear hcz33_1
    try clear hcz33_2
    try clear hcz33_3
    try clear hcz33_4
    try clear hcz51_0
    try clear hcz51_1
    try clear hcz51_2
    try clear hcz51_3
    try clear hcz51_4
    try clear hcz53_0
    try clear hcz53_1
    try clear hcz53_2
    try clear hcz53_3
    try clear hcz53_4
    try clear hcz5_0
    try clear hcz5_1
    try clear hcz5_2
    try clear hcz5_3
    try clear hcz5_4
    try clear hcz66_0
    try clear hcz66_1
    try clear hcz66_2
    try clear hcz66_3
    try clear hcz66_4
    try clear hcz70_0
    try clear hcz70_1
    try clear hcz70_2
    try clear hcz70_3
    try clear hcz70_4
    try clear hcz71_0
    try clear hcz71_1
    try clear hcz71_2
    try clear hcz71_3
    try clear hcz71_4
    try clear hcz74_0
    try clear hcz74_1
    try clear hcz74_2
    try clear hcz74_3
    try clear hcz74_4
    try clear hcz80_0
    try clear hcz80_1
    try clear hcz80_2
    try clear hcz80_3
    try clear hcz80_4
    try clear hcz83_0
    try clear hcz83_1
    try clear hcz83_2
    try clear hcz83_3
    try clear hcz83_4
    try clear hcz85_0
    try clear hcz85_1
    try clear hcz85_2
    try clear hcz85_3
    try clear hcz85_4
    try clear hfz11_0
    try clear hfz11_1
    try clear hfz11_2
    try clear hfz11_3
    try clear hfz11_4
    try clear hfz17_0
    try clear hfz17_1
    try clear hfz17_2
    try clear hfz17_3
    try clear hfz17_4
    try clear hfz23_0
    try clear hfz23_1
    try clear hfz23_2
    try clear hfz23_3
    try clear hfz23_4
    try clear hfz30_0
    try clear hfz30_1
    try clear hfz30_2
    try clear hfz30_3
    try clear hfz30_4
    try clear hfz33_0
    try clear hfz33_1
    try clear hfz33_2
    try clear hfz33_3
    try clear hfz33_4
    try clear hfz51_0
    try clear hfz51_1
    try clear hfz51_2
    try clear hfz51_3
    try clear hfz51_4
    try clear hfz53_0
    try clear hfz53_1
    try clear hfz53_2
    try clear hfz53_3
    try clear hfz53_4
    try clear hfz5_0
    try clear hfz5_1
    try clear hfz5_2
    try clear hfz5_3
    try clear hfz5_4
    try clear hfz66_0
    try clear hfz66_1
    try clear hfz66_2
    try clear hfz66_3
    try clear hfz66_4
    try clear hfz70_0
    try clear hfz70_1
    try clear hfz70_2
    try clear hfz70_3
    try clear hfz70_4
    try clear hfz71_0
    try clear hfz71_1
    try clear hfz71_2
    try clear hfz71_3
    try clear hfz71_4
    try clear hfz74_0
    try clear hfz74_1
    try clear hfz74_2
    try clear hfz74_3
    try clear hfz74_4
    try clear hfz80_0
    try clear hfz80_1
    try clear hfz80_2
    try clear hfz80_3
    try clear hfz80_4
    try clear hfz83_0
    try clear hfz83_1
    try clear hfz83_2
    try clear hfz83_3
    try clear hfz83_4
    try clear hfz85_0
    try clear hfz85_1
    try clear hfz85_2
    try clear hfz85_3
    try clear hfz85_4
    try clear hx525_0
    try clear hx535_0
    try clear hx536_0
    try clear p2
    try clear p5
    try clear p52
    try clear p525
    try clear p53
    try clear p535
    try clear p536
    try clear p6
    try clear q5
    try clear q52
    try clear q525
    try clear q53
    try clear q535
    try clear q536
    obtain ⟨kq,x8_6,x10_6,x525000_6,x525001_6,x525002_6,x525003_6,x527001_6,x527002_6,x527003_6,x527004_6,u527004,rfl,rfl,HA,HJ6,HO_527004,BK524,BK526,HB⟩:=hcut
    cases kq with
    | zero => exact absurd HA.out (by simp [windlassref2_value.j4])
    | succ kj6 =>
     have H:=HA.out
     clear HA
     simp only [windlassref2_value.j4] at H
     by_cases c86 : x10_6 = 0
     ·rw [if_pos c86] at H
      have c86b0 : (x10_6 == 0) = true:=beq_iff_eq.mpr c86
      have c86b1 : (x10_6 != 0) = false:=bne_eq_false_iff_eq.mpr c86
      clear c86
      simp only [Option.some.injEq,Prod.mk.injEq] at H
      obtain ⟨rfl,rfl,rfl,rfl,rfl,rfl,rfl⟩:=H
      have hnb87:=NB526_524.out
      have hnc87:=NB524_526.out
      have hcz88_0 : wc.cell? ⟨gb526,0,none⟩ = some (.int .i64 (wrap64 (rd l0 0))):=(blk_cell BK526.out 0).trans rfl
      have hcz88_1 : wc.cell? ⟨gb526,1,none⟩ = some (.int .i64 x527001_6):=(blk_cell BK526.out 1).trans rfl
      have hcz88_2 : wc.cell? ⟨gb526,2,none⟩ = some (.string x527002_6):=(blk_cell BK526.out 2).trans rfl
      have hcz88_3 : wc.cell? ⟨gb526,3,none⟩ = some (.int .i64 x527003_6):=(blk_cell BK526.out 3).trans rfl
      have hcz88_4 : wc.cell? ⟨gb526,4,none⟩ = some (u527004):=(blk_cell BK526.out 4).trans rfl
      have hfz88_0:=blk_frozen BK526.out 0
      have hfz88_1:=blk_frozen BK526.out 1
      have hfz88_2:=blk_frozen BK526.out 2
      have hfz88_3:=blk_frozen BK526.out 3
      have hfz88_4:=blk_frozen BK526.out 4
      have hcz89_0 : wc.cell? ⟨gb524,0,none⟩ = some (.int .i64 x525000_6):=(blk_cell BK524.out 0).trans rfl
      have hcz89_1 : wc.cell? ⟨gb524,1,none⟩ = some (.int .i64 x525001_6):=(blk_cell BK524.out 1).trans rfl
      have hcz89_2 : wc.cell? ⟨gb524,2,none⟩ = some (.string x525002_6):=(blk_cell BK524.out 2).trans rfl
      have hcz89_3 : wc.cell? ⟨gb524,3,none⟩ = some (.int .i64 x525003_6):=(blk_cell BK524.out 3).trans rfl
      have hcz89_4 : wc.cell? ⟨gb524,4,none⟩ = some (.slice none 0 0):=(blk_cell BK524.out 4).trans rfl
      have hfz89_0:=blk_frozen BK524.out 0
      have hfz89_1:=blk_frozen BK524.out 1
      have hfz89_2:=blk_frozen BK524.out 2
      have hfz89_3:=blk_frozen BK524.out 3
      have hfz89_4:=blk_frozen BK524.out 4
      obtain ⟨Ao90,co90,eo90⟩:=Kd.R_slice HO_527004.out
      subst eo90
      go_wp2
      refine bodyPost_ret (results_ctt rfl _ _ gb524 24 #[.int .i64 (wrap64 (rd l0 0)), .int .i64 x527001_6, .string x527002_6, .int .i64 x527003_6, .slice Ao90 x527004_6.length co90] (0,0) _ rfl (by (with_reducible repeat (first|refine blk_drewN ?_ _|refine blk_drew ?_|refine blk_alloc ?_ _));refine blk_put (cs:=#[.int .i64 (wrap64 (rd l0 0)), .int .i64 x527001_6, .string x527002_6, .int .i64 x527003_6, .slice none 0 0]) ?_ 4 _ rfl;(with_reducible repeat (first|refine blk_drewN ?_ _|refine blk_drew ?_|refine blk_alloc ?_ _));refine blk_put (cs:=#[.int .i64 (wrap64 (rd l0 0)), .int .i64 x527001_6, .string x527002_6, .int .i64 x525003_6, .slice none 0 0]) ?_ 3 _ rfl;(with_reducible repeat (first|refine blk_drewN ?_ _|refine blk_drew ?_|refine blk_alloc ?_ _));refine blk_put (cs:=#[.int .i64 (wrap64 (rd l0 0)), .int .i64 x527001_6, .string x525002_6, .int .i64 x525003_6, .slice none 0 0]) ?_ 2 _ rfl;(with_reducible repeat (first|refine blk_drewN ?_ _|refine blk_drew ?_|refine blk_alloc ?_ _));refine blk_put (cs:=#[.int .i64 (wrap64 (rd l0 0)), .int .i64 x525001_6, .string x525002_6, .int .i64 x525003_6, .slice none 0 0]) ?_ 1 _ rfl;(with_reducible repeat (first|refine blk_drewN ?_ _|refine blk_drew ?_|refine blk_alloc ?_ _));refine blk_put (cs:=#[.int .i64 x525000_6, .int .i64 x525001_6, .string x525002_6, .int .i64 x525003_6, .slice none 0 0]) ?_ 0 _ rfl;(with_reducible repeat (first|refine blk_drewN ?_ _|refine blk_drew ?_|refine blk_alloc ?_ _));exact BK524.out) Try.underlying24 rfl (by kernel_rfl)) rfl ?_
      exact ⟨_,by first|rfl|(simp [errW_none,errW_some] <;> rfl)|(simp [*,errW_none,errW_some] <;> rfl),by (with_reducible repeat (first|apply Kd.R_alloc|apply Kd.R_drewN|apply Kd.R_drew));exact Kd.R_mono (Kd.R_far (p:=⟨gb524,4,none⟩) (Kd.R_far (p:=⟨gb524,3,none⟩) (Kd.R_far (p:=⟨gb524,2,none⟩) (Kd.R_far (p:=⟨gb524,1,none⟩) (Kd.R_far (p:=⟨gb524,0,none⟩) (Kd.R_mono HO_527004.out (fun k_ hk => (⟨hk,hk.1⟩ : _ ∧ k_ ≠ gb524))) (fun _ hk => hk.2) (.int .i64 (wrap64 (rd l0 0)))) (fun _ hk => hk.2) (.int .i64 x527001_6)) (fun _ hk => hk.2) (.string x527002_6)) (fun _ hk => hk.2) (.int .i64 x527003_6)) (fun _ hk => hk.2) (.slice Ao90 x527004_6.length co90)) (fun _ hk => trivial),by repeat (first|(with_reducible first|exact HB.out|apply below_alloc|apply pw_below_drewN|apply below_drew1|refine below_set ?_ GE524.out|refine below_set ?_ GE526.out)|exact HB.out)⟩
     ·rw [if_neg c86] at H
      have c86b0 : (x10_6 == 0) = false:=beq_eq_false_iff_ne.mpr c86
      have c86b1 : (x10_6 != 0) = true:=bne_iff_ne.mpr c86
      simp only [Option.some.injEq,Prod.mk.injEq] at H
      obtain ⟨rfl,rfl,rfl,rfl,rfl,rfl,rfl⟩:=H
      have hnb91:=NB524_526.out
      have hnc91:=NB526_524.out
      have hcz92_0 : wc.cell? ⟨gb524,0,none⟩ = some (.int .i64 x525000_6):=(blk_cell BK524.out 0).trans rfl
      have hcz92_1 : wc.cell? ⟨gb524,1,none⟩ = some (.int .i64 x525001_6):=(blk_cell BK524.out 1).trans rfl
      have hcz92_2 : wc.cell? ⟨gb524,2,none⟩ = some (.string x525002_6):=(blk_cell BK524.out 2).trans rfl
      have hcz92_3 : wc.cell? ⟨gb524,3,none⟩ = some (.int .i64 x525003_6):=(blk_cell BK524.out 3).trans rfl
      have hcz92_4 : wc.cell? ⟨gb524,4,none⟩ = some (.slice none 0 0):=(blk_cell BK524.out 4).trans rfl
      have hfz92_0:=blk_frozen BK524.out 0
      have hfz92_1:=blk_frozen BK524.out 1
      have hfz92_2:=blk_frozen BK524.out 2
      have hfz92_3:=blk_frozen BK524.out 3
      have hfz92_4:=blk_frozen BK524.out 4
      go_wp2
      refine bodyPost_ret (results_ctt rfl _ _ gb524 24 #[.int .i64 0, .int .i64 0, .string (⟨#[]⟩ : ByteArray), .int .i64 0, .slice none 0 0] (0,0) _ rfl (by (with_reducible repeat (first|refine blk_drewN ?_ _|refine blk_drew ?_|refine blk_alloc ?_ _));refine blk_put (cs:=#[.int .i64 0, .int .i64 0, .string (⟨#[]⟩ : ByteArray), .int .i64 0, .slice none 0 0]) ?_ 4 _ rfl;(with_reducible repeat (first|refine blk_drewN ?_ _|refine blk_drew ?_|refine blk_alloc ?_ _));refine blk_put (cs:=#[.int .i64 0, .int .i64 0, .string (⟨#[]⟩ : ByteArray), .int .i64 x525003_6, .slice none 0 0]) ?_ 3 _ rfl;(with_reducible repeat (first|refine blk_drewN ?_ _|refine blk_drew ?_|refine blk_alloc ?_ _));refine blk_put (cs:=#[.int .i64 0, .int .i64 0, .string x525002_6, .int .i64 x525003_6, .slice none 0 0]) ?_ 2 _ rfl;(with_reducible repeat (first|refine blk_drewN ?_ _|refine blk_drew ?_|refine blk_alloc ?_ _));refine blk_put (cs:=#[.int .i64 0, .int .i64 x525001_6, .string x525002_6, .int .i64 x525003_6, .slice none 0 0]) ?_ 1 _ rfl;(with_reducible repeat (first|refine blk_drewN ?_ _|refine blk_drew ?_|refine blk_alloc ?_ _));refine blk_put (cs:=#[.int .i64 x525000_6, .int .i64 x525001_6, .string x525002_6, .int .i64 x525003_6, .slice none 0 0]) ?_ 0 _ rfl;(with_reducible repeat (first|refine blk_drewN ?_ _|refine blk_drew ?_|refine blk_alloc ?_ _));exact BK524.out) Try.underlying24 rfl (by kernel_rfl)) rfl ?_
      exact ⟨_,by first|rfl|(simp [errW_none,errW_some] <;> rfl)|(simp [*,errW_none,errW_some] <;> rfl),by first|exact Kd.R_nil _ _ _ _ _|exact Kd.N_nil _ _ _ _ _|exact Kd.V_nil _ _ _ _ _|exact Kd.Q_nil _ _ _ _ _|exact Kd.S_nil _ _ _ _ _,by repeat (first|(with_reducible first|exact HB.out|apply below_alloc|apply pw_below_drewN|apply below_drew1|refine below_set ?_ GE524.out|refine below_set ?_ GE526.out)|exact HB.out)⟩
  ·rw [if_neg c6] at H
   exact absurd H (by simp)

end Go.Proofs.Ythbnblmnamckmaa.PAll
-- Laid by a program of this seat (wip/xprint.py over the kit's print).
namespace Go.Proofs.Ythbnblmnamckmaa.PAll
open Go.RowKit Go.Proofs.YthbnblmnamckmaaW.PrintWords Go.Proofs.YthbnblmnamckmaaW.PrintLast Go.Proofs.YthbnblmnamckmaaW.PrintMore
attribute [local go_sem] max2_int min2_int max_two min_two max_three min_three max_four min_four   -- for this text's walks alone
set_option linter.unusedVariables false
set_option linter.unusedSimpArgs false

/-! ### windlassref2_Value: function 30 -/
def windlassref2_Value.f (k : Nat) (l0 : List Int) : Option (Int × Int × ByteArray × Int × (List (S24)) × Int × Int) := (windlassref2_value.f k l0 true).bind fun bt560 => (some (bt560.1, bt560.2.1, bt560.2.2.1, bt560.2.2.2.1, bt560.2.2.2.2.1, bt560.2.2.2.2.2.1, bt560.2.2.2.2.2.2))
theorem windlassref2_Value.mono : ∀ a0 k, LeO (windlassref2_Value.f k a0) (windlassref2_Value.f (k + 1) a0) := by
  intro a0 k
  unfold windlassref2_Value.f
  repeat' first
      | (with_reducible exact windlassref2_value.mono _ _ _)
      | (with_reducible exact LeO.refl _)
      | (with_reducible exact LeO.none _)
      | (with_reducible refine LeO.ite ?_ ?_)
      | (with_reducible refine LeO.bind ?_ (fun _ => ?_))
      | exact windlassref2_value.mono _ _ _
      | exact LeO.none _
      | refine LeO.ite ?_ ?_
      | refine LeO.bind ?_ (fun _ => ?_)
set_option maxHeartbeats 8000000 in
set_option maxRecDepth 100000 in
theorem windlassref2_Value.calls (k : Nat) (A0 : Option Addr) (c0 : Nat) (l0 : List Int) (r1 : Int) (r2 : Int) (r3 : ByteArray) (r4 : Int) (r5 : List (S24)) (r6 : Int) (r7 : Int) (w : World) (hr0 : Kd.C (Kd.int .u8) w A0 l0.length l0) (hc0 : l0.length ≤ c0) (h : windlassref2_Value.f k l0 = some (r1, r2, r3, r4, r5, r6, r7)) :
    Calls Try.prog 30 #[.slice A0 l0.length c0] w fun e w' => ∃ v4_ : Value, e = .returned (.tuple #[.agg #[.int .i64 r1, .int .i64 r2, .string r3, .int .i64 r4, v4_], .int .i64 r6, .int .i64 r7]) ∧ Kd.R k24 24 w' w.heap.size (fun _ => True) v4_ r5 ∧ Below w.heap.size w w' := by
  have hu24 := Try.underlying24
  have HR0 := Aside0.mk hr0
  have HC0 := Aside0.mk hc0
  clear hr0 hc0
  have HB := Aside0.mk (Below.refl w.heap.size w)
  have H : ((windlassref2_value.f k l0 true).bind fun bt560 => (some (bt560.1, bt560.2.1, bt560.2.2.1, bt560.2.2.2.1, bt560.2.2.2.2.1, bt560.2.2.2.2.2.1, bt560.2.2.2.2.2.2))) = some (r1, r2, r3, r4, r5, r6, r7) := h
  clear h
  replace H := Option.bind_eq_some_iff.mp H
  obtain ⟨⟨t560, t561, t562, t563, t564, t567, t568⟩, A20, H⟩ := H
  replace H : (some (t560, t561, t562, t563, t564, t567, t568)) = some (r1, r2, r3, r4, r5, r6, r7) := H
  have A2 := Aside0.mk A20
  clear A20
  simp only [Option.some.injEq, Prod.mk.injEq] at H
  obtain ⟨rfl, rfl, rfl, rfl, rfl, rfl, rfl⟩ := H
  go_enter Try.func30, Try.ntmps30
  go_wp2_with (first | ((with_reducible refine gate_dst (N := 2) rfl ?_); refine box_event ?hg (N := 2) ?hd (cs := #[.int .i64 0, .int .i64 0, .string (⟨#[]⟩ : ByteArray), .int .i64 0, .slice none 0 0]) (t := 24) ?hr ?_; (case hd => rfl); (case hg => rfl); (case hr => first | (go_simp; done) | (go_simp; rfl)); intro gb559 hg w3 hbox hb; have n0_ := Aside0.mk (below_step (by repeat (first | (with_reducible first | exact HB.out | apply below_alloc | apply pw_below_drewN | apply below_drew1) | exact HB.out)) hb); have n1_ := Aside0.mk (hbox); have n2_ := Aside0.mk ((by rw [hg]; exact (below_size (by repeat (first | (with_reducible first | exact HB.out | apply below_alloc | apply pw_below_drewN | apply below_drew1) | exact HB.out))) : w.heap.size ≤ gb559)); have n3_ := Aside0.mk ((by rw [hg]; exact (below_size (by repeat (first | (with_reducible first | exact HB.out | apply below_alloc | apply pw_below_drewN | apply below_drew1) | exact HB.out))) : w.heap.size ≤ gb559)); clear HB; have HB := n0_; have BK559 := n1_; have GW559 := n2_; have GE559 := n3_; clear n0_ n1_ n2_ n3_; clear hb hbox hg) | ((with_reducible refine gate_callee (f := 41) rfl ?_); refine goesL_ (some 6) rfl rfl Try.func41 (by kernel_rfl) rfl #[.slice A0 l0.length c0, .bool true] rfl (by (try simp only [List.map_toArray, List.map_cons, List.map_nil]); first | done | rfl | (simp only [List.length_drop, List.length_take]; rfl) | (go_simp; done) | (go_simp; simp; done)) ?_; (with_reducible refine (windlassref2_value.calls k _ _ l0 true t560 t561 t562 t563 t564 t567 t568 _ ?side1 ?side2 A2.out).mono ?_); (case side1 => repeat (first | exact (Kd.C_below HR0.out HB.out) | (with_reducible refine Kd.C_alloc ?_ _) | (with_reducible refine Kd.C_drewN ?_ _) | (with_reducible refine Kd.C_drew ?_))); (case side2 => exact HC0.out); rintro e w4 ⟨v565, rfl, ho0, hb⟩; refine ⟨_, rfl, ?_⟩; have n0_ := Aside0.mk (Kd.R_lower (Kd.R_newB ho0 (g := gb559) (o := .cells #[.int .i64 0, .int .i64 0, .string (⟨#[]⟩ : ByteArray), .int .i64 0, .slice none 0 0] 24 (0, 0)) (by (with_reducible repeat (first | refine blk_drewN ?_ _ | refine blk_drew ?_ | refine blk_alloc ?_ _)); exact BK559.out)) (below_size (by repeat (first | (with_reducible first | exact HB.out | apply below_alloc | apply pw_below_drewN | apply below_drew1 | refine below_set ?_ GE559.out) | exact HB.out)))); have n1_ := Aside0.mk (blk_below (g := gb559) (o := .cells #[.int .i64 0, .int .i64 0, .string (⟨#[]⟩ : ByteArray), .int .i64 0, .slice none 0 0] 24 (0, 0)) (by (with_reducible repeat (first | refine blk_drewN ?_ _ | refine blk_drew ?_ | refine blk_alloc ?_ _)); exact BK559.out) hb); have n2_ := Aside0.mk (below_step (by repeat (first | (with_reducible first | exact HB.out | apply below_alloc | apply pw_below_drewN | apply below_drew1 | refine below_set ?_ GE559.out) | exact HB.out)) hb); clear BK559; clear HB; have HO566 := n0_; have BK559 := n1_; have HB := n2_; clear n0_ n1_ n2_; (try clear hb); (try clear hb2); (try clear hk); (try clear hi); (try clear ho0); have hcz5_0 : w4.cell? ⟨gb559, 0, none⟩ = some (.int .i64 0) := (blk_cell BK559.out 0).trans rfl; have hcz5_1 : w4.cell? ⟨gb559, 1, none⟩ = some (.int .i64 0) := (blk_cell BK559.out 1).trans rfl; have hcz5_2 : w4.cell? ⟨gb559, 2, none⟩ = some (.string (⟨#[]⟩ : ByteArray)) := (blk_cell BK559.out 2).trans rfl; have hcz5_3 : w4.cell? ⟨gb559, 3, none⟩ = some (.int .i64 0) := (blk_cell BK559.out 3).trans rfl; have hcz5_4 : w4.cell? ⟨gb559, 4, none⟩ = some (.slice none 0 0) := (blk_cell BK559.out 4).trans rfl; have hfz5_0 := blk_frozen BK559.out 0; have hfz5_1 := blk_frozen BK559.out 1; have hfz5_2 := blk_frozen BK559.out 2; have hfz5_3 := blk_frozen BK559.out 3; have hfz5_4 := blk_frozen BK559.out 4; obtain ⟨Ao6, co6, eo6⟩ := Kd.R_slice HO566.out; subst eo6))
  refine bodyPost_ret (results_ctt rfl _ _ gb559 24 #[.int .i64 t560, .int .i64 t561, .string t562, .int .i64 t563, .slice Ao6 t564.length co6] (0, 0) _ rfl (by (with_reducible repeat (first | refine blk_drewN ?_ _ | refine blk_drew ?_ | refine blk_alloc ?_ _)); refine blk_put (cs := #[.int .i64 t560, .int .i64 t561, .string t562, .int .i64 t563, .slice none 0 0]) ?_ 4 _ rfl; (with_reducible repeat (first | refine blk_drewN ?_ _ | refine blk_drew ?_ | refine blk_alloc ?_ _)); refine blk_put (cs := #[.int .i64 t560, .int .i64 t561, .string t562, .int .i64 0, .slice none 0 0]) ?_ 3 _ rfl; (with_reducible repeat (first | refine blk_drewN ?_ _ | refine blk_drew ?_ | refine blk_alloc ?_ _)); refine blk_put (cs := #[.int .i64 t560, .int .i64 t561, .string (⟨#[]⟩ : ByteArray), .int .i64 0, .slice none 0 0]) ?_ 2 _ rfl; (with_reducible repeat (first | refine blk_drewN ?_ _ | refine blk_drew ?_ | refine blk_alloc ?_ _)); refine blk_put (cs := #[.int .i64 t560, .int .i64 0, .string (⟨#[]⟩ : ByteArray), .int .i64 0, .slice none 0 0]) ?_ 1 _ rfl; (with_reducible repeat (first | refine blk_drewN ?_ _ | refine blk_drew ?_ | refine blk_alloc ?_ _)); refine blk_put (cs := #[.int .i64 0, .int .i64 0, .string (⟨#[]⟩ : ByteArray), .int .i64 0, .slice none 0 0]) ?_ 0 _ rfl; (with_reducible repeat (first | refine blk_drewN ?_ _ | refine blk_drew ?_ | refine blk_alloc ?_ _)); exact BK559.out) Try.underlying24 rfl (by kernel_rfl)) rfl ?_
  exact ⟨_, by first | rfl | (simp [errW_none, errW_some] <;> rfl) | (simp [*, errW_none, errW_some] <;> rfl), by (with_reducible repeat (first | apply Kd.R_alloc | apply Kd.R_drewN | apply Kd.R_drew)); exact Kd.R_mono (Kd.R_far (p := ⟨gb559, 4, none⟩) (Kd.R_far (p := ⟨gb559, 3, none⟩) (Kd.R_far (p := ⟨gb559, 2, none⟩) (Kd.R_far (p := ⟨gb559, 1, none⟩) (Kd.R_far (p := ⟨gb559, 0, none⟩) (Kd.R_mono HO566.out (fun k_ hk => (⟨hk, hk.2⟩ : _ ∧ k_ ≠ gb559))) (fun _ hk => hk.2) (.int .i64 t560)) (fun _ hk => hk.2) (.int .i64 t561)) (fun _ hk => hk.2) (.string t562)) (fun _ hk => hk.2) (.int .i64 t563)) (fun _ hk => hk.2) (.slice Ao6 t564.length co6)) (fun _ hk => trivial), by repeat (first | (with_reducible first | exact HB.out | apply below_alloc | apply pw_below_drewN | apply below_drew1 | refine below_set ?_ GE559.out) | exact HB.out)⟩

end Go.Proofs.Ythbnblmnamckmaa.PAll
-- Laid by a program of this seat (wip/xprint.py over the kit's print).
namespace Go.Proofs.Ythbnblmnamckmaa.PAll
open Go.RowKit Go.Proofs.YthbnblmnamckmaaW.PrintWords Go.Proofs.YthbnblmnamckmaaW.PrintLast Go.Proofs.YthbnblmnamckmaaW.PrintMore
attribute [local go_sem] max2_int min2_int max_two min_two max_three min_three max_four min_four   -- for this text's walks alone
set_option linter.unusedVariables false
set_option linter.unusedSimpArgs false

/-! ### windlassref3_order: function 48 -/
def windlassref3_order.f (a0 : Bool) (a1 : Bool) : Option (Int) := if a0 = true then (some (-1)) else (if a1 = true then (some 1) else (some 0))
set_option maxHeartbeats 8000000 in
set_option maxRecDepth 100000 in
theorem windlassref3_order.calls (a0 : Bool) (a1 : Bool) (r : Int) (w : World) (h : windlassref3_order.f a0 a1 = some r) :
    Calls Try.prog 48 #[.bool a0, .bool a1] w fun e w' => e = .returned (.int .i64 r) ∧ Drawn0 w w' := by
  have H : (if a0 = true then (some (-1)) else (if a1 = true then (some 1) else (some 0))) = some r := h
  clear h
  by_cases c3 : a0 = true
  · subst c3
    have H1 : (some (-1)) = some r := by rw [if_pos rfl] at H; exact H
    clear H
    have H := H1
    clear H1
    obtain rfl := Option.some.inj H
    go_enter Try.func48, Try.ntmps48
    go_wp2
    go_ret
    exact ⟨by first | rfl | (simp; done) | (simp [*]; done), by repeat (first | exact Drawn0.refl _ | apply Drawn0.step)⟩
  · replace c3 := Bool.eq_false_iff.mpr c3
    subst c3
    have H1 : (if a1 = true then (some 1) else (some 0)) = some r := by rw [if_neg (show ¬ (false = true) by decide)] at H; exact H
    clear H
    have H := H1
    clear H1
    by_cases c4 : a1 = true
    · subst c4
      have H1 : (some 1) = some r := by rw [if_pos rfl] at H; exact H
      clear H
      have H := H1
      clear H1
      obtain rfl := Option.some.inj H
      go_enter Try.func48, Try.ntmps48
      go_wp2
      go_ret
      exact ⟨by first | rfl | (simp; done) | (simp [*]; done), by repeat (first | exact Drawn0.refl _ | apply Drawn0.step)⟩
    · replace c4 := Bool.eq_false_iff.mpr c4
      subst c4
      have H1 : (some 0) = some r := by rw [if_neg (show ¬ (false = true) by decide)] at H; exact H
      clear H
      have H := H1
      clear H1
      obtain rfl := Option.some.inj H
      go_enter Try.func48, Try.ntmps48
      go_wp2
      go_ret
      exact ⟨by first | rfl | (simp; done) | (simp [*]; done), by repeat (first | exact Drawn0.refl _ | apply Drawn0.step)⟩

end Go.Proofs.Ythbnblmnamckmaa.PAll
-- Laid by a program of this seat (wip/xprint.py over the kit's print).
namespace Go.Proofs.Ythbnblmnamckmaa.PAll
open Go.RowKit Go.Proofs.YthbnblmnamckmaaW.PrintWords Go.Proofs.YthbnblmnamckmaaW.PrintLast Go.Proofs.YthbnblmnamckmaaW.PrintMore
attribute [local go_sem] max2_int min2_int max_two min_two max_three min_three max_four min_four   -- for this text's walks alone
set_option linter.unusedVariables false
set_option linter.unusedSimpArgs false

/-! ### windlassref3_Compare: function 42 -/
mutual
def windlassref3_Compare.j0 : Nat → Int → Int → Int → ByteArray → Int → List (S24) → Int → Int → ByteArray → Int → List (S24) → Option (Int)
 | 0,_,_,_,_,_,_,_,_,_,_,_ => none
 | k + 1,x5,x570000,x570001,x570002,x570003,x570004,x571000,x571001,x571002,x571003,x571004 => if x5 = 0 then ((windlassref3_order.f (Op.bytesLess x570002.toList x571002.toList) (!Op.bytesLess x570002.toList x571002.toList && !(x570002.toList == x571002.toList))).bind fun t573 => (windlassref3_Compare.j1 k t573 x570000 x570001 x570002 x570003 x570004 x571000 x571001 x571002 x571003 x571004)) else (windlassref3_Compare.j1 k x5 x570000 x570001 x570002 x570003 x570004 x571000 x571001 x571002 x571003 x571004)
def windlassref3_Compare.j1 : Nat → Int → Int → Int → ByteArray → Int → List (S24) → Int → Int → ByteArray → Int → List (S24) → Option (Int)
 | 0,_,_,_,_,_,_,_,_,_,_,_ => none
 | k + 1,x5,x570000,x570001,x570002,x570003,x570004,x571000,x571001,x571002,x571003,x571004 => if x5 = 0 then ((windlassref3_order.f (decide (x570003 < x571003)) (decide (x570003 > x571003))).bind fun t574 => (windlassref3_Compare.j2 k t574 x570000 x570001 x570002 x570003 x570004 x571000 x571001 x571002 x571003 x571004)) else (windlassref3_Compare.j2 k x5 x570000 x570001 x570002 x570003 x570004 x571000 x571001 x571002 x571003 x571004)
def windlassref3_Compare.j2 : Nat → Int → Int → Int → ByteArray → Int → List (S24) → Int → Int → ByteArray → Int → List (S24) → Option (Int)
 | 0,_,_,_,_,_,_,_,_,_,_,_ => none
 | k + 1,x5,x570000,x570001,x570002,x570003,x570004,x571000,x571001,x571002,x571003,x571004 => windlassref3_Compare.l0 k x5 0 x570000 x570001 x570002 x570003 x570004 x571000 x571001 x571002 x571003 x571004
def windlassref3_Compare.l0 : Nat → Int → Int → Int → Int → ByteArray → Int → List (S24) → Int → Int → ByteArray → Int → List (S24) → Option (Int)
 | 0,_,_,_,_,_,_,_,_,_,_,_,_ => none
 | k + 1,x5,x6,x570000,x570001,x570002,x570003,x570004,x571000,x571001,x571002,x571003,x571004 => if x6 < (x570004.length : Int) then (if x6 < (x571004.length : Int) then (if x5 = 0 then (if 0 ≤ x6 then ((windlassref3_Compare.f k ((rd_T24 x570004 x6).f0) ((rd_T24 x570004 x6).f1) ((rd_T24 x570004 x6).f2) ((rd_T24 x570004 x6).f3) ((rd_T24 x570004 x6).f4) ((rd_T24 x571004 x6).f0) ((rd_T24 x571004 x6).f1) ((rd_T24 x571004 x6).f2) ((rd_T24 x571004 x6).f3) ((rd_T24 x571004 x6).f4)).bind fun t577 => (windlassref3_Compare.l0 k t577 (wrap64 (x6 + 1)) x570000 x570001 x570002 x570003 x570004 x571000 x571001 x571002 x571003 x571004)) else (none)) else (some x5)) else (if x5 = 0 then ((windlassref3_order.f (decide ((x570004.length : Int) < (x571004.length : Int))) (decide ((x570004.length : Int) > (x571004.length : Int)))).bind fun t578 => (some t578)) else (some x5))) else (if x5 = 0 then ((windlassref3_order.f (decide ((x570004.length : Int) < (x571004.length : Int))) (decide ((x570004.length : Int) > (x571004.length : Int)))).bind fun t579 => (some t579)) else (some x5))
def windlassref3_Compare.f : Nat → Int → Int → ByteArray → Int → List (S24) → Int → Int → ByteArray → Int → List (S24) → Option (Int)
 | 0,_,_,_,_,_,_,_,_,_,_ => none
 | k + 1,a0_0,a0_1,a0_2,a0_3,l0_4,a1_0,a1_1,a1_2,a1_3,l1_4 => (windlassref3_order.f (decide (a0_0 < a1_0)) (decide (a0_0 > a1_0))).bind fun t571 => (if t571 = 0 then ((windlassref3_order.f (decide (a0_1 < a1_1)) (decide (a0_1 > a1_1))).bind fun t572 => (windlassref3_Compare.j0 k t572 a0_0 a0_1 a0_2 a0_3 l0_4 a1_0 a1_1 a1_2 a1_3 l1_4)) else (windlassref3_Compare.j0 k t571 a0_0 a0_1 a0_2 a0_3 l0_4 a1_0 a1_1 a1_2 a1_3 l1_4))
end
theorem windlassref3_Compare.mono_l : ∀ k,(∀ y0 y1 y2 y3 y4 y5 y6 y7 y8 y9,LeO (windlassref3_Compare.f k y0 y1 y2 y3 y4 y5 y6 y7 y8 y9) (windlassref3_Compare.f (k + 1) y0 y1 y2 y3 y4 y5 y6 y7 y8 y9)) ∧ (∀ y0 y1 y2 y3 y4 y5 y6 y7 y8 y9 y10,LeO (windlassref3_Compare.j0 k y0 y1 y2 y3 y4 y5 y6 y7 y8 y9 y10) (windlassref3_Compare.j0 (k + 1) y0 y1 y2 y3 y4 y5 y6 y7 y8 y9 y10)) ∧ (∀ y0 y1 y2 y3 y4 y5 y6 y7 y8 y9 y10,LeO (windlassref3_Compare.j1 k y0 y1 y2 y3 y4 y5 y6 y7 y8 y9 y10) (windlassref3_Compare.j1 (k + 1) y0 y1 y2 y3 y4 y5 y6 y7 y8 y9 y10)) ∧ (∀ y0 y1 y2 y3 y4 y5 y6 y7 y8 y9 y10,LeO (windlassref3_Compare.j2 k y0 y1 y2 y3 y4 y5 y6 y7 y8 y9 y10) (windlassref3_Compare.j2 (k + 1) y0 y1 y2 y3 y4 y5 y6 y7 y8 y9 y10)) ∧ (∀ y0 y1 y2 y3 y4 y5 y6 y7 y8 y9 y10 y11,LeO (windlassref3_Compare.l0 k y0 y1 y2 y3 y4 y5 y6 y7 y8 y9 y10 y11) (windlassref3_Compare.l0 (k + 1) y0 y1 y2 y3 y4 y5 y6 y7 y8 y9 y10 y11))
 | 0 => ⟨fun _ _ _ _ _ _ _ _ _ _ r h => by simp [windlassref3_Compare.f] at h,fun _ _ _ _ _ _ _ _ _ _ _ r h => by simp [windlassref3_Compare.j0] at h,fun _ _ _ _ _ _ _ _ _ _ _ r h => by simp [windlassref3_Compare.j1] at h,fun _ _ _ _ _ _ _ _ _ _ _ r h => by simp [windlassref3_Compare.j2] at h,fun _ _ _ _ _ _ _ _ _ _ _ _ r h => by simp [windlassref3_Compare.l0] at h⟩
 | k + 1 => by
  obtain ⟨ih0,ih1,ih2,ih3,ih4⟩:=windlassref3_Compare.mono_l k
  refine ⟨?_,?_,?_,?_,?_⟩
  ·intro y0 y1 y2 y3 y4 y5 y6 y7 y8 y9
   unfold windlassref3_Compare.f
   repeat' first
   | (with_reducible exact ih0 _ _ _ _ _ _ _ _ _ _)
   | (with_reducible exact ih1 _ _ _ _ _ _ _ _ _ _ _)
   | (with_reducible exact ih2 _ _ _ _ _ _ _ _ _ _ _)
   | (with_reducible exact ih3 _ _ _ _ _ _ _ _ _ _ _)
   | (with_reducible exact ih4 _ _ _ _ _ _ _ _ _ _ _ _)
   | (with_reducible exact LeO.refl _)
   | (with_reducible exact LeO.none _)
   | (with_reducible refine LeO.ite ?_ ?_)
   | (with_reducible refine LeO.bind ?_ (fun _ => ?_))
   | exact ih0 _ _ _ _ _ _ _ _ _ _
   | exact ih1 _ _ _ _ _ _ _ _ _ _ _
   | exact ih2 _ _ _ _ _ _ _ _ _ _ _
   | exact ih3 _ _ _ _ _ _ _ _ _ _ _
   | exact ih4 _ _ _ _ _ _ _ _ _ _ _ _
   | exact LeO.none _
   | refine LeO.ite ?_ ?_
   | refine LeO.bind ?_ (fun _ => ?_)
  ·intro y0 y1 y2 y3 y4 y5 y6 y7 y8 y9 y10
   unfold windlassref3_Compare.j0
   repeat' first
   | (with_reducible exact ih0 _ _ _ _ _ _ _ _ _ _)
   | (with_reducible exact ih1 _ _ _ _ _ _ _ _ _ _ _)
   | (with_reducible exact ih2 _ _ _ _ _ _ _ _ _ _ _)
   | (with_reducible exact ih3 _ _ _ _ _ _ _ _ _ _ _)
   | (with_reducible exact ih4 _ _ _ _ _ _ _ _ _ _ _ _)
   | (with_reducible exact LeO.refl _)
   | (with_reducible exact LeO.none _)
   | (with_reducible refine LeO.ite ?_ ?_)
   | (with_reducible refine LeO.bind ?_ (fun _ => ?_))
   | exact ih0 _ _ _ _ _ _ _ _ _ _
   | exact ih1 _ _ _ _ _ _ _ _ _ _ _
   | exact ih2 _ _ _ _ _ _ _ _ _ _ _
   | exact ih3 _ _ _ _ _ _ _ _ _ _ _
   | exact ih4 _ _ _ _ _ _ _ _ _ _ _ _
   | exact LeO.none _
   | refine LeO.ite ?_ ?_
   | refine LeO.bind ?_ (fun _ => ?_)
  ·intro y0 y1 y2 y3 y4 y5 y6 y7 y8 y9 y10
   unfold windlassref3_Compare.j1
   repeat' first
   | (with_reducible exact ih0 _ _ _ _ _ _ _ _ _ _)
   | (with_reducible exact ih1 _ _ _ _ _ _ _ _ _ _ _)
   | (with_reducible exact ih2 _ _ _ _ _ _ _ _ _ _ _)
   | (with_reducible exact ih3 _ _ _ _ _ _ _ _ _ _ _)
   | (with_reducible exact ih4 _ _ _ _ _ _ _ _ _ _ _ _)
   | (with_reducible exact LeO.refl _)
   | (with_reducible exact LeO.none _)
   | (with_reducible refine LeO.ite ?_ ?_)
   | (with_reducible refine LeO.bind ?_ (fun _ => ?_))
   | exact ih0 _ _ _ _ _ _ _ _ _ _
   | exact ih1 _ _ _ _ _ _ _ _ _ _ _
   | exact ih2 _ _ _ _ _ _ _ _ _ _ _
   | exact ih3 _ _ _ _ _ _ _ _ _ _ _
   | exact ih4 _ _ _ _ _ _ _ _ _ _ _ _
   | exact LeO.none _
   | refine LeO.ite ?_ ?_
   | refine LeO.bind ?_ (fun _ => ?_)
  ·intro y0 y1 y2 y3 y4 y5 y6 y7 y8 y9 y10
   unfold windlassref3_Compare.j2
   repeat' first
   | (with_reducible exact ih0 _ _ _ _ _ _ _ _ _ _)
   | (with_reducible exact ih1 _ _ _ _ _ _ _ _ _ _ _)
   | (with_reducible exact ih2 _ _ _ _ _ _ _ _ _ _ _)
   | (with_reducible exact ih3 _ _ _ _ _ _ _ _ _ _ _)
   | (with_reducible exact ih4 _ _ _ _ _ _ _ _ _ _ _ _)
   | (with_reducible exact LeO.refl _)
   | (with_reducible exact LeO.none _)
   | (with_reducible refine LeO.ite ?_ ?_)
   | (with_reducible refine LeO.bind ?_ (fun _ => ?_))
   | exact ih0 _ _ _ _ _ _ _ _ _ _
   | exact ih1 _ _ _ _ _ _ _ _ _ _ _
   | exact ih2 _ _ _ _ _ _ _ _ _ _ _
   | exact ih3 _ _ _ _ _ _ _ _ _ _ _
   | exact ih4 _ _ _ _ _ _ _ _ _ _ _ _
   | exact LeO.none _
   | refine LeO.ite ?_ ?_
   | refine LeO.bind ?_ (fun _ => ?_)
  ·intro y0 y1 y2 y3 y4 y5 y6 y7 y8 y9 y10 y11
   unfold windlassref3_Compare.l0
   repeat' first
   | (with_reducible exact ih0 _ _ _ _ _ _ _ _ _ _)
   | (with_reducible exact ih1 _ _ _ _ _ _ _ _ _ _ _)
   | (with_reducible exact ih2 _ _ _ _ _ _ _ _ _ _ _)
   | (with_reducible exact ih3 _ _ _ _ _ _ _ _ _ _ _)
   | (with_reducible exact ih4 _ _ _ _ _ _ _ _ _ _ _ _)
   | (with_reducible exact LeO.refl _)
   | (with_reducible exact LeO.none _)
   | (with_reducible refine LeO.ite ?_ ?_)
   | (with_reducible refine LeO.bind ?_ (fun _ => ?_))
   | exact ih0 _ _ _ _ _ _ _ _ _ _
   | exact ih1 _ _ _ _ _ _ _ _ _ _ _
   | exact ih2 _ _ _ _ _ _ _ _ _ _ _
   | exact ih3 _ _ _ _ _ _ _ _ _ _ _
   | exact ih4 _ _ _ _ _ _ _ _ _ _ _ _
   | exact LeO.none _
   | refine LeO.ite ?_ ?_
   | refine LeO.bind ?_ (fun _ => ?_)
theorem windlassref3_Compare.mono : ∀ a0 a1 a2 a3 a4 a5 a6 a7 a8 a9 k,LeO (windlassref3_Compare.f k a0 a1 a2 a3 a4 a5 a6 a7 a8 a9) (windlassref3_Compare.f (k + 1) a0 a1 a2 a3 a4 a5 a6 a7 a8 a9):=by
 intro a0 a1 a2 a3 a4 a5 a6 a7 a8 a9 k
 obtain ⟨ih0,ih1,ih2,ih3,ih4⟩:=windlassref3_Compare.mono_l k
 exact ih0 a0 a1 a2 a3 a4 a5 a6 a7 a8 a9
def windlassref3_Compare.T11 : Bool × List (List Nat × List Nat):=(true,[([],[]),([0],[0]),([],[]),([1,2],[1,2]),([3],[3]),([],[]),([5],[5]),([],[]),([6,7],[6,7]),([8],[8]),([4,9],[4,9]),([10,10,0,1,2,3,4,5,6,7,8,9,10],[10])])
def windlassref3_Compare.B11 : List Nat:=[0,1,0,7,15,0,32,0,224,480,1023,2047]
theorem windlassref3_Compare.tab11 : rtab .any (opsOf Try.f42 11) = windlassref3_Compare.T11:=by kernel_rfl
theorem windlassref3_Compare.bits11 : waitsOk windlassref3_Compare.T11.2 windlassref3_Compare.B11 = true:=by kernel_rfl
set_option maxHeartbeats 8000000 in
set_option maxRecDepth 100000 in
theorem windlassref3_Compare.calls (k : Nat) : ∀ (a0_0 : Int) (a0_1 : Int) (a0_2 : ByteArray) (a0_3 : Int) (A0_4 : Option Addr) (c0_4 : Nat) (l0_4 : List (S24)) (a1_0 : Int) (a1_1 : Int) (a1_2 : ByteArray) (a1_3 : Int) (A1_4 : Option Addr) (c1_4 : Nat) (l1_4 : List (S24)) (r : Int) (w : World) (hr0_4 : Kd.C k24 w A0_4 l0_4.length l0_4) (hc0_4 : l0_4.length ≤ c0_4) (hr1_4 : Kd.C k24 w A1_4 l1_4.length l1_4) (hc1_4 : l1_4.length ≤ c1_4) (h : windlassref3_Compare.f k a0_0 a0_1 a0_2 a0_3 l0_4 a1_0 a1_1 a1_2 a1_3 l1_4 = some r),
  Calls Try.prog 42 #[.agg #[.int .i64 a0_0, .int .i64 a0_1, .string a0_2, .int .i64 a0_3, .slice A0_4 l0_4.length c0_4], .agg #[.int .i64 a1_0, .int .i64 a1_1, .string a1_2, .int .i64 a1_3, .slice A1_4 l1_4.length c1_4]] w fun e w' => e = .returned (.int .i64 r) ∧ Below w.heap.size w w':=by
 induction k using Nat.strongRecOn with
 | _ k ih =>
 intro a0_0 a0_1 a0_2 a0_3 A0_4 c0_4 l0_4 a1_0 a1_1 a1_2 a1_3 A1_4 c1_4 l1_4 r w hr0_4 hc0_4 hr1_4 hc1_4 h
 cases k with
 | zero => exact absurd h (by simp [windlassref3_Compare.f])
 | succ k =>
 simp only [windlassref3_Compare.f] at h
 have hu24:=Try.underlying24
 have HR0_4:=Aside0.mk hr0_4
 have HC0_4:=Aside0.mk hc0_4
 clear hr0_4 hc0_4
 have HR1_4:=Aside0.mk hr1_4
 have HC1_4:=Aside0.mk hc1_4
 clear hr1_4 hc1_4
 have HB:=Aside0.mk (Below.refl w.heap.size w)
 have H : ((windlassref3_order.f (decide (a0_0 < a1_0)) (decide (a0_0 > a1_0))).bind fun t571 => (if t571 = 0 then ((windlassref3_order.f (decide (a0_1 < a1_1)) (decide (a0_1 > a1_1))).bind fun t572 => (windlassref3_Compare.j0 k t572 a0_0 a0_1 a0_2 a0_3 l0_4 a1_0 a1_1 a1_2 a1_3 l1_4)) else (windlassref3_Compare.j0 k t571 a0_0 a0_1 a0_2 a0_3 l0_4 a1_0 a1_1 a1_2 a1_3 l1_4))) = some r:=h
 clear h
 replace H:=Option.bind_eq_some_iff.mp H
 obtain ⟨t571,A30,H⟩:=H
 replace H : (if t571 = 0 then ((windlassref3_order.f (decide (a0_1 < a1_1)) (decide (a0_1 > a1_1))).bind fun t572 => (windlassref3_Compare.j0 k t572 a0_0 a0_1 a0_2 a0_3 l0_4 a1_0 a1_1 a1_2 a1_3 l1_4)) else (windlassref3_Compare.j0 k t571 a0_0 a0_1 a0_2 a0_3 l0_4 a1_0 a1_1 a1_2 a1_3 l1_4)) = some r:=H
 have A3:=Aside0.mk A30
 clear A30
 have HC4:=Aside0.mk H
 clear H
 go_enter Try.func42,Try.ntmps42
 go_upto_if 19 with (first|((with_reducible refine gate_dst (N:=2) rfl ?_);(try (refine gate_guard (by rfl) ?_;dsimp only));refine box_event ?hg (N:=2) ?hd (cs:=#[.int .i64 a0_0, .int .i64 a0_1, .string a0_2, .int .i64 a0_3, .slice A0_4 l0_4.length c0_4]) (t:=24) ?hr ?_;(case hd => rfl);(case hg => rfl);(case hr => first|(go_simp;done)|(go_simp;rfl));intro gb569 hg w5 hbox hb;have n0_:=Aside0.mk (below_step (by repeat (first|(with_reducible first|exact HB.out|apply below_alloc|apply pw_below_drewN|apply below_drew1)|exact HB.out)) hb);have n1_:=Aside0.mk (hbox);have n2_:=Aside0.mk ((by rw [hg];exact (below_size (by repeat (first|(with_reducible first|exact HB.out|apply below_alloc|apply pw_below_drewN|apply below_drew1)|exact HB.out))) : w.heap.size ≤ gb569));have n3_:=Aside0.mk ((by rw [hg];exact (below_size (by repeat (first|(with_reducible first|exact HB.out|apply below_alloc|apply pw_below_drewN|apply below_drew1)|exact HB.out))) : w.heap.size ≤ gb569));clear HB;have HB:=n0_;have BK569:=n1_;have GW569:=n2_;have GE569:=n3_;clear n0_ n1_ n2_ n3_;clear hb hbox hg)|((with_reducible refine gate_dst (N:=3) rfl ?_);(try (refine gate_guard (by rfl) ?_;dsimp only));refine box_event ?hg (N:=3) ?hd (cs:=#[.int .i64 a1_0, .int .i64 a1_1, .string a1_2, .int .i64 a1_3, .slice A1_4 l1_4.length c1_4]) (t:=24) ?hr ?_;(case hd => rfl);(case hg => rfl);(case hr => first|(go_simp;done)|(go_simp;rfl));intro gb570 hg w6 hbox hb;have n0_:=Aside0.mk (blk_below (g:=gb569) (o := .cells #[.int .i64 a0_0, .int .i64 a0_1, .string a0_2, .int .i64 a0_3, .slice A0_4 l0_4.length c0_4] 24 (0,0)) (by (with_reducible repeat (first|refine blk_drewN ?_ _|refine blk_drew ?_|refine blk_alloc ?_ _));exact BK569.out) hb);have n1_:=Aside0.mk (below_step (by repeat (first|(with_reducible first|exact HB.out|apply below_alloc|apply pw_below_drewN|apply below_drew1|refine below_set ?_ GE569.out)|exact HB.out)) hb);have n2_:=Aside0.mk (hbox);have n3_:=Aside0.mk ((by rw [hg];exact (below_size (by repeat (first|(with_reducible first|exact HB.out|apply below_alloc|apply pw_below_drewN|apply below_drew1|refine below_set ?_ GE569.out)|exact HB.out))) : w.heap.size ≤ gb570));have n4_:=Aside0.mk ((by rw [hg];exact (below_size (by repeat (first|(with_reducible first|exact HB.out|apply below_alloc|apply pw_below_drewN|apply below_drew1|refine below_set ?_ GE569.out)|exact HB.out))) : w.heap.size ≤ gb570));have n5_:=Aside0.mk ((by rw [hg];exact Nat.ne_of_lt (blk_lt (g:=gb569) (o := .cells #[.int .i64 a0_0, .int .i64 a0_1, .string a0_2, .int .i64 a0_3, .slice A0_4 l0_4.length c0_4] 24 (0,0)) (by (with_reducible repeat (first|refine blk_drewN ?_ _|refine blk_drew ?_|refine blk_alloc ?_ _));exact BK569.out)) : gb569 ≠ gb570));have n6_:=Aside0.mk ((by rw [hg];exact Nat.ne_of_gt (blk_lt (g:=gb569) (o := .cells #[.int .i64 a0_0, .int .i64 a0_1, .string a0_2, .int .i64 a0_3, .slice A0_4 l0_4.length c0_4] 24 (0,0)) (by (with_reducible repeat (first|refine blk_drewN ?_ _|refine blk_drew ?_|refine blk_alloc ?_ _));exact BK569.out)) : gb570 ≠ gb569));clear BK569;clear HB;have BK569:=n0_;have HB:=n1_;have BK570:=n2_;have GW570:=n3_;have GE570:=n4_;have NB569_570:=n5_;have NB570_569:=n6_;clear n0_ n1_ n2_ n3_ n4_ n5_ n6_;clear hb hbox hg;have hnb7:=NB569_570.out;have hnc7:=NB570_569.out;have hcz8_0 : w6.cell? ⟨gb569,0,none⟩ = some (.int .i64 a0_0):=(blk_cell BK569.out 0).trans rfl;have hcz8_1 : w6.cell? ⟨gb569,1,none⟩ = some (.int .i64 a0_1):=(blk_cell BK569.out 1).trans rfl;have hcz8_2 : w6.cell? ⟨gb569,2,none⟩ = some (.string a0_2):=(blk_cell BK569.out 2).trans rfl;have hcz8_3 : w6.cell? ⟨gb569,3,none⟩ = some (.int .i64 a0_3):=(blk_cell BK569.out 3).trans rfl;have hcz8_4 : w6.cell? ⟨gb569,4,none⟩ = some (.slice A0_4 l0_4.length c0_4):=(blk_cell BK569.out 4).trans rfl;have hfz8_0:=blk_frozen BK569.out 0;have hfz8_1:=blk_frozen BK569.out 1;have hfz8_2:=blk_frozen BK569.out 2;have hfz8_3:=blk_frozen BK569.out 3;have hfz8_4:=blk_frozen BK569.out 4;have hcz9_0 : w6.cell? ⟨gb570,0,none⟩ = some (.int .i64 a1_0):=(blk_cell BK570.out 0).trans rfl;have hcz9_1 : w6.cell? ⟨gb570,1,none⟩ = some (.int .i64 a1_1):=(blk_cell BK570.out 1).trans rfl;have hcz9_2 : w6.cell? ⟨gb570,2,none⟩ = some (.string a1_2):=(blk_cell BK570.out 2).trans rfl;have hcz9_3 : w6.cell? ⟨gb570,3,none⟩ = some (.int .i64 a1_3):=(blk_cell BK570.out 3).trans rfl;have hcz9_4 : w6.cell? ⟨gb570,4,none⟩ = some (.slice A1_4 l1_4.length c1_4):=(blk_cell BK570.out 4).trans rfl;have hfz9_0:=blk_frozen BK570.out 0;have hfz9_1:=blk_frozen BK570.out 1;have hfz9_2:=blk_frozen BK570.out 2;have hfz9_3:=blk_frozen BK570.out 3;have hfz9_4:=blk_frozen BK570.out 4)|((with_reducible refine gate_callee (f:=48) rfl ?_);refine goesL_ (some 17) rfl rfl Try.func48 (by kernel_rfl) rfl #[.bool (decide (a0_0 < a1_0)), .bool (decide (a0_0 > a1_0))] rfl (by (try simp only [List.map_toArray,List.map_cons,List.map_nil]);first|done|rfl|(simp only [List.length_drop,List.length_take];rfl)|(go_simp;done)|(go_simp;simp;done)) ?_;(with_reducible refine (windlassref3_order.calls (decide (a0_0 < a1_0)) (decide (a0_0 > a1_0)) t571 _ A3.out).mono ?_);rintro e w' ⟨rfl,⟨nd,rfl⟩⟩;refine ⟨_,rfl,?_⟩))
 (try simp only [Act.put,List.setIfInBounds_toArray,List.set_cons_zero,List.set_cons_succ])
 go_cut [5] (fun v5 wc => ∃ (kq : Nat) (x5_3 : Int),v5 = .int .i64 x5_3 ∧ Aside0 (windlassref3_Compare.j0 kq x5_3 a0_0 a0_1 a0_2 a0_3 l0_4 a1_0 a1_1 a1_2 a1_3 l1_4 = some r) ∧ Aside0 (kq ≤ k) ∧ Aside0 (wc.heap[gb569]? = some (.cells #[.int .i64 a0_0, .int .i64 a0_1, .string a0_2, .int .i64 a0_3,(.slice A0_4 l0_4.length c0_4)] 24 (0,0))) ∧ Aside0 (wc.heap[gb570]? = some (.cells #[.int .i64 a1_0, .int .i64 a1_1, .string a1_2, .int .i64 a1_3,(.slice A1_4 l1_4.length c1_4)] 24 (0,0))) ∧ Aside0 (Below w.heap.size w wc))
 case first =>
  have H:=HC4.out
  clear HC4
  by_cases c10 : t571 = 0
  ·rw [if_pos c10] at H
   have c10b0 : (t571 == 0) = true:=beq_iff_eq.mpr c10
   have c10b1 : (t571 != 0) = false:=bne_eq_false_iff_eq.mpr c10
   clear c10
   (first|rw [c10b0]|(simp only [i64_w,i32_w];rw [c10b0])|skip)
   replace H:=Option.bind_eq_some_iff.mp H
   obtain ⟨t572,A110,H⟩:=H
   replace H : (windlassref3_Compare.j0 k t572 a0_0 a0_1 a0_2 a0_3 l0_4 a1_0 a1_1 a1_2 a1_3 l1_4) = some r:=H
   have A11:=Aside0.mk A110
   clear A110
   have H':=Aside0.mk H
   clear H
   have hnb12:=NB569_570.out
   have hnc12:=NB570_569.out
   have hcz13_0 : w6.cell? ⟨gb569,0,none⟩ = some (.int .i64 a0_0):=(blk_cell BK569.out 0).trans rfl
   have hcz13_1 : w6.cell? ⟨gb569,1,none⟩ = some (.int .i64 a0_1):=(blk_cell BK569.out 1).trans rfl
   have hcz13_2 : w6.cell? ⟨gb569,2,none⟩ = some (.string a0_2):=(blk_cell BK569.out 2).trans rfl
   have hcz13_3 : w6.cell? ⟨gb569,3,none⟩ = some (.int .i64 a0_3):=(blk_cell BK569.out 3).trans rfl
   have hcz13_4 : w6.cell? ⟨gb569,4,none⟩ = some (.slice A0_4 l0_4.length c0_4):=(blk_cell BK569.out 4).trans rfl
   have hfz13_0:=blk_frozen BK569.out 0
   have hfz13_1:=blk_frozen BK569.out 1
   have hfz13_2:=blk_frozen BK569.out 2
   have hfz13_3:=blk_frozen BK569.out 3
   have hfz13_4:=blk_frozen BK569.out 4
   have hcz14_0 : w6.cell? ⟨gb570,0,none⟩ = some (.int .i64 a1_0):=(blk_cell BK570.out 0).trans rfl
   have hcz14_1 : w6.cell? ⟨gb570,1,none⟩ = some (.int .i64 a1_1):=(blk_cell BK570.out 1).trans rfl
   have hcz14_2 : w6.cell? ⟨gb570,2,none⟩ = some (.string a1_2):=(blk_cell BK570.out 2).trans rfl
   have hcz14_3 : w6.cell? ⟨gb570,3,none⟩ = some (.int .i64 a1_3):=(blk_cell BK570.out 3).trans rfl
   have hcz14_4 : w6.cell? ⟨gb570,4,none⟩ = some (.slice A1_4 l1_4.length c1_4):=(blk_cell BK570.out 4).trans rfl
   have hfz14_0:=blk_frozen BK570.out 0
   have hfz14_1:=blk_frozen BK570.out 1
   have hfz14_2:=blk_frozen BK570.out 2
   have hfz14_3:=blk_frozen BK570.out 3
   have hfz14_4:=blk_frozen BK570.out 4
   go_wp2_with (first|((with_reducible refine gate_callee (f:=48) rfl ?_);refine goesL_ (some 30) rfl rfl Try.func48 (by kernel_rfl) rfl #[.bool (decide (a0_1 < a1_1)), .bool (decide (a0_1 > a1_1))] rfl (by (try simp only [List.map_toArray,List.map_cons,List.map_nil]);first|done|rfl|(simp only [List.length_drop,List.length_take];rfl)|(go_simp;done)|(go_simp;simp;done)) ?_;(with_reducible refine (windlassref3_order.calls (decide (a0_1 < a1_1)) (decide (a0_1 > a1_1)) t572 _ A11.out).mono ?_);rintro e w' ⟨rfl,⟨nd,rfl⟩⟩;refine ⟨_,rfl,?_⟩))
   go_meet
   case rel => exact ⟨_,(t572),(by first|rfl|(simp;done)|(simp [*];done)),H',⟨by first|omega|exact Nat.le_refl _⟩,⟨by (with_reducible repeat (first|refine blk_drewN ?_ _|refine blk_drew ?_|refine blk_alloc ?_ _));exact BK569.out⟩,⟨by (with_reducible repeat (first|refine blk_drewN ?_ _|refine blk_drew ?_|refine blk_alloc ?_ _));exact BK570.out⟩,⟨by repeat (first|(with_reducible first|exact HB.out|apply below_alloc|apply pw_below_drewN|apply below_drew1|refine below_set ?_ GE569.out|refine below_set ?_ GE570.out)|exact HB.out)⟩⟩
  ·rw [if_neg c10] at H
   have c10b0 : (t571 == 0) = false:=beq_eq_false_iff_ne.mpr c10
   have c10b1 : (t571 != 0) = true:=bne_iff_ne.mpr c10
   (first|rw [c10b0]|(simp only [i64_w,i32_w];rw [c10b0])|skip)
   have H':=Aside0.mk H
   clear H
   go_wp2
   go_meet
   case rel => exact ⟨_,(t571),(by first|rfl|(simp;done)|(simp [*];done)),H',⟨by first|omega|exact Nat.le_refl _⟩,⟨by (with_reducible repeat (first|refine blk_drewN ?_ _|refine blk_drew ?_|refine blk_alloc ?_ _));exact BK569.out⟩,⟨by (with_reducible repeat (first|refine blk_drewN ?_ _|refine blk_drew ?_|refine blk_alloc ?_ _));exact BK570.out⟩,⟨by repeat (first|(with_reducible first|exact HB.out|apply below_alloc|apply pw_below_drewN|apply below_drew1|refine below_set ?_ GE569.out|refine below_set ?_ GE570.out)|exact HB.out)⟩⟩
 case rest =>
  clear HC4
  try clear c1
  try clear p2
  try clear c4
  try clear c7
  try clear c10
  try clear c10b0
  try clear c10b1
  try clear c12
  try clear hcz13_0
  try clear hcz13_1
  try clear hcz13_2
  try clear hcz13_3
  try clear hcz13_4
  try clear hcz14_0
  try clear hcz14_1
  try clear hcz14_2
  try clear hcz14_3
  try clear hcz14_4
  try clear hcz8_0
  try clear hcz8_1
  try clear hcz8_2
  try clear hcz8_3
  try clear hcz8_4
  try clear hcz9_0
  try clear hcz9_1
  try clear hcz9_2
  try clear hcz9_3
  try clear hcz9_4
  try clear hfz13_0
  try clear hfz13_1
  try clear hfz13_2
  try clear hfz13_3
  try clear hfz13_4
  try clear hfz14_0
  try clear hfz14_1
  try clear hfz14_2
  try clear hfz14_3
  try clear hfz14_4
  try clear hfz8_0
  try clear hfz8_1
  try clear hfz8_2
  try clear hfz8_3
  try clear hfz8_4
  try clear hfz9_0
  try clear hfz9_1
  try clear hfz9_2
  try clear hfz9_3
  try clear hfz9_4
  obtain ⟨kq,x5_3,rfl,HA,HJ3,BK569,BK570,HB⟩:=hcut
  cases kq with
  | zero => exact absurd HA.out (by simp [windlassref3_Compare.j0])
  | succ kj3 =>
   have H:=HA.out
   clear HA
   simp only [windlassref3_Compare.j0] at H
   have HC15:=Aside0.mk H
   clear H
   go_upto_if 32 with (fail)
   go_cut [5] (fun v5 wc => ∃ (kq : Nat) (x5_14 : Int),v5 = .int .i64 x5_14 ∧ Aside0 (windlassref3_Compare.j1 kq x5_14 a0_0 a0_1 a0_2 a0_3 l0_4 a1_0 a1_1 a1_2 a1_3 l1_4 = some r) ∧ Aside0 (kq ≤ kj3) ∧ Aside0 (wc.heap[gb569]? = some (.cells #[.int .i64 a0_0, .int .i64 a0_1, .string a0_2, .int .i64 a0_3,(.slice A0_4 l0_4.length c0_4)] 24 (0,0))) ∧ Aside0 (wc.heap[gb570]? = some (.cells #[.int .i64 a1_0, .int .i64 a1_1, .string a1_2, .int .i64 a1_3,(.slice A1_4 l1_4.length c1_4)] 24 (0,0))) ∧ Aside0 (Below w.heap.size w wc))
   case first =>
    have H:=HC15.out
    clear HC15
    by_cases c16 : x5_3 = 0
    ·rw [if_pos c16] at H
     have c16b0 : (x5_3 == 0) = true:=beq_iff_eq.mpr c16
     have c16b1 : (x5_3 != 0) = false:=bne_eq_false_iff_eq.mpr c16
     clear c16
     (first|rw [c16b0]|(simp only [i64_w,i32_w];rw [c16b0])|skip)
     replace H:=Option.bind_eq_some_iff.mp H
     obtain ⟨t573,A170,H⟩:=H
     replace H : (windlassref3_Compare.j1 kj3 t573 a0_0 a0_1 a0_2 a0_3 l0_4 a1_0 a1_1 a1_2 a1_3 l1_4) = some r:=H
     have A17:=Aside0.mk A170
     clear A170
     have H':=Aside0.mk H
     clear H
     have hnb18:=NB569_570.out
     have hnc18:=NB570_569.out
     have hcz19_0 : wc.cell? ⟨gb569,0,none⟩ = some (.int .i64 a0_0):=(blk_cell BK569.out 0).trans rfl
     have hcz19_1 : wc.cell? ⟨gb569,1,none⟩ = some (.int .i64 a0_1):=(blk_cell BK569.out 1).trans rfl
     have hcz19_2 : wc.cell? ⟨gb569,2,none⟩ = some (.string a0_2):=(blk_cell BK569.out 2).trans rfl
     have hcz19_3 : wc.cell? ⟨gb569,3,none⟩ = some (.int .i64 a0_3):=(blk_cell BK569.out 3).trans rfl
     have hcz19_4 : wc.cell? ⟨gb569,4,none⟩ = some (.slice A0_4 l0_4.length c0_4):=(blk_cell BK569.out 4).trans rfl
     have hfz19_0:=blk_frozen BK569.out 0
     have hfz19_1:=blk_frozen BK569.out 1
     have hfz19_2:=blk_frozen BK569.out 2
     have hfz19_3:=blk_frozen BK569.out 3
     have hfz19_4:=blk_frozen BK569.out 4
     have hcz20_0 : wc.cell? ⟨gb570,0,none⟩ = some (.int .i64 a1_0):=(blk_cell BK570.out 0).trans rfl
     have hcz20_1 : wc.cell? ⟨gb570,1,none⟩ = some (.int .i64 a1_1):=(blk_cell BK570.out 1).trans rfl
     have hcz20_2 : wc.cell? ⟨gb570,2,none⟩ = some (.string a1_2):=(blk_cell BK570.out 2).trans rfl
     have hcz20_3 : wc.cell? ⟨gb570,3,none⟩ = some (.int .i64 a1_3):=(blk_cell BK570.out 3).trans rfl
     have hcz20_4 : wc.cell? ⟨gb570,4,none⟩ = some (.slice A1_4 l1_4.length c1_4):=(blk_cell BK570.out 4).trans rfl
     have hfz20_0:=blk_frozen BK570.out 0
     have hfz20_1:=blk_frozen BK570.out 1
     have hfz20_2:=blk_frozen BK570.out 2
     have hfz20_3:=blk_frozen BK570.out 3
     have hfz20_4:=blk_frozen BK570.out 4
     go_wp2_with (first|((with_reducible refine gate_callee (f:=48) rfl ?_);refine goesL_ (some 43) rfl rfl Try.func48 (by kernel_rfl) rfl #[.bool (Op.bytesLess a0_2.toList a1_2.toList), .bool (!Op.bytesLess a0_2.toList a1_2.toList && !(a0_2.toList == a1_2.toList))] rfl (by (try simp only [List.map_toArray,List.map_cons,List.map_nil]);first|done|rfl|(simp only [List.length_drop,List.length_take];rfl)|(go_simp;done)|(go_simp;simp;done)) ?_;(with_reducible refine (windlassref3_order.calls (Op.bytesLess a0_2.toList a1_2.toList) (!Op.bytesLess a0_2.toList a1_2.toList && !(a0_2.toList == a1_2.toList)) t573 _ A17.out).mono ?_);rintro e w' ⟨rfl,⟨nd,rfl⟩⟩;refine ⟨_,rfl,?_⟩))
     go_meet
     case rel => exact ⟨_,(t573),(by first|rfl|(simp;done)|(simp [*];done)),H',⟨by have:=HJ3.out;first|omega|exact Nat.le_refl _⟩,⟨by (with_reducible repeat (first|refine blk_drewN ?_ _|refine blk_drew ?_|refine blk_alloc ?_ _));exact BK569.out⟩,⟨by (with_reducible repeat (first|refine blk_drewN ?_ _|refine blk_drew ?_|refine blk_alloc ?_ _));exact BK570.out⟩,⟨by repeat (first|(with_reducible first|exact HB.out|apply below_alloc|apply pw_below_drewN|apply below_drew1|refine below_set ?_ GE569.out|refine below_set ?_ GE570.out)|exact HB.out)⟩⟩
    ·rw [if_neg c16] at H
     have c16b0 : (x5_3 == 0) = false:=beq_eq_false_iff_ne.mpr c16
     have c16b1 : (x5_3 != 0) = true:=bne_iff_ne.mpr c16
     (first|rw [c16b0]|(simp only [i64_w,i32_w];rw [c16b0])|skip)
     have H':=Aside0.mk H
     clear H
     go_wp2
     go_meet
     case rel => exact ⟨_,(x5_3),(by first|rfl|(simp;done)|(simp [*];done)),H',⟨by have:=HJ3.out;first|omega|exact Nat.le_refl _⟩,⟨by (with_reducible repeat (first|refine blk_drewN ?_ _|refine blk_drew ?_|refine blk_alloc ?_ _));exact BK569.out⟩,⟨by (with_reducible repeat (first|refine blk_drewN ?_ _|refine blk_drew ?_|refine blk_alloc ?_ _));exact BK570.out⟩,⟨by repeat (first|(with_reducible first|exact HB.out|apply below_alloc|apply pw_below_drewN|apply below_drew1|refine below_set ?_ GE569.out|refine below_set ?_ GE570.out)|exact HB.out)⟩⟩
   case rest =>
    clear HC15
    try clear c1
    try clear p2
    try clear c4
    try clear c7
    try clear c10
    try clear c10b0
    try clear c10b1
    try clear c12
    try clear c16
    try clear c16b0
    try clear c16b1
    try clear c18
    try clear hcz13_0
    try clear hcz13_1
    try clear hcz13_2
    try clear hcz13_3
    try clear hcz13_4
    try clear hcz14_0
    try clear hcz14_1
    try clear hcz14_2
    try clear hcz14_3
    try clear hcz14_4
    try clear hcz19_0
    try clear hcz19_1
    try clear hcz19_2
    try clear hcz19_3
    try clear hcz19_4
    try clear hcz20_0
    try clear hcz20_1
    try clear hcz20_2
    try clear hcz20_3
    try clear hcz20_4
    try clear hcz8_0
    try clear hcz8_1
    try clear hcz8_2
    try clear hcz8_3
    try clear hcz8_4
    try clear hcz9_0
    try clear hcz9_1
    try clear hcz9_2
    try clear hcz9_3
    try clear hcz9_4
    try clear hfz13_0
    try clear hfz13_1
    try clear hfz13_2
    try clear hfz13_3
    try clear hfz13_4
    try clear hfz14_0
    try clear hfz14_1
    try clear hfz14_2
    try clear hfz14_3
    try clear hfz14_4
    try clear hfz19_0
    try clear hfz19_1
    try clear hfz19_2
    try clear hfz19_3
    try clear hfz19_4
    try clear hfz20_0
    try clear hfz20_1
    try clear hfz20_2
    try clear hfz20_3
    try clear hfz20_4
    try clear hfz8_0
    try clear hfz8_1
    try clear hfz8_2
    try clear hfz8_3
    try clear hfz8_4
    try clear hfz9_0
    try clear hfz9_1
    try clear hfz9_2
    try clear hfz9_3
    try clear hfz9_4
    try clear p2
    obtain ⟨kq,x5_14,rfl,HA,HJ14,BK569,BK570,HB⟩:=hcut
    cases kq with
    | zero => exact absurd HA.out (by simp [windlassref3_Compare.j1])
    | succ kj14 =>
     have H:=HA.out
     clear HA
     simp only [windlassref3_Compare.j1] at H
     have HC21:=Aside0.mk H
     clear H
     go_upto_if 45 with (fail)
     go_cut [5] (fun v5 wc => ∃ (kq : Nat) (x5_20 : Int),v5 = .int .i64 x5_20 ∧ Aside0 (windlassref3_Compare.j2 kq x5_20 a0_0 a0_1 a0_2 a0_3 l0_4 a1_0 a1_1 a1_2 a1_3 l1_4 = some r) ∧ Aside0 (kq ≤ kj14) ∧ Aside0 (wc.heap[gb569]? = some (.cells #[.int .i64 a0_0, .int .i64 a0_1, .string a0_2, .int .i64 a0_3,(.slice A0_4 l0_4.length c0_4)] 24 (0,0))) ∧ Aside0 (wc.heap[gb570]? = some (.cells #[.int .i64 a1_0, .int .i64 a1_1, .string a1_2, .int .i64 a1_3,(.slice A1_4 l1_4.length c1_4)] 24 (0,0))) ∧ Aside0 (Below w.heap.size w wc))
     case first =>
      have H:=HC21.out
      clear HC21
      by_cases c22 : x5_14 = 0
      ·rw [if_pos c22] at H
       have c22b0 : (x5_14 == 0) = true:=beq_iff_eq.mpr c22
       have c22b1 : (x5_14 != 0) = false:=bne_eq_false_iff_eq.mpr c22
       clear c22
       (first|rw [c22b0]|(simp only [i64_w,i32_w];rw [c22b0])|skip)
       replace H:=Option.bind_eq_some_iff.mp H
       obtain ⟨t574,A230,H⟩:=H
       replace H : (windlassref3_Compare.j2 kj14 t574 a0_0 a0_1 a0_2 a0_3 l0_4 a1_0 a1_1 a1_2 a1_3 l1_4) = some r:=H
       have A23:=Aside0.mk A230
       clear A230
       have H':=Aside0.mk H
       clear H
       have hnb24:=NB569_570.out
       have hnc24:=NB570_569.out
       have hcz25_0 : wc.cell? ⟨gb569,0,none⟩ = some (.int .i64 a0_0):=(blk_cell BK569.out 0).trans rfl
       have hcz25_1 : wc.cell? ⟨gb569,1,none⟩ = some (.int .i64 a0_1):=(blk_cell BK569.out 1).trans rfl
       have hcz25_2 : wc.cell? ⟨gb569,2,none⟩ = some (.string a0_2):=(blk_cell BK569.out 2).trans rfl
       have hcz25_3 : wc.cell? ⟨gb569,3,none⟩ = some (.int .i64 a0_3):=(blk_cell BK569.out 3).trans rfl
       have hcz25_4 : wc.cell? ⟨gb569,4,none⟩ = some (.slice A0_4 l0_4.length c0_4):=(blk_cell BK569.out 4).trans rfl
       have hfz25_0:=blk_frozen BK569.out 0
       have hfz25_1:=blk_frozen BK569.out 1
       have hfz25_2:=blk_frozen BK569.out 2
       have hfz25_3:=blk_frozen BK569.out 3
       have hfz25_4:=blk_frozen BK569.out 4
       have hcz26_0 : wc.cell? ⟨gb570,0,none⟩ = some (.int .i64 a1_0):=(blk_cell BK570.out 0).trans rfl
       have hcz26_1 : wc.cell? ⟨gb570,1,none⟩ = some (.int .i64 a1_1):=(blk_cell BK570.out 1).trans rfl
       have hcz26_2 : wc.cell? ⟨gb570,2,none⟩ = some (.string a1_2):=(blk_cell BK570.out 2).trans rfl
       have hcz26_3 : wc.cell? ⟨gb570,3,none⟩ = some (.int .i64 a1_3):=(blk_cell BK570.out 3).trans rfl
       have hcz26_4 : wc.cell? ⟨gb570,4,none⟩ = some (.slice A1_4 l1_4.length c1_4):=(blk_cell BK570.out 4).trans rfl
       have hfz26_0:=blk_frozen BK570.out 0
       have hfz26_1:=blk_frozen BK570.out 1
       have hfz26_2:=blk_frozen BK570.out 2
       have hfz26_3:=blk_frozen BK570.out 3
       have hfz26_4:=blk_frozen BK570.out 4
       go_wp2_with (first|((with_reducible refine gate_callee (f:=48) rfl ?_);refine goesL_ (some 56) rfl rfl Try.func48 (by kernel_rfl) rfl #[.bool (decide (a0_3 < a1_3)), .bool (decide (a0_3 > a1_3))] rfl (by (try simp only [List.map_toArray,List.map_cons,List.map_nil]);first|done|rfl|(simp only [List.length_drop,List.length_take];rfl)|(go_simp;done)|(go_simp;simp;done)) ?_;(with_reducible refine (windlassref3_order.calls (decide (a0_3 < a1_3)) (decide (a0_3 > a1_3)) t574 _ A23.out).mono ?_);rintro e w' ⟨rfl,⟨nd,rfl⟩⟩;refine ⟨_,rfl,?_⟩))
       go_meet
       case rel => exact ⟨_,(t574),(by first|rfl|(simp;done)|(simp [*];done)),H',⟨by have:=HJ3.out;have:=HJ14.out;first|omega|exact Nat.le_refl _⟩,⟨by (with_reducible repeat (first|refine blk_drewN ?_ _|refine blk_drew ?_|refine blk_alloc ?_ _));exact BK569.out⟩,⟨by (with_reducible repeat (first|refine blk_drewN ?_ _|refine blk_drew ?_|refine blk_alloc ?_ _));exact BK570.out⟩,⟨by repeat (first|(with_reducible first|exact HB.out|apply below_alloc|apply pw_below_drewN|apply below_drew1|refine below_set ?_ GE569.out|refine below_set ?_ GE570.out)|exact HB.out)⟩⟩
      ·rw [if_neg c22] at H
       have c22b0 : (x5_14 == 0) = false:=beq_eq_false_iff_ne.mpr c22
       have c22b1 : (x5_14 != 0) = true:=bne_iff_ne.mpr c22
       (first|rw [c22b0]|(simp only [i64_w,i32_w];rw [c22b0])|skip)
       have H':=Aside0.mk H
       clear H
       go_wp2
       go_meet
       case rel => exact ⟨_,(x5_14),(by first|rfl|(simp;done)|(simp [*];done)),H',⟨by have:=HJ3.out;have:=HJ14.out;first|omega|exact Nat.le_refl _⟩,⟨by (with_reducible repeat (first|refine blk_drewN ?_ _|refine blk_drew ?_|refine blk_alloc ?_ _));exact BK569.out⟩,⟨by (with_reducible repeat (first|refine blk_drewN ?_ _|refine blk_drew ?_|refine blk_alloc ?_ _));exact BK570.out⟩,⟨by repeat (first|(with_reducible first|exact HB.out|apply below_alloc|apply pw_below_drewN|apply below_drew1|refine below_set ?_ GE569.out|refine below_set ?_ GE570.out)|exact HB.out)⟩⟩
     case rest =>
      clear HC21
      try clear c1
      try clear c2
      try clear p2
      try clear c4
      try clear c7
      try clear c10
      try clear c10b0
      try clear c10b1
      try clear c12
      try clear c16
      try clear c16b0
      try clear c16b1
      try clear c18
      try clear c22
      try clear c22b0
      try clear c22b1
      try clear c24
      try clear hcz13_0
      try clear hcz13_1
      try clear hcz13_2
      try clear hcz13_3
      try clear hcz13_4
      try clear hcz14_0
      try clear hcz14_1
      try clear hcz14_2
      try clear hcz14_3
      try clear hcz14_4
      try clear hcz19_0
      try clear hcz19_1
      try clear hcz19_2
      try clear hcz19_3
      try clear hcz19_4
      try clear hcz20_0
      try clear hcz20_1
      try clear hcz20_2
      try clear hcz20_3
      try clear hcz20_4
      try clear hcz25_0
      try clear hcz25_1
      try clear hcz25_2
      try clear hcz25_3
      try clear hcz25_4
      try clear hcz26_0
      try clear hcz26_1
      try clear hcz26_2
      try clear hcz26_3
      try clear hcz26_4
      try clear hcz8_0
      try clear hcz8_1
      try clear hcz8_2
      try clear hcz8_3
      try clear hcz8_4
      try clear hcz9_0
      try clear hcz9_1
      try clear hcz9_2
      try clear hcz9_3
      try clear hcz9_4
      try clear hfz13_0
      try clear hfz13_1
      try clear hfz13_2
      try clear hfz13_3
      try clear hfz13_4
      try clear hfz14_0
      try clear hfz14_1
      try clear hfz14_2
      try clear hfz14_3
      try clear hfz14_4
      try clear hfz19_0
      try clear hfz19_1
      try clear hfz19_2
      try clear hfz19_3
      try clear hfz19_4
      try clear hfz20_0
      try clear hfz20_1
      try clear hfz20_2
      try clear hfz20_3
      try clear hfz20_4
      try clear hfz25_0
      try clear hfz25_1
      try clear hfz25_2
      try clear hfz25_3
      try clear hfz25_4
      try clear hfz26_0
      try clear hfz26_1
      try clear hfz26_2
      try clear hfz26_3
      try clear hfz26_4
      try clear hfz8_0
      try clear hfz8_1
      try clear hfz8_2
      try clear hfz8_3
      try clear hfz8_4
      try clear hfz9_0
      try clear hfz9_1
      try clear hfz9_2
      try clear hfz9_3
      try clear hfz9_4
      try clear p2
      obtain ⟨kq,x5_20,rfl,HA,HJ20,BK569,BK570,HB⟩:=hcut
      cases kq with
      | zero => exact absurd HA.out (by simp [windlassref3_Compare.j2])
      | succ kj20 =>
       have H:=HA.out
       clear HA
       simp only [windlassref3_Compare.j2] at H
       have H':=Aside0.mk H
       clear H
       go_wp2
       go_loopg [5,6] kj20 (fun kq v5 v6 w' => ∃ (x5_4 : Int) (x6_4 : Int),v5 = .int .i64 x5_4 ∧ v6 = .int .i64 x6_4 ∧ Aside0 (windlassref3_Compare.l0 kq x5_4 x6_4 a0_0 a0_1 a0_2 a0_3 l0_4 a1_0 a1_1 a1_2 a1_3 l1_4 = some r) ∧ Aside0 (kq ≤ kj20) ∧ Aside0 (w'.heap[gb569]? = some (.cells #[.int .i64 a0_0, .int .i64 a0_1, .string a0_2, .int .i64 a0_3,(.slice A0_4 l0_4.length c0_4)] 24 (0,0))) ∧ Aside0 (w'.heap[gb570]? = some (.cells #[.int .i64 a1_0, .int .i64 a1_1, .string a1_2, .int .i64 a1_3,(.slice A1_4 l1_4.length c1_4)] 24 (0,0))) ∧ Aside0 (Below w.heap.size w w'))
       case atStart => exact ⟨(x5_20),(0),(by first|rfl|(simp;done)|(simp [*];done)),(by first|rfl|(simp;done)|(simp [*];done)),H',⟨Nat.le_refl _⟩,⟨by (with_reducible repeat (first|refine blk_drewN ?_ _|refine blk_drew ?_|refine blk_alloc ?_ _));exact BK569.out⟩,⟨by (with_reducible repeat (first|refine blk_drewN ?_ _|refine blk_drew ?_|refine blk_alloc ?_ _));exact BK570.out⟩,⟨by repeat (first|(with_reducible first|exact HB.out|apply below_alloc|apply pw_below_drewN|apply below_drew1|refine below_set ?_ GE569.out|refine below_set ?_ GE570.out)|exact HB.out)⟩⟩
       case round =>
        clear H'
        try clear c1
        try clear c2
        try clear p2
        try clear c4
        try clear c7
        try clear c10
        try clear c10b0
        try clear c10b1
        try clear c12
        try clear c16
        try clear c16b0
        try clear c16b1
        try clear c18
        try clear c22
        try clear c22b0
        try clear c22b1
        try clear c24
        try clear hcz13_0
        try clear hcz13_1
        try clear hcz13_2
        try clear hcz13_3
        try clear hcz13_4
        try clear hcz14_0
        try clear hcz14_1
        try clear hcz14_2
        try clear hcz14_3
        try clear hcz14_4
        try clear hcz19_0
        try clear hcz19_1
        try clear hcz19_2
        try clear hcz19_3
        try clear hcz19_4
        try clear hcz20_0
        try clear hcz20_1
        try clear hcz20_2
        try clear hcz20_3
        try clear hcz20_4
        try clear hcz25_0
        try clear hcz25_1
        try clear hcz25_2
        try clear hcz25_3
        try clear hcz25_4
        try clear hcz26_0
        try clear hcz26_1
        try clear hcz26_2
        try clear hcz26_3
        try clear hcz26_4
        try clear hcz8_0
        try clear hcz8_1
        try clear hcz8_2
        try clear hcz8_3
        try clear hcz8_4
        try clear hcz9_0
        try clear hcz9_1
        try clear hcz9_2
        try clear hcz9_3
        try clear hcz9_4
        try clear hfz13_0
        try clear hfz13_1
        try clear hfz13_2
        try clear hfz13_3
        try clear hfz13_4
        try clear hfz14_0
        try clear hfz14_1
        try clear hfz14_2
        try clear hfz14_3
        try clear hfz14_4
        try clear hfz19_0
        try clear hfz19_1
        try clear hfz19_2
        try clear hfz19_3
        try clear hfz19_4
        try clear hfz20_0
        try clear hfz20_1
        try clear hfz20_2
        try clear hfz20_3
        try clear hfz20_4
        try clear hfz25_0
        try clear hfz25_1
        try clear hfz25_2
        try clear hfz25_3
        try clear hfz25_4
        try clear hfz26_0
        try clear hfz26_1
        try clear hfz26_2
        try clear hfz26_3
        try clear hfz26_4
        try clear hfz8_0
        try clear hfz8_1
        try clear hfz8_2
        try clear hfz8_3
        try clear hfz8_4
        try clear hfz9_0
        try clear hfz9_1
        try clear hfz9_2
        try clear hfz9_3
        try clear hfz9_4
        try clear p2
        obtain ⟨x5_4,x6_4,rfl,rfl,HA,HK4,BK569,BK570,HB⟩:=hrel
        cases gk with
        | zero => exact absurd HA.out (by simp [windlassref3_Compare.l0])
        | succ k4 =>
         have H:=HA.out
         clear HA
         simp only [windlassref3_Compare.l0] at H
         by_cases c27 : x6_4 < (l0_4.length : Int)
         ·rw [if_pos c27] at H
          have c27b0 : decide (x6_4 < (l0_4.length : Int)) = true:=decide_eq_true c27
          clear c27
          by_cases c28 : x6_4 < (l1_4.length : Int)
          ·rw [if_pos c28] at H
           have c28b0 : decide (x6_4 < (l1_4.length : Int)) = true:=decide_eq_true c28
           clear c28
           by_cases c29 : x5_4 = 0
           ·rw [if_pos c29] at H
            have c29b0 : (x5_4 == 0) = true:=beq_iff_eq.mpr c29
            have c29b1 : (x5_4 != 0) = false:=bne_eq_false_iff_eq.mpr c29
            clear c29
            by_cases c30 : 0 ≤ x6_4
            ·rw [if_pos c30] at H
             have c30b0 : decide (0 ≤ x6_4) = true:=decide_eq_true c30
             clear c30
             replace H:=Option.bind_eq_some_iff.mp H
             obtain ⟨t577,A310,H⟩:=H
             replace H : (windlassref3_Compare.l0 k4 t577 (wrap64 (x6_4 + 1)) a0_0 a0_1 a0_2 a0_3 l0_4 a1_0 a1_1 a1_2 a1_3 l1_4) = some r:=H
             have A31:=Aside0.mk A310
             clear A310
             have H':=Aside0.mk H
             clear H
             have hnb32:=NB569_570.out
             have hnc32:=NB570_569.out
             have hcz33_0 : wr.cell? ⟨gb569,0,none⟩ = some (.int .i64 a0_0):=(blk_cell BK569.out 0).trans rfl
             have hcz33_1 : wr.cell? ⟨gb569,1,none⟩ = some (.int .i64 a0_1):=(blk_cell BK569.out 1).trans rfl
             have hcz33_2 : wr.cell? ⟨gb569,2,none⟩ = some (.string a0_2):=(blk_cell BK569.out 2).trans rfl
             have hcz33_3 : wr.cell? ⟨gb569,3,none⟩ = some (.int .i64 a0_3):=(blk_cell BK569.out 3).trans rfl
             have hcz33_4 : wr.cell? ⟨gb569,4,none⟩ = some (.slice A0_4 l0_4.length c0_4):=(blk_cell BK569.out 4).trans rfl
             have hfz33_0:=blk_frozen BK569.out 0
             have hfz33_1:=blk_frozen BK569.out 1
             have hfz33_2:=blk_frozen BK569.out 2
             have hfz33_3:=blk_frozen BK569.out 3
             have hfz33_4:=blk_frozen BK569.out 4
             have hcz34_0 : wr.cell? ⟨gb570,0,none⟩ = some (.int .i64 a1_0):=(blk_cell BK570.out 0).trans rfl
             have hcz34_1 : wr.cell? ⟨gb570,1,none⟩ = some (.int .i64 a1_1):=(blk_cell BK570.out 1).trans rfl
             have hcz34_2 : wr.cell? ⟨gb570,2,none⟩ = some (.string a1_2):=(blk_cell BK570.out 2).trans rfl
             have hcz34_3 : wr.cell? ⟨gb570,3,none⟩ = some (.int .i64 a1_3):=(blk_cell BK570.out 3).trans rfl
             have hcz34_4 : wr.cell? ⟨gb570,4,none⟩ = some (.slice A1_4 l1_4.length c1_4):=(blk_cell BK570.out 4).trans rfl
             have hfz34_0:=blk_frozen BK570.out 0
             have hfz34_1:=blk_frozen BK570.out 1
             have hfz34_2:=blk_frozen BK570.out 2
             have hfz34_3:=blk_frozen BK570.out 3
             have hfz34_4:=blk_frozen BK570.out 4
             try go_wp2
             have n0_:=Aside0.mk (blk_drew BK569.out)
             have n1_:=Aside0.mk (blk_drew BK570.out)
             have n2_:=Aside0.mk (below_drew1 HB.out)
             clear BK569
             clear BK570
             clear HB
             have BK569:=n0_
             have BK570:=n1_
             have HB:=n2_
             clear n0_ n1_ n2_
             have p575 : 0 ≤ (x6_4 : Int):=of_decide_eq_true (by first|(with_reducible assumption)|assumption)
             have q575 : x6_4 < (l0_4.length : Int):=of_decide_eq_true (by first|(with_reducible assumption)|assumption)
             obtain ⟨ad575,A575_4,c575_4,e575,hx575_0,hx575_1,hx575_2,hx575_3,hx575_4,hl575_4,hi575_4⟩:=at_T24 HR0_4.out x6_4 p575 q575
             have hw575_4:=hx575_4
             have hw575_3:=hx575_3
             have hw575_2:=hx575_2
             have hw575_1:=hx575_1
             have hw575_0:=hx575_0
             cases e575
             replace hx575_0:=(HB.out.cell (World.block_lt_of_cell? w _ hx575_0)).trans hx575_0
             replace hx575_1:=(HB.out.cell (World.block_lt_of_cell? w _ hx575_1)).trans hx575_1
             replace hx575_2:=(HB.out.cell (World.block_lt_of_cell? w _ hx575_2)).trans hx575_2
             replace hx575_3:=(HB.out.cell (World.block_lt_of_cell? w _ hx575_3)).trans hx575_3
             replace hx575_4:=(HB.out.cell (World.block_lt_of_cell? w _ hx575_4)).trans hx575_4
             have HR575_4:=Aside0.mk hi575_4
             have HC575_4:=Aside0.mk hl575_4
             clear hi575_4 hl575_4
             replace p575:=eq_true p575
             replace q575:=eq_true q575
             have p576 : 0 ≤ (x6_4 : Int):=of_decide_eq_true (by first|(with_reducible assumption)|assumption)
             have q576 : x6_4 < (l1_4.length : Int):=of_decide_eq_true (by first|(with_reducible assumption)|assumption)
             obtain ⟨ad576,A576_4,c576_4,e576,hx576_0,hx576_1,hx576_2,hx576_3,hx576_4,hl576_4,hi576_4⟩:=at_T24 HR1_4.out x6_4 p576 q576
             have hw576_4:=hx576_4
             have hw576_3:=hx576_3
             have hw576_2:=hx576_2
             have hw576_1:=hx576_1
             have hw576_0:=hx576_0
             cases e576
             replace hx576_0:=(HB.out.cell (World.block_lt_of_cell? w _ hx576_0)).trans hx576_0
             replace hx576_1:=(HB.out.cell (World.block_lt_of_cell? w _ hx576_1)).trans hx576_1
             replace hx576_2:=(HB.out.cell (World.block_lt_of_cell? w _ hx576_2)).trans hx576_2
             replace hx576_3:=(HB.out.cell (World.block_lt_of_cell? w _ hx576_3)).trans hx576_3
             replace hx576_4:=(HB.out.cell (World.block_lt_of_cell? w _ hx576_4)).trans hx576_4
             have HR576_4:=Aside0.mk hi576_4
             have HC576_4:=Aside0.mk hl576_4
             clear hi576_4 hl576_4
             replace p576:=eq_true p576
             replace q576:=eq_true q576
             refine start_ (n:=12) (S:=fun w' => w'.cell? ⟨gb569,0,none⟩ = some (.int .i64 a0_0) ∧ w'.cell? ⟨gb569,1,none⟩ = some (.int .i64 a0_1) ∧ w'.cell? ⟨gb569,2,none⟩ = some (.string a0_2) ∧ w'.cell? ⟨gb569,3,none⟩ = some (.int .i64 a0_3) ∧ w'.cell? ⟨gb569,4,none⟩ = some (.slice (some ad575) l0_4.length c0_4) ∧ w'.cell? ⟨gb570,0,none⟩ = some (.int .i64 a1_0) ∧ w'.cell? ⟨gb570,1,none⟩ = some (.int .i64 a1_1) ∧ w'.cell? ⟨gb570,2,none⟩ = some (.string a1_2) ∧ w'.cell? ⟨gb570,3,none⟩ = some (.int .i64 a1_3) ∧ w'.cell? ⟨gb570,4,none⟩ = some (.slice (some ad576) l1_4.length c1_4) ∧ w'.cell? (ad575.add ((x6_4).toNat * 5)) = some (.int .i64 ((rd_T24 l0_4 x6_4).f0)) ∧ w'.cell? ⟨(ad575.add ((x6_4).toNat * 5)).block,(ad575.add ((x6_4).toNat * 5)).off + 1,none⟩ = some (.int .i64 ((rd_T24 l0_4 x6_4).f1)) ∧ w'.cell? ⟨(ad575.add ((x6_4).toNat * 5)).block,(ad575.add ((x6_4).toNat * 5)).off + 2,none⟩ = some (.string ((rd_T24 l0_4 x6_4).f2)) ∧ w'.cell? ⟨(ad575.add ((x6_4).toNat * 5)).block,(ad575.add ((x6_4).toNat * 5)).off + 3,none⟩ = some (.int .i64 ((rd_T24 l0_4 x6_4).f3)) ∧ w'.cell? ⟨(ad575.add ((x6_4).toNat * 5)).block,(ad575.add ((x6_4).toNat * 5)).off + 4,none⟩ = some (.slice A575_4 ((rd_T24 l0_4 x6_4).f4).length c575_4) ∧ w'.cell? (ad576.add ((x6_4).toNat * 5)) = some (.int .i64 ((rd_T24 l1_4 x6_4).f0)) ∧ w'.cell? ⟨(ad576.add ((x6_4).toNat * 5)).block,(ad576.add ((x6_4).toNat * 5)).off + 1,none⟩ = some (.int .i64 ((rd_T24 l1_4 x6_4).f1)) ∧ w'.cell? ⟨(ad576.add ((x6_4).toNat * 5)).block,(ad576.add ((x6_4).toNat * 5)).off + 2,none⟩ = some (.string ((rd_T24 l1_4 x6_4).f2)) ∧ w'.cell? ⟨(ad576.add ((x6_4).toNat * 5)).block,(ad576.add ((x6_4).toNat * 5)).off + 3,none⟩ = some (.int .i64 ((rd_T24 l1_4 x6_4).f3)) ∧ w'.cell? ⟨(ad576.add ((x6_4).toNat * 5)).block,(ad576.add ((x6_4).toNat * 5)).off + 4,none⟩ = some (.slice A576_4 ((rd_T24 l1_4 x6_4).f4).length c576_4)) (ds:=[]) #[false,false,false,false,false,false,false,false,false,false,false,false] (by kernel_rfl) rfl rfl ⟨(blk_cell BK569.out 0).trans rfl,(blk_cell BK569.out 1).trans rfl,(blk_cell BK569.out 2).trans rfl,(blk_cell BK569.out 3).trans rfl,(blk_cell BK569.out 4).trans rfl,(blk_cell BK570.out 0).trans rfl,(blk_cell BK570.out 1).trans rfl,(blk_cell BK570.out 2).trans rfl,(blk_cell BK570.out 3).trans rfl,(blk_cell BK570.out 4).trans rfl,((HB.out.cell (World.block_lt_of_cell? w _ hw575_0)).trans hw575_0),((HB.out.cell (World.block_lt_of_cell? w _ hw575_1)).trans hw575_1),((HB.out.cell (World.block_lt_of_cell? w _ hw575_2)).trans hw575_2),((HB.out.cell (World.block_lt_of_cell? w _ hw575_3)).trans hw575_3),((HB.out.cell (World.block_lt_of_cell? w _ hw575_4)).trans hw575_4),((HB.out.cell (World.block_lt_of_cell? w _ hw576_0)).trans hw576_0),((HB.out.cell (World.block_lt_of_cell? w _ hw576_1)).trans hw576_1),((HB.out.cell (World.block_lt_of_cell? w _ hw576_2)).trans hw576_2),((HB.out.cell (World.block_lt_of_cell? w _ hw576_3)).trans hw576_3),((HB.out.cell (World.block_lt_of_cell? w _ hw576_4)).trans hw576_4)⟩ (fun hHeld => ?_);refine with_tabW windlassref3_Compare.tab11 windlassref3_Compare.bits11 (fun HT_ HW_ => ?_)
             generalize wr.drew = w35 at BK569 BK570 HB HR575_4 HR576_4 hx575_0 hx575_1 hx575_2 hx575_3 hx575_4 hx576_0 hx576_1 hx576_2 hx576_3 hx576_4 hHeld ⊢
             refine pure_ (i:=0) (N:=some 75) (v:=?_) (a':=?_) #[true,false,false,false,false,false,false,false,false,false,false,false] rfl rfl (any_of HT_.out (by kernel_rfl)) (fun _ _ _ h => h) (Or.inl ⟨by rfl,?_⟩) ?_ ?_
             rotate_left
             ·intro w'
              go_simp
              with_reducible rfl
             rotate_left
             ·simp only [Act.put,List.setIfInBounds_toArray,List.set_cons_zero,List.set_cons_succ,i64_w,i32_w]
              rfl
             refine pure_ (i:=2) (N:=some 77) (v:=?_) (a':=?_) #[true,false,true,false,false,false,false,false,false,false,false,false] rfl rfl (any_of HT_.out (by kernel_rfl)) (fun _ _ _ h => h) (Or.inl ⟨by rfl,?_⟩) ?_ ?_
             rotate_left
             ·intro w'
              go_simp
              with_reducible rfl
             rotate_left
             ·simp only [Act.put,List.setIfInBounds_toArray,List.set_cons_zero,List.set_cons_succ,i64_w,i32_w]
              rfl
             refine pure_ (i:=5) (N:=some 80) (v:=?_) (a':=?_) #[true,false,true,false,false,true,false,false,false,false,false,false] rfl rfl (any_of HT_.out (by kernel_rfl)) (fun _ _ _ h => h) (Or.inl ⟨by rfl,?_⟩) ?_ ?_
             rotate_left
             ·intro w'
              go_simp
              with_reducible rfl
             rotate_left
             ·simp only [Act.put,List.setIfInBounds_toArray,List.set_cons_zero,List.set_cons_succ,i64_w,i32_w]
              rfl
             refine pure_ (i:=7) (N:=some 82) (v:=?_) (a':=?_) #[true,false,true,false,false,true,false,true,false,false,false,false] rfl rfl (any_of HT_.out (by kernel_rfl)) (fun _ _ _ h => h) (Or.inl ⟨by rfl,?_⟩) ?_ ?_
             rotate_left
             ·intro w'
              go_simp
              with_reducible rfl
             rotate_left
             ·simp only [Act.put,List.setIfInBounds_toArray,List.set_cons_zero,List.set_cons_succ,i64_w,i32_w]
              rfl
             refine take_ (i:=1) (N:=some 76) (v:=?_) (a':=?_) #[true,true,true,false,false,true,false,true,false,false,false,false] rfl rfl (take_ofW HT_.out HW_.out (by kernel_rfl)) (fun _ _ _ h => h) (Or.inl ⟨by rfl,?_⟩) hHeld ?_ ?_
             rotate_left
             ·rintro w' ⟨s0,s1,s2,s3,s4,s5,s6,s7,s8,s9,s10,s11,s12,s13,s14,s15,s16,s17,s18,s19⟩
              go_simp
              with_reducible rfl
             rotate_left
             ·simp only [Act.put,List.setIfInBounds_toArray,List.set_cons_zero,List.set_cons_succ,i64_w,i32_w]
              rfl
             refine pure_ (i:=3) (N:=some 78) (v:=?_) (a':=?_) #[true,true,true,true,false,true,false,true,false,false,false,false] rfl rfl (any_of HT_.out (by kernel_rfl)) (fun _ _ _ h => h) (Or.inl ⟨by rfl,?_⟩) ?_ ?_
             rotate_left
             ·intro w'
              go_simp
              with_reducible rfl
             rotate_left
             ·simp only [Act.put,List.setIfInBounds_toArray,List.set_cons_zero,List.set_cons_succ,i64_w,i32_w]
              rfl
             refine take_ (i:=4) (N:=some 79) (v:=?_) (a':=?_) #[true,true,true,true,true,true,false,true,false,false,false,false] rfl rfl (take_ofW HT_.out HW_.out (by kernel_rfl)) (fun _ _ _ h => h) (Or.inl ⟨by rfl,?_⟩) hHeld ?_ ?_
             rotate_left
             ·rintro w' ⟨s0,s1,s2,s3,s4,s5,s6,s7,s8,s9,s10,s11,s12,s13,s14,s15,s16,s17,s18,s19⟩
              go_simp
              with_reducible rfl
             rotate_left
             ·simp only [Act.put,List.setIfInBounds_toArray,List.set_cons_zero,List.set_cons_succ,i64_w,i32_w]
              rfl
             refine take_ (i:=6) (N:=some 81) (v:=?_) (a':=?_) #[true,true,true,true,true,true,true,true,false,false,false,false] rfl rfl (take_ofW HT_.out HW_.out (by kernel_rfl)) (fun _ _ _ h => h) (Or.inl ⟨by rfl,?_⟩) hHeld ?_ ?_
             rotate_left
             ·rintro w' ⟨s0,s1,s2,s3,s4,s5,s6,s7,s8,s9,s10,s11,s12,s13,s14,s15,s16,s17,s18,s19⟩
              go_simp
              with_reducible rfl
             rotate_left
             ·simp only [Act.put,List.setIfInBounds_toArray,List.set_cons_zero,List.set_cons_succ,i64_w,i32_w]
              rfl
             refine pure_ (i:=8) (N:=some 83) (v:=?_) (a':=?_) #[true,true,true,true,true,true,true,true,true,false,false,false] rfl rfl (any_of HT_.out (by kernel_rfl)) (fun _ _ _ h => h) (Or.inl ⟨by rfl,?_⟩) ?_ ?_
             rotate_left
             ·intro w'
              go_simp
              with_reducible rfl
             rotate_left
             ·simp only [Act.put,List.setIfInBounds_toArray,List.set_cons_zero,List.set_cons_succ,i64_w,i32_w]
              rfl
             refine take_ (i:=9) (N:=some 84) (v:=?_) (a':=?_) #[true,true,true,true,true,true,true,true,true,true,false,false] rfl rfl (take_ofW HT_.out HW_.out (by kernel_rfl)) (fun _ _ _ h => h) (Or.inl ⟨by rfl,?_⟩) hHeld ?_ ?_
             rotate_left
             ·rintro w' ⟨s0,s1,s2,s3,s4,s5,s6,s7,s8,s9,s10,s11,s12,s13,s14,s15,s16,s17,s18,s19⟩
              go_simp
              with_reducible rfl
             rotate_left
             ·simp only [Act.put,List.setIfInBounds_toArray,List.set_cons_zero,List.set_cons_succ,i64_w,i32_w]
              rfl
             refine one_ (i:=10) (N:=some 85) #[true,true,true,true,true,true,true,true,true,true,true,false] rfl rfl (one_of HT_.out (by kernel_rfl)) (by decide) (fun K hK => ?_)
             refine goes_ Try.func42 (by kernel_rfl) rfl #[.agg #[.int .i64 ((rd_T24 l0_4 x6_4).f0), .int .i64 ((rd_T24 l0_4 x6_4).f1), .string ((rd_T24 l0_4 x6_4).f2), .int .i64 ((rd_T24 l0_4 x6_4).f3), .slice A575_4 ((rd_T24 l0_4 x6_4).f4).length c575_4], .agg #[.int .i64 ((rd_T24 l1_4 x6_4).f0), .int .i64 ((rd_T24 l1_4 x6_4).f1), .string ((rd_T24 l1_4 x6_4).f2), .int .i64 ((rd_T24 l1_4 x6_4).f3), .slice A576_4 ((rd_T24 l1_4 x6_4).f4).length c576_4]] (by rfl) rfl rfl (by (try simp only [List.map_toArray,List.map_cons,List.map_nil]);first|done|rfl|(simp only [List.length_drop,List.length_take];rfl)|(go_simp;done)|(go_simp;simp;done)) ?_
             with_reducible refine (ih k4 (by have:=HJ3.out;have:=HJ14.out;have:=HJ20.out;have:=HK4.out;omega) ((rd_T24 l0_4 x6_4).f0) ((rd_T24 l0_4 x6_4).f1) ((rd_T24 l0_4 x6_4).f2) ((rd_T24 l0_4 x6_4).f3) _ _ ((rd_T24 l0_4 x6_4).f4) ((rd_T24 l1_4 x6_4).f0) ((rd_T24 l1_4 x6_4).f1) ((rd_T24 l1_4 x6_4).f2) ((rd_T24 l1_4 x6_4).f3) _ _ ((rd_T24 l1_4 x6_4).f4) t577 _ ?side1 ?side2 ?side3 ?side4 A31.out).mono ?_
             (case side1 => repeat (first|exact (Kd.C_below HR575_4.out HB.out)|(with_reducible refine Kd.C_alloc ?_ _)|(with_reducible refine Kd.C_drewN ?_ _)|(with_reducible refine Kd.C_drew ?_)))
             (case side2 => exact HC575_4.out)
             (case side3 => repeat (first|exact (Kd.C_below HR576_4.out HB.out)|(with_reducible refine Kd.C_alloc ?_ _)|(with_reducible refine Kd.C_drewN ?_ _)|(with_reducible refine Kd.C_drew ?_)))
             (case side4 => exact HC576_4.out)
             rintro e w36 ⟨rfl,hb⟩
             refine ⟨_,rfl,?_⟩
             have n0_:=Aside0.mk (blk_below (g:=gb569) (o := .cells #[.int .i64 a0_0, .int .i64 a0_1, .string a0_2, .int .i64 a0_3, .slice (some ad575) l0_4.length c0_4] 24 (0,0)) (by (with_reducible repeat (first|refine blk_drewN ?_ _|refine blk_drew ?_|refine blk_alloc ?_ _));exact BK569.out) hb)
             have n1_:=Aside0.mk (blk_below (g:=gb570) (o := .cells #[.int .i64 a1_0, .int .i64 a1_1, .string a1_2, .int .i64 a1_3, .slice (some ad576) l1_4.length c1_4] 24 (0,0)) (by (with_reducible repeat (first|refine blk_drewN ?_ _|refine blk_drew ?_|refine blk_alloc ?_ _));exact BK570.out) hb)
             have n2_:=Aside0.mk (below_step (by repeat (first|(with_reducible first|exact HB.out|apply below_alloc|apply pw_below_drewN|apply below_drew1|refine below_set ?_ GE569.out|refine below_set ?_ GE570.out)|exact HB.out)) hb)
             clear BK569
             clear BK570
             clear HB
             have BK569:=n0_
             have BK570:=n1_
             have HB:=n2_
             clear n0_ n1_ n2_
             (try clear hb)
             (try clear hb2)
             (try clear hk)
             (try clear hi)
             refine hK.out _ _ ⟨(blk_cell BK569.out 0).trans rfl,(blk_cell BK569.out 1).trans rfl,(blk_cell BK569.out 2).trans rfl,(blk_cell BK569.out 3).trans rfl,(blk_cell BK569.out 4).trans rfl,(blk_cell BK570.out 0).trans rfl,(blk_cell BK570.out 1).trans rfl,(blk_cell BK570.out 2).trans rfl,(blk_cell BK570.out 3).trans rfl,(blk_cell BK570.out 4).trans rfl,((HB.out.cell (World.block_lt_of_cell? w _ hw575_0)).trans hw575_0),((HB.out.cell (World.block_lt_of_cell? w _ hw575_1)).trans hw575_1),((HB.out.cell (World.block_lt_of_cell? w _ hw575_2)).trans hw575_2),((HB.out.cell (World.block_lt_of_cell? w _ hw575_3)).trans hw575_3),((HB.out.cell (World.block_lt_of_cell? w _ hw575_4)).trans hw575_4),((HB.out.cell (World.block_lt_of_cell? w _ hw576_0)).trans hw576_0),((HB.out.cell (World.block_lt_of_cell? w _ hw576_1)).trans hw576_1),((HB.out.cell (World.block_lt_of_cell? w _ hw576_2)).trans hw576_2),((HB.out.cell (World.block_lt_of_cell? w _ hw576_3)).trans hw576_3),((HB.out.cell (World.block_lt_of_cell? w _ hw576_4)).trans hw576_4)⟩ (fun hHeld => ?_)
             clear hK K
             refine norm_ (a':=?_) ?_ ?_
             rotate_left
             ·show Act.put _ (some 85) _ = _
              simp only [Act.put,List.setIfInBounds_toArray,List.set_cons_zero,List.set_cons_succ,i64_w,i32_w]
              rfl
             refine pure_ (i:=11) (N:=some 5) (v:=?_) (a':=?_) #[true,true,true,true,true,true,true,true,true,true,true,true] rfl rfl (any_of HT_.out (by kernel_rfl)) (fun _ _ _ h => h) (Or.inl ⟨by rfl,?_⟩) ?_ ?_
             rotate_left
             ·intro w'
              go_simp
              with_reducible rfl
             rotate_left
             ·simp only [Act.put,List.setIfInBounds_toArray,List.set_cons_zero,List.set_cons_succ,i64_w,i32_w]
              rfl
             refine done_ (done_of HT_.out (by kernel_rfl)) ?_
             try go_wp2
             go_roundg k4
             case measure => have:=HJ3.out;have:=HJ14.out;have:=HJ20.out;have:=HK4.out;omega
             case rel => exact ⟨(t577),(wrap64 (x6_4 + 1)),(by first|rfl|(simp;done)|(simp [*];done)),(by first|rfl|(simp;done)|(simp [*];done)),H',⟨by have:=HJ3.out;have:=HJ14.out;have:=HJ20.out;have:=HK4.out;omega⟩,⟨by (with_reducible repeat (first|refine blk_drewN ?_ _|refine blk_drew ?_|refine blk_alloc ?_ _));exact BK569.out⟩,⟨by (with_reducible repeat (first|refine blk_drewN ?_ _|refine blk_drew ?_|refine blk_alloc ?_ _));exact BK570.out⟩,⟨by repeat (first|(with_reducible first|exact HB.out|apply below_alloc|apply pw_below_drewN|apply below_drew1|refine below_set ?_ GE569.out|refine below_set ?_ GE570.out)|exact HB.out)⟩⟩
            ·rw [if_neg c30] at H
             exact absurd H (by simp)
           ·rw [if_neg c29] at H
            have c29b0 : (x5_4 == 0) = false:=beq_eq_false_iff_ne.mpr c29
            have c29b1 : (x5_4 != 0) = true:=bne_iff_ne.mpr c29
            obtain rfl:=Option.some.inj H
            have hnb37:=NB569_570.out
            have hnc37:=NB570_569.out
            have hcz38_0 : wr.cell? ⟨gb569,0,none⟩ = some (.int .i64 a0_0):=(blk_cell BK569.out 0).trans rfl
            have hcz38_1 : wr.cell? ⟨gb569,1,none⟩ = some (.int .i64 a0_1):=(blk_cell BK569.out 1).trans rfl
            have hcz38_2 : wr.cell? ⟨gb569,2,none⟩ = some (.string a0_2):=(blk_cell BK569.out 2).trans rfl
            have hcz38_3 : wr.cell? ⟨gb569,3,none⟩ = some (.int .i64 a0_3):=(blk_cell BK569.out 3).trans rfl
            have hcz38_4 : wr.cell? ⟨gb569,4,none⟩ = some (.slice A0_4 l0_4.length c0_4):=(blk_cell BK569.out 4).trans rfl
            have hfz38_0:=blk_frozen BK569.out 0
            have hfz38_1:=blk_frozen BK569.out 1
            have hfz38_2:=blk_frozen BK569.out 2
            have hfz38_3:=blk_frozen BK569.out 3
            have hfz38_4:=blk_frozen BK569.out 4
            have hcz39_0 : wr.cell? ⟨gb570,0,none⟩ = some (.int .i64 a1_0):=(blk_cell BK570.out 0).trans rfl
            have hcz39_1 : wr.cell? ⟨gb570,1,none⟩ = some (.int .i64 a1_1):=(blk_cell BK570.out 1).trans rfl
            have hcz39_2 : wr.cell? ⟨gb570,2,none⟩ = some (.string a1_2):=(blk_cell BK570.out 2).trans rfl
            have hcz39_3 : wr.cell? ⟨gb570,3,none⟩ = some (.int .i64 a1_3):=(blk_cell BK570.out 3).trans rfl
            have hcz39_4 : wr.cell? ⟨gb570,4,none⟩ = some (.slice A1_4 l1_4.length c1_4):=(blk_cell BK570.out 4).trans rfl
            have hfz39_0:=blk_frozen BK570.out 0
            have hfz39_1:=blk_frozen BK570.out 1
            have hfz39_2:=blk_frozen BK570.out 2
            have hfz39_3:=blk_frozen BK570.out 3
            have hfz39_4:=blk_frozen BK570.out 4
            go_wp2
            go_ret
            exact ⟨by first|rfl|(simp [errW_none,errW_some] <;> rfl)|(simp [*,errW_none,errW_some] <;> rfl),by repeat (first|(with_reducible first|exact HB.out|apply below_alloc|apply pw_below_drewN|apply below_drew1|refine below_set ?_ GE569.out|refine below_set ?_ GE570.out)|exact HB.out)⟩
          ·rw [if_neg c28] at H
           have c28b0 : decide (x6_4 < (l1_4.length : Int)) = false:=decide_eq_false c28
           clear c28
           by_cases c40 : x5_4 = 0
           ·rw [if_pos c40] at H
            have c40b0 : (x5_4 == 0) = true:=beq_iff_eq.mpr c40
            have c40b1 : (x5_4 != 0) = false:=bne_eq_false_iff_eq.mpr c40
            clear c40
            replace H:=Option.bind_eq_some_iff.mp H
            obtain ⟨t578,A410,H⟩:=H
            replace H : (some t578) = some r:=H
            have A41:=Aside0.mk A410
            clear A410
            obtain rfl:=Option.some.inj H
            have hnb42:=NB569_570.out
            have hnc42:=NB570_569.out
            have hcz43_0 : wr.cell? ⟨gb569,0,none⟩ = some (.int .i64 a0_0):=(blk_cell BK569.out 0).trans rfl
            have hcz43_1 : wr.cell? ⟨gb569,1,none⟩ = some (.int .i64 a0_1):=(blk_cell BK569.out 1).trans rfl
            have hcz43_2 : wr.cell? ⟨gb569,2,none⟩ = some (.string a0_2):=(blk_cell BK569.out 2).trans rfl
            have hcz43_3 : wr.cell? ⟨gb569,3,none⟩ = some (.int .i64 a0_3):=(blk_cell BK569.out 3).trans rfl
            have hcz43_4 : wr.cell? ⟨gb569,4,none⟩ = some (.slice A0_4 l0_4.length c0_4):=(blk_cell BK569.out 4).trans rfl
            have hfz43_0:=blk_frozen BK569.out 0
            have hfz43_1:=blk_frozen BK569.out 1
            have hfz43_2:=blk_frozen BK569.out 2
            have hfz43_3:=blk_frozen BK569.out 3
            have hfz43_4:=blk_frozen BK569.out 4
            have hcz44_0 : wr.cell? ⟨gb570,0,none⟩ = some (.int .i64 a1_0):=(blk_cell BK570.out 0).trans rfl
            have hcz44_1 : wr.cell? ⟨gb570,1,none⟩ = some (.int .i64 a1_1):=(blk_cell BK570.out 1).trans rfl
            have hcz44_2 : wr.cell? ⟨gb570,2,none⟩ = some (.string a1_2):=(blk_cell BK570.out 2).trans rfl
            have hcz44_3 : wr.cell? ⟨gb570,3,none⟩ = some (.int .i64 a1_3):=(blk_cell BK570.out 3).trans rfl
            have hcz44_4 : wr.cell? ⟨gb570,4,none⟩ = some (.slice A1_4 l1_4.length c1_4):=(blk_cell BK570.out 4).trans rfl
            have hfz44_0:=blk_frozen BK570.out 0
            have hfz44_1:=blk_frozen BK570.out 1
            have hfz44_2:=blk_frozen BK570.out 2
            have hfz44_3:=blk_frozen BK570.out 3
            have hfz44_4:=blk_frozen BK570.out 4
            go_wp2_with (first|((with_reducible refine gate_callee (f:=48) rfl ?_);refine goesL_ (some 102) rfl rfl Try.func48 (by kernel_rfl) rfl #[.bool (decide ((l0_4.length : Int) < (l1_4.length : Int))), .bool (decide ((l0_4.length : Int) > (l1_4.length : Int)))] rfl (by (try simp only [List.map_toArray,List.map_cons,List.map_nil]);first|done|rfl|(simp only [List.length_drop,List.length_take];rfl)|(go_simp;done)|(go_simp;simp;done)) ?_;(with_reducible refine (windlassref3_order.calls (decide ((l0_4.length : Int) < (l1_4.length : Int))) (decide ((l0_4.length : Int) > (l1_4.length : Int))) t578 _ A41.out).mono ?_);rintro e w' ⟨rfl,⟨nd,rfl⟩⟩;refine ⟨_,rfl,?_⟩))
            go_ret
            exact ⟨by first|rfl|(simp [errW_none,errW_some] <;> rfl)|(simp [*,errW_none,errW_some] <;> rfl),by repeat (first|(with_reducible first|exact HB.out|apply below_alloc|apply pw_below_drewN|apply below_drew1|refine below_set ?_ GE569.out|refine below_set ?_ GE570.out)|exact HB.out)⟩
           ·rw [if_neg c40] at H
            have c40b0 : (x5_4 == 0) = false:=beq_eq_false_iff_ne.mpr c40
            have c40b1 : (x5_4 != 0) = true:=bne_iff_ne.mpr c40
            obtain rfl:=Option.some.inj H
            have hnb45:=NB569_570.out
            have hnc45:=NB570_569.out
            have hcz46_0 : wr.cell? ⟨gb569,0,none⟩ = some (.int .i64 a0_0):=(blk_cell BK569.out 0).trans rfl
            have hcz46_1 : wr.cell? ⟨gb569,1,none⟩ = some (.int .i64 a0_1):=(blk_cell BK569.out 1).trans rfl
            have hcz46_2 : wr.cell? ⟨gb569,2,none⟩ = some (.string a0_2):=(blk_cell BK569.out 2).trans rfl
            have hcz46_3 : wr.cell? ⟨gb569,3,none⟩ = some (.int .i64 a0_3):=(blk_cell BK569.out 3).trans rfl
            have hcz46_4 : wr.cell? ⟨gb569,4,none⟩ = some (.slice A0_4 l0_4.length c0_4):=(blk_cell BK569.out 4).trans rfl
            have hfz46_0:=blk_frozen BK569.out 0
            have hfz46_1:=blk_frozen BK569.out 1
            have hfz46_2:=blk_frozen BK569.out 2
            have hfz46_3:=blk_frozen BK569.out 3
            have hfz46_4:=blk_frozen BK569.out 4
            have hcz47_0 : wr.cell? ⟨gb570,0,none⟩ = some (.int .i64 a1_0):=(blk_cell BK570.out 0).trans rfl
            have hcz47_1 : wr.cell? ⟨gb570,1,none⟩ = some (.int .i64 a1_1):=(blk_cell BK570.out 1).trans rfl
            have hcz47_2 : wr.cell? ⟨gb570,2,none⟩ = some (.string a1_2):=(blk_cell BK570.out 2).trans rfl
            have hcz47_3 : wr.cell? ⟨gb570,3,none⟩ = some (.int .i64 a1_3):=(blk_cell BK570.out 3).trans rfl
            have hcz47_4 : wr.cell? ⟨gb570,4,none⟩ = some (.slice A1_4 l1_4.length c1_4):=(blk_cell BK570.out 4).trans rfl
            have hfz47_0:=blk_frozen BK570.out 0
            have hfz47_1:=blk_frozen BK570.out 1
            have hfz47_2:=blk_frozen BK570.out 2
            have hfz47_3:=blk_frozen BK570.out 3
            have hfz47_4:=blk_frozen BK570.out 4
            go_wp2
            go_ret
            exact ⟨by first|rfl|(simp [errW_none,errW_some] <;> rfl)|(simp [*,errW_none,errW_some] <;> rfl),by repeat (first|(with_reducible first|exact HB.out|apply below_alloc|apply pw_below_drewN|apply below_drew1|refine below_set ?_ GE569.out|refine below_set ?_ GE570.out)|exact HB.out)⟩
         ·rw [if_neg c27] at H
          have c27b0 : decide (x6_4 < (l0_4.length : Int)) = false:=decide_eq_false c27
          clear c27
          by_cases c48 : x5_4 = 0
          ·rw [if_pos c48] at H
           have c48b0 : (x5_4 == 0) = true:=beq_iff_eq.mpr c48
           have c48b1 : (x5_4 != 0) = false:=bne_eq_false_iff_eq.mpr c48
           clear c48
           replace H:=Option.bind_eq_some_iff.mp H
           obtain ⟨t579,A490,H⟩:=H
           replace H : (some t579) = some r:=H
           have A49:=Aside0.mk A490
           clear A490
           obtain rfl:=Option.some.inj H
           have hnb50:=NB569_570.out
           have hnc50:=NB570_569.out
           have hcz51_0 : wr.cell? ⟨gb569,0,none⟩ = some (.int .i64 a0_0):=(blk_cell BK569.out 0).trans rfl
           have hcz51_1 : wr.cell? ⟨gb569,1,none⟩ = some (.int .i64 a0_1):=(blk_cell BK569.out 1).trans rfl
           have hcz51_2 : wr.cell? ⟨gb569,2,none⟩ = some (.string a0_2):=(blk_cell BK569.out 2).trans rfl
           have hcz51_3 : wr.cell? ⟨gb569,3,none⟩ = some (.int .i64 a0_3):=(blk_cell BK569.out 3).trans rfl
           have hcz51_4 : wr.cell? ⟨gb569,4,none⟩ = some (.slice A0_4 l0_4.length c0_4):=(blk_cell BK569.out 4).trans rfl
           have hfz51_0:=blk_frozen BK569.out 0
           have hfz51_1:=blk_frozen BK569.out 1
           have hfz51_2:=blk_frozen BK569.out 2
           have hfz51_3:=blk_frozen BK569.out 3
           have hfz51_4:=blk_frozen BK569.out 4
           have hcz52_0 : wr.cell? ⟨gb570,0,none⟩ = some (.int .i64 a1_0):=(blk_cell BK570.out 0).trans rfl
           have hcz52_1 : wr.cell? ⟨gb570,1,none⟩ = some (.int .i64 a1_1):=(blk_cell BK570.out 1).trans rfl
           have hcz52_2 : wr.cell? ⟨gb570,2,none⟩ = some (.string a1_2):=(blk_cell BK570.out 2).trans rfl
           have hcz52_3 : wr.cell? ⟨gb570,3,none⟩ = some (.int .i64 a1_3):=(blk_cell BK570.out 3).trans rfl
           have hcz52_4 : wr.cell? ⟨gb570,4,none⟩ = some (.slice A1_4 l1_4.length c1_4):=(blk_cell BK570.out 4).trans rfl
           have hfz52_0:=blk_frozen BK570.out 0
           have hfz52_1:=blk_frozen BK570.out 1
           have hfz52_2:=blk_frozen BK570.out 2
           have hfz52_3:=blk_frozen BK570.out 3
           have hfz52_4:=blk_frozen BK570.out 4
           go_wp2_with (first|((with_reducible refine gate_callee (f:=48) rfl ?_);refine goesL_ (some 102) rfl rfl Try.func48 (by kernel_rfl) rfl #[.bool (decide ((l0_4.length : Int) < (l1_4.length : Int))), .bool (decide ((l0_4.length : Int) > (l1_4.length : Int)))] rfl (by (try simp only [List.map_toArray,List.map_cons,List.map_nil]);first|done|rfl|(simp only [List.length_drop,List.length_take];rfl)|(go_simp;done)|(go_simp;simp;done)) ?_;(with_reducible refine (windlassref3_order.calls (decide ((l0_4.length : Int) < (l1_4.length : Int))) (decide ((l0_4.length : Int) > (l1_4.length : Int))) t579 _ A49.out).mono ?_);rintro e w' ⟨rfl,⟨nd,rfl⟩⟩;refine ⟨_,rfl,?_⟩))
           go_ret
           exact ⟨by first|rfl|(simp [errW_none,errW_some] <;> rfl)|(simp [*,errW_none,errW_some] <;> rfl),by repeat (first|(with_reducible first|exact HB.out|apply below_alloc|apply pw_below_drewN|apply below_drew1|refine below_set ?_ GE569.out|refine below_set ?_ GE570.out)|exact HB.out)⟩
          ·rw [if_neg c48] at H
           have c48b0 : (x5_4 == 0) = false:=beq_eq_false_iff_ne.mpr c48
           have c48b1 : (x5_4 != 0) = true:=bne_iff_ne.mpr c48
           obtain rfl:=Option.some.inj H
           have hnb53:=NB569_570.out
           have hnc53:=NB570_569.out
           have hcz54_0 : wr.cell? ⟨gb569,0,none⟩ = some (.int .i64 a0_0):=(blk_cell BK569.out 0).trans rfl
           have hcz54_1 : wr.cell? ⟨gb569,1,none⟩ = some (.int .i64 a0_1):=(blk_cell BK569.out 1).trans rfl
           have hcz54_2 : wr.cell? ⟨gb569,2,none⟩ = some (.string a0_2):=(blk_cell BK569.out 2).trans rfl
           have hcz54_3 : wr.cell? ⟨gb569,3,none⟩ = some (.int .i64 a0_3):=(blk_cell BK569.out 3).trans rfl
           have hcz54_4 : wr.cell? ⟨gb569,4,none⟩ = some (.slice A0_4 l0_4.length c0_4):=(blk_cell BK569.out 4).trans rfl
           have hfz54_0:=blk_frozen BK569.out 0
           have hfz54_1:=blk_frozen BK569.out 1
           have hfz54_2:=blk_frozen BK569.out 2
           have hfz54_3:=blk_frozen BK569.out 3
           have hfz54_4:=blk_frozen BK569.out 4
           go_wp2
           go_ret
           exact ⟨by first|rfl|(simp [errW_none,errW_some] <;> rfl)|(simp [*,errW_none,errW_some] <;> rfl),by repeat (first|(with_reducible first|exact HB.out|apply below_alloc|apply pw_below_drewN|apply below_drew1|refine below_set ?_ GE569.out|refine below_set ?_ GE570.out)|exact HB.out)⟩

end Go.Proofs.Ythbnblmnamckmaa.PAll
-- Laid by a program of this seat (wip/xprint.py over the kit's print).
namespace Go.Proofs.Ythbnblmnamckmaa.PAll
open Go.RowKit Go.Proofs.YthbnblmnamckmaaW.PrintWords Go.Proofs.YthbnblmnamckmaaW.PrintLast Go.Proofs.YthbnblmnamckmaaW.PrintMore
attribute [local go_sem] max2_int min2_int max_two min_two max_three min_three max_four min_four   -- for this text's walks alone
set_option linter.unusedVariables false
set_option linter.unusedSimpArgs false

/-! ### windlassref3_Same: function 31 -/
def windlassref3_Same.f (k : Nat) (a0_0 : Int) (a0_1 : Int) (a0_2 : ByteArray) (a0_3 : Int) (l0_4 : List (S24)) (a1_0 : Int) (a1_1 : Int) (a1_2 : ByteArray) (a1_3 : Int) (l1_4 : List (S24)) : Option (Bool) := (windlassref3_Compare.f k a0_0 a0_1 a0_2 a0_3 l0_4 a1_0 a1_1 a1_2 a1_3 l1_4).bind fun t582 => (some (t582 == 0))
theorem windlassref3_Same.mono : ∀ a0 a1 a2 a3 a4 a5 a6 a7 a8 a9 k, LeO (windlassref3_Same.f k a0 a1 a2 a3 a4 a5 a6 a7 a8 a9) (windlassref3_Same.f (k + 1) a0 a1 a2 a3 a4 a5 a6 a7 a8 a9) := by
  intro a0 a1 a2 a3 a4 a5 a6 a7 a8 a9 k
  unfold windlassref3_Same.f
  repeat' first
      | (with_reducible exact windlassref3_Compare.mono _ _ _ _ _ _ _ _ _ _ _)
      | (with_reducible exact LeO.refl _)
      | (with_reducible exact LeO.none _)
      | (with_reducible refine LeO.ite ?_ ?_)
      | (with_reducible refine LeO.bind ?_ (fun _ => ?_))
      | exact windlassref3_Compare.mono _ _ _ _ _ _ _ _ _ _ _
      | exact LeO.none _
      | refine LeO.ite ?_ ?_
      | refine LeO.bind ?_ (fun _ => ?_)
set_option maxHeartbeats 8000000 in
set_option maxRecDepth 100000 in
theorem windlassref3_Same.calls (k : Nat) (a0_0 : Int) (a0_1 : Int) (a0_2 : ByteArray) (a0_3 : Int) (A0_4 : Option Addr) (c0_4 : Nat) (l0_4 : List (S24)) (a1_0 : Int) (a1_1 : Int) (a1_2 : ByteArray) (a1_3 : Int) (A1_4 : Option Addr) (c1_4 : Nat) (l1_4 : List (S24)) (r : Bool) (w : World) (hr0_4 : Kd.C k24 w A0_4 l0_4.length l0_4) (hc0_4 : l0_4.length ≤ c0_4) (hr1_4 : Kd.C k24 w A1_4 l1_4.length l1_4) (hc1_4 : l1_4.length ≤ c1_4) (h : windlassref3_Same.f k a0_0 a0_1 a0_2 a0_3 l0_4 a1_0 a1_1 a1_2 a1_3 l1_4 = some r) :
    Calls Try.prog 31 #[.agg #[.int .i64 a0_0, .int .i64 a0_1, .string a0_2, .int .i64 a0_3, .slice A0_4 l0_4.length c0_4], .agg #[.int .i64 a1_0, .int .i64 a1_1, .string a1_2, .int .i64 a1_3, .slice A1_4 l1_4.length c1_4]] w fun e w' => e = .returned (.bool r) ∧ Below w.heap.size w w' := by
  have hu24 := Try.underlying24
  have HR0_4 := Aside0.mk hr0_4
  have HC0_4 := Aside0.mk hc0_4
  clear hr0_4 hc0_4
  have HR1_4 := Aside0.mk hr1_4
  have HC1_4 := Aside0.mk hc1_4
  clear hr1_4 hc1_4
  have HB := Aside0.mk (Below.refl w.heap.size w)
  have H : ((windlassref3_Compare.f k a0_0 a0_1 a0_2 a0_3 l0_4 a1_0 a1_1 a1_2 a1_3 l1_4).bind fun t582 => (some (t582 == 0))) = some r := h
  clear h
  replace H := Option.bind_eq_some_iff.mp H
  obtain ⟨t582, A30, H⟩ := H
  replace H : (some (t582 == 0)) = some r := H
  have A3 := Aside0.mk A30
  clear A30
  obtain rfl := Option.some.inj H
  go_enter Try.func31, Try.ntmps31
  go_wp2_with (first | ((with_reducible refine gate_dst (N := 2) rfl ?_); refine box_event ?hg (N := 2) ?hd (cs := #[.int .i64 a0_0, .int .i64 a0_1, .string a0_2, .int .i64 a0_3, .slice A0_4 l0_4.length c0_4]) (t := 24) ?hr ?_; (case hd => rfl); (case hg => rfl); (case hr => first | (go_simp; done) | (go_simp; rfl)); intro gb580 hg w4 hbox hb; have n0_ := Aside0.mk (below_step (by repeat (first | (with_reducible first | exact HB.out | apply below_alloc | apply pw_below_drewN | apply below_drew1) | exact HB.out)) hb); have n1_ := Aside0.mk (hbox); have n2_ := Aside0.mk ((by rw [hg]; exact (below_size (by repeat (first | (with_reducible first | exact HB.out | apply below_alloc | apply pw_below_drewN | apply below_drew1) | exact HB.out))) : w.heap.size ≤ gb580)); have n3_ := Aside0.mk ((by rw [hg]; exact (below_size (by repeat (first | (with_reducible first | exact HB.out | apply below_alloc | apply pw_below_drewN | apply below_drew1) | exact HB.out))) : w.heap.size ≤ gb580)); clear HB; have HB := n0_; have BK580 := n1_; have GW580 := n2_; have GE580 := n3_; clear n0_ n1_ n2_ n3_; clear hb hbox hg) | ((with_reducible refine gate_dst (N := 3) rfl ?_); refine box_event ?hg (N := 3) ?hd (cs := #[.int .i64 a1_0, .int .i64 a1_1, .string a1_2, .int .i64 a1_3, .slice A1_4 l1_4.length c1_4]) (t := 24) ?hr ?_; (case hd => rfl); (case hg => rfl); (case hr => first | (go_simp; done) | (go_simp; rfl)); intro gb581 hg w5 hbox hb; have n0_ := Aside0.mk (blk_below (g := gb580) (o := .cells #[.int .i64 a0_0, .int .i64 a0_1, .string a0_2, .int .i64 a0_3, .slice A0_4 l0_4.length c0_4] 24 (0, 0)) (by (with_reducible repeat (first | refine blk_drewN ?_ _ | refine blk_drew ?_ | refine blk_alloc ?_ _)); exact BK580.out) hb); have n1_ := Aside0.mk (below_step (by repeat (first | (with_reducible first | exact HB.out | apply below_alloc | apply pw_below_drewN | apply below_drew1 | refine below_set ?_ GE580.out) | exact HB.out)) hb); have n2_ := Aside0.mk (hbox); have n3_ := Aside0.mk ((by rw [hg]; exact (below_size (by repeat (first | (with_reducible first | exact HB.out | apply below_alloc | apply pw_below_drewN | apply below_drew1 | refine below_set ?_ GE580.out) | exact HB.out))) : w.heap.size ≤ gb581)); have n4_ := Aside0.mk ((by rw [hg]; exact (below_size (by repeat (first | (with_reducible first | exact HB.out | apply below_alloc | apply pw_below_drewN | apply below_drew1 | refine below_set ?_ GE580.out) | exact HB.out))) : w.heap.size ≤ gb581)); have n5_ := Aside0.mk ((by rw [hg]; exact Nat.ne_of_lt (blk_lt (g := gb580) (o := .cells #[.int .i64 a0_0, .int .i64 a0_1, .string a0_2, .int .i64 a0_3, .slice A0_4 l0_4.length c0_4] 24 (0, 0)) (by (with_reducible repeat (first | refine blk_drewN ?_ _ | refine blk_drew ?_ | refine blk_alloc ?_ _)); exact BK580.out)) : gb580 ≠ gb581)); have n6_ := Aside0.mk ((by rw [hg]; exact Nat.ne_of_gt (blk_lt (g := gb580) (o := .cells #[.int .i64 a0_0, .int .i64 a0_1, .string a0_2, .int .i64 a0_3, .slice A0_4 l0_4.length c0_4] 24 (0, 0)) (by (with_reducible repeat (first | refine blk_drewN ?_ _ | refine blk_drew ?_ | refine blk_alloc ?_ _)); exact BK580.out)) : gb581 ≠ gb580)); clear BK580; clear HB; have BK580 := n0_; have HB := n1_; have BK581 := n2_; have GW581 := n3_; have GE581 := n4_; have NB580_581 := n5_; have NB581_580 := n6_; clear n0_ n1_ n2_ n3_ n4_ n5_ n6_; clear hb hbox hg; have hnb6 := NB580_581.out; have hnc6 := NB581_580.out; have hcz7_0 : w5.cell? ⟨gb580, 0, none⟩ = some (.int .i64 a0_0) := (blk_cell BK580.out 0).trans rfl; have hcz7_1 : w5.cell? ⟨gb580, 1, none⟩ = some (.int .i64 a0_1) := (blk_cell BK580.out 1).trans rfl; have hcz7_2 : w5.cell? ⟨gb580, 2, none⟩ = some (.string a0_2) := (blk_cell BK580.out 2).trans rfl; have hcz7_3 : w5.cell? ⟨gb580, 3, none⟩ = some (.int .i64 a0_3) := (blk_cell BK580.out 3).trans rfl; have hcz7_4 : w5.cell? ⟨gb580, 4, none⟩ = some (.slice A0_4 l0_4.length c0_4) := (blk_cell BK580.out 4).trans rfl; have hfz7_0 := blk_frozen BK580.out 0; have hfz7_1 := blk_frozen BK580.out 1; have hfz7_2 := blk_frozen BK580.out 2; have hfz7_3 := blk_frozen BK580.out 3; have hfz7_4 := blk_frozen BK580.out 4; have hcz8_0 : w5.cell? ⟨gb581, 0, none⟩ = some (.int .i64 a1_0) := (blk_cell BK581.out 0).trans rfl; have hcz8_1 : w5.cell? ⟨gb581, 1, none⟩ = some (.int .i64 a1_1) := (blk_cell BK581.out 1).trans rfl; have hcz8_2 : w5.cell? ⟨gb581, 2, none⟩ = some (.string a1_2) := (blk_cell BK581.out 2).trans rfl; have hcz8_3 : w5.cell? ⟨gb581, 3, none⟩ = some (.int .i64 a1_3) := (blk_cell BK581.out 3).trans rfl; have hcz8_4 : w5.cell? ⟨gb581, 4, none⟩ = some (.slice A1_4 l1_4.length c1_4) := (blk_cell BK581.out 4).trans rfl; have hfz8_0 := blk_frozen BK581.out 0; have hfz8_1 := blk_frozen BK581.out 1; have hfz8_2 := blk_frozen BK581.out 2; have hfz8_3 := blk_frozen BK581.out 3; have hfz8_4 := blk_frozen BK581.out 4) | ((with_reducible refine gate_callee (f := 42) rfl ?_); refine goesL_ (some 7) rfl rfl Try.func42 (by kernel_rfl) rfl #[.agg #[.int .i64 a0_0, .int .i64 a0_1, .string a0_2, .int .i64 a0_3, .slice A0_4 l0_4.length c0_4], .agg #[.int .i64 a1_0, .int .i64 a1_1, .string a1_2, .int .i64 a1_3, .slice A1_4 l1_4.length c1_4]] rfl (by (try simp only [List.map_toArray, List.map_cons, List.map_nil]); first | done | rfl | (simp only [List.length_drop, List.length_take]; rfl) | (go_simp; done) | (go_simp; simp; done)) ?_; (with_reducible refine (windlassref3_Compare.calls k a0_0 a0_1 a0_2 a0_3 _ _ l0_4 a1_0 a1_1 a1_2 a1_3 _ _ l1_4 t582 _ ?side1 ?side2 ?side3 ?side4 A3.out).mono ?_); (case side1 => repeat (first | exact (Kd.C_below HR0_4.out HB.out) | (with_reducible refine Kd.C_alloc ?_ _) | (with_reducible refine Kd.C_drewN ?_ _) | (with_reducible refine Kd.C_drew ?_))); (case side2 => exact HC0_4.out); (case side3 => repeat (first | exact (Kd.C_below HR1_4.out HB.out) | (with_reducible refine Kd.C_alloc ?_ _) | (with_reducible refine Kd.C_drewN ?_ _) | (with_reducible refine Kd.C_drew ?_))); (case side4 => exact HC1_4.out); rintro e w9 ⟨rfl, hb⟩; refine ⟨_, rfl, ?_⟩; have n0_ := Aside0.mk (blk_below (g := gb580) (o := .cells #[.int .i64 a0_0, .int .i64 a0_1, .string a0_2, .int .i64 a0_3, .slice A0_4 l0_4.length c0_4] 24 (0, 0)) (by (with_reducible repeat (first | refine blk_drewN ?_ _ | refine blk_drew ?_ | refine blk_alloc ?_ _)); exact BK580.out) hb); have n1_ := Aside0.mk (blk_below (g := gb581) (o := .cells #[.int .i64 a1_0, .int .i64 a1_1, .string a1_2, .int .i64 a1_3, .slice A1_4 l1_4.length c1_4] 24 (0, 0)) (by (with_reducible repeat (first | refine blk_drewN ?_ _ | refine blk_drew ?_ | refine blk_alloc ?_ _)); exact BK581.out) hb); have n2_ := Aside0.mk (below_step (by repeat (first | (with_reducible first | exact HB.out | apply below_alloc | apply pw_below_drewN | apply below_drew1 | refine below_set ?_ GE580.out | refine below_set ?_ GE581.out) | exact HB.out)) hb); clear BK580; clear BK581; clear HB; have BK580 := n0_; have BK581 := n1_; have HB := n2_; clear n0_ n1_ n2_; (try clear hb); (try clear hb2); (try clear hk); (try clear hi)))
  go_ret
  exact ⟨by first | rfl | (simp [errW_none, errW_some] <;> rfl) | (simp [*, errW_none, errW_some] <;> rfl), by repeat (first | (with_reducible first | exact HB.out | apply below_alloc | apply pw_below_drewN | apply below_drew1 | refine below_set ?_ GE580.out | refine below_set ?_ GE581.out) | exact HB.out)⟩

end Go.Proofs.Ythbnblmnamckmaa.PAll
