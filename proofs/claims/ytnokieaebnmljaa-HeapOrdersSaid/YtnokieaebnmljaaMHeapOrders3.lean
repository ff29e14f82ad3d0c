-- Laid by a program of this seat (wip/merge.py): HKnown.
import Derived.Test.YtnokieaebnmljaaMHeapOrders0
import Derived.Test.YtnokieaebnmljaaMHeapOrders2
import Derived.Test.YtnokieaebnmljaaMHeapOrders1
-- Laid by a program of this seat (wip/xprint.py over the kit's print).
namespace Go.Proofs.Ytnokieaebnmljaa.PAll
open Go.RowKit Go.Proofs.YtnokieaebnmljaaW.PrintWords Go.Proofs.YtnokieaebnmljaaW.PrintLast Go.Proofs.YtnokieaebnmljaaW.PrintMore
attribute [local go_sem] max2_int min2_int max_two min_two max_three min_three max_four min_four   -- for this text's walks alone
set_option linter.unusedVariables false
set_option linter.unusedSimpArgs false

/-! ### windlasslaw4_known: function 9 -/
def windlasslaw4_known.j0 : Nat → Bool → Option (Bool)
 | 0,_ => none
 | k + 1,x0 => some x0
noncomputable def windlasslaw4_known.f (k : Nat)  : Option (Bool):=if 1 ≤ 11728124029610 then ((windlasslaw4_num.f 2).bind fun bt119 => ((windlasslaw4_num.f 5).bind fun bt126 => ((heap_Put.f k (List.replicate 1 []) 0 bt119.1 bt119.2.1 bt119.2.2.1 bt119.2.2.2.1 bt119.2.2.2.2 bt126.1 bt126.2.1 bt126.2.2.1 bt126.2.2.2.1 bt126.2.2.2.2).bind fun bt133 => ((windlasslaw4_num.f 1).bind fun bt137 => ((windlasslaw4_num.f 6).bind fun bt144 => ((heap_Put.f k bt133.1 0 bt137.1 bt137.2.1 bt137.2.2.1 bt137.2.2.2.1 bt137.2.2.2.2 bt144.1 bt144.2.1 bt144.2.2.1 bt144.2.2.2.1 bt144.2.2.2.2).bind fun bt151 => ((heap_First.f bt151.1 0).bind fun bt156 => ((windlasslaw4_num.f 1).bind fun bt165 => ((heap_Next.f k bt151.1 0 bt165.1 bt165.2.1 bt165.2.2.1 bt165.2.2.2.1 bt165.2.2.2.2).bind fun bt172 => (if bt133.2 = 0 then (if bt151.2 = 0 then (if bt156.2.2.2.2.2 = true then (if bt172.2.2.2.2.2 = true then (if bt156.2.1 = 1 then (if bt172.2.1 = 2 then (if 0 < (bt133.1.length : Int) then (if ((rd_L5 bt133.1 0).length : Int) = 1 then (if 0 < (bt151.1.length : Int) then (windlasslaw4_known.j0 k (((rd_L5 bt151.1 0).length : Int) == 2)) else (none)) else (windlasslaw4_known.j0 k false)) else (none)) else (windlasslaw4_known.j0 k false)) else (windlasslaw4_known.j0 k false)) else (windlasslaw4_known.j0 k false)) else (windlasslaw4_known.j0 k false)) else (windlasslaw4_known.j0 k false)) else (windlasslaw4_known.j0 k false))))))))))) else (none)
theorem windlasslaw4_known.mono_l : ∀ k,(∀ y0,LeO (windlasslaw4_known.j0 k y0) (windlasslaw4_known.j0 (k + 1) y0))
 | 0 => fun _ r h => by simp [windlasslaw4_known.j0] at h
 | k + 1 => by
  have ih0:=windlasslaw4_known.mono_l k
  ·intro y0
   unfold windlasslaw4_known.j0
   repeat' first
   | (with_reducible exact ih0 _)
   | (with_reducible exact heap_Next.mono _ _ _ _ _ _ _ _)
   | (with_reducible exact heap_Put.mono _ _ _ _ _ _ _ _ _ _ _ _ _)
   | (with_reducible exact LeO.refl _)
   | (with_reducible exact LeO.none _)
   | (with_reducible refine LeO.ite ?_ ?_)
   | (with_reducible refine LeO.bind ?_ (fun _ => ?_))
   | exact ih0 _
   | exact heap_Next.mono _ _ _ _ _ _ _ _
   | exact heap_Put.mono _ _ _ _ _ _ _ _ _ _ _ _ _
   | exact LeO.none _
   | refine LeO.ite ?_ ?_
   | refine LeO.bind ?_ (fun _ => ?_)
theorem windlasslaw4_known.mono : ∀ k,LeO (windlasslaw4_known.f k ) (windlasslaw4_known.f (k + 1) ):=by
 intro  k
 have ih0:=windlasslaw4_known.mono_l k
 unfold windlasslaw4_known.f
 repeat' first
   | (with_reducible exact ih0 _)
   | (with_reducible exact heap_Next.mono _ _ _ _ _ _ _ _)
   | (with_reducible exact heap_Put.mono _ _ _ _ _ _ _ _ _ _ _ _ _)
   | (with_reducible exact LeO.refl _)
   | (with_reducible exact LeO.none _)
   | (with_reducible refine LeO.ite ?_ ?_)
   | (with_reducible refine LeO.bind ?_ (fun _ => ?_))
   | exact ih0 _
   | exact heap_Next.mono _ _ _ _ _ _ _ _
   | exact heap_Put.mono _ _ _ _ _ _ _ _ _ _ _ _ _
   | exact LeO.none _
   | refine LeO.ite ?_ ?_
   | refine LeO.bind ?_ (fun _ => ?_)
def windlasslaw4_known.T2 : Bool × List (List Nat × List Nat):=(true,[([],[]),([],[]),([1],[]),([0,1,2,2],[0,1,2]),([3],[3]),([4],[4]),([4],[4]),([5,3,0,1,2,3,4,5],[5]),([6,7,0,1,2,3,4,5,6,7],[6])])
def windlasslaw4_known.B2 : List Nat:=[0,0,2,7,15,31,31,63,255]
theorem windlasslaw4_known.tab2 : rtab .any (opsOf Try.f9 2) = windlasslaw4_known.T2:=by kernel_rfl
theorem windlasslaw4_known.bits2 : waitsOk windlasslaw4_known.T2.2 windlasslaw4_known.B2 = true:=by kernel_rfl
def windlasslaw4_known.T3 : Bool × List (List Nat × List Nat):=(true,[([],[]),([],[]),([1],[]),([0,1,2,2],[0,1,2]),([3],[3]),([4],[4]),([4],[4]),([],[]),([7,5,3,0,1,2,3,4,5,7],[5,7]),([6,8,0,1,2,3,4,5,6,7,8],[6])])
def windlasslaw4_known.B3 : List Nat:=[0,0,2,7,15,31,31,0,191,511]
theorem windlasslaw4_known.tab3 : rtab .any (opsOf Try.f9 3) = windlasslaw4_known.T3:=by kernel_rfl
theorem windlasslaw4_known.bits3 : waitsOk windlasslaw4_known.T3.2 windlasslaw4_known.B3 = true:=by kernel_rfl
def windlasslaw4_known.T5 : Bool × List (List Nat × List Nat):=(true,[([],[]),([],[]),([0,1,1],[0,1]),([2],[2]),([3],[3]),([3],[3]),([],[]),([6,4,2,0,1,2,3,4,6],[4,6]),([5,7,0,1,2,3,4,5,6,7],[5])])
def windlasslaw4_known.B5 : List Nat:=[0,0,3,7,15,15,0,95,255]
theorem windlasslaw4_known.tab5 : rtab .any (opsOf Try.f9 5) = windlasslaw4_known.T5:=by kernel_rfl
theorem windlasslaw4_known.bits5 : waitsOk windlasslaw4_known.T5.2 windlasslaw4_known.B5 = true:=by kernel_rfl
abbrev bN:=@blk_drewN
abbrev bD:=@blk_drew
abbrev bA:=@blk_alloc
abbrev nA:=@Kd.N_alloc
abbrev nN:=@Kd.N_drewN
abbrev nD:=@Kd.N_drew
set_option maxHeartbeats 8000000 in
set_option maxRecDepth 100000 in
theorem windlasslaw4_known.calls (k : Nat)  (r : Bool) (w : World) (h : windlasslaw4_known.f k  = some r) :
  Calls Try.prog 9 #[] w fun e w' => e = .returned (.bool r) ∧ Below w.heap.size w w':=by
 have hu27:=Try.underlying27
 have hu35:=Try.underlying35
 have HB:=Aside0.mk (Below.refl w.heap.size w)
 have H : (if 1 ≤ 11728124029610 then ((windlasslaw4_num.f 2).bind fun bt119 => ((windlasslaw4_num.f 5).bind fun bt126 => ((heap_Put.f k (List.replicate 1 []) 0 bt119.1 bt119.2.1 bt119.2.2.1 bt119.2.2.2.1 bt119.2.2.2.2 bt126.1 bt126.2.1 bt126.2.2.1 bt126.2.2.2.1 bt126.2.2.2.2).bind fun bt133 => ((windlasslaw4_num.f 1).bind fun bt137 => ((windlasslaw4_num.f 6).bind fun bt144 => ((heap_Put.f k bt133.1 0 bt137.1 bt137.2.1 bt137.2.2.1 bt137.2.2.2.1 bt137.2.2.2.2 bt144.1 bt144.2.1 bt144.2.2.1 bt144.2.2.2.1 bt144.2.2.2.2).bind fun bt151 => ((heap_First.f bt151.1 0).bind fun bt156 => ((windlasslaw4_num.f 1).bind fun bt165 => ((heap_Next.f k bt151.1 0 bt165.1 bt165.2.1 bt165.2.2.1 bt165.2.2.2.1 bt165.2.2.2.2).bind fun bt172 => (if bt133.2 = 0 then (if bt151.2 = 0 then (if bt156.2.2.2.2.2 = true then (if bt172.2.2.2.2.2 = true then (if bt156.2.1 = 1 then (if bt172.2.1 = 2 then (if 0 < (bt133.1.length : Int) then (if ((rd_L5 bt133.1 0).length : Int) = 1 then (if 0 < (bt151.1.length : Int) then (windlasslaw4_known.j0 k (((rd_L5 bt151.1 0).length : Int) == 2)) else (none)) else (windlasslaw4_known.j0 k false)) else (none)) else (windlasslaw4_known.j0 k false)) else (windlasslaw4_known.j0 k false)) else (windlasslaw4_known.j0 k false)) else (windlasslaw4_known.j0 k false)) else (windlasslaw4_known.j0 k false)) else (windlasslaw4_known.j0 k false))))))))))) else (none)) = some r:=h
 clear h
 by_cases c1 : 1 ≤ 11728124029610
 ·rw [if_pos c1] at H
  have c1b0:=eq_true c1
  have c1b1 : decide (1 ≤ 11728124029610) = true:=decide_eq_true c1
  clear c1
  obtain ⟨y115,hy115⟩ : ∃ y_ : List (List (S82)),y_ = (List.replicate 1 []):=⟨_,rfl⟩
  replace H : ((windlasslaw4_num.f 2).bind fun bt119 => ((windlasslaw4_num.f 5).bind fun bt126 => ((heap_Put.f k y115 0 bt119.1 bt119.2.1 bt119.2.2.1 bt119.2.2.2.1 bt119.2.2.2.2 bt126.1 bt126.2.1 bt126.2.2.1 bt126.2.2.2.1 bt126.2.2.2.2).bind fun bt133 => ((windlasslaw4_num.f 1).bind fun bt137 => ((windlasslaw4_num.f 6).bind fun bt144 => ((heap_Put.f k bt133.1 0 bt137.1 bt137.2.1 bt137.2.2.1 bt137.2.2.2.1 bt137.2.2.2.2 bt144.1 bt144.2.1 bt144.2.2.1 bt144.2.2.2.1 bt144.2.2.2.2).bind fun bt151 => ((heap_First.f bt151.1 0).bind fun bt156 => ((windlasslaw4_num.f 1).bind fun bt165 => ((heap_Next.f k bt151.1 0 bt165.1 bt165.2.1 bt165.2.2.1 bt165.2.2.2.1 bt165.2.2.2.2).bind fun bt172 => (if bt133.2 = 0 then (if bt151.2 = 0 then (if bt156.2.2.2.2.2 = true then (if bt172.2.2.2.2.2 = true then (if bt156.2.1 = 1 then (if bt172.2.1 = 2 then (if 0 < (bt133.1.length : Int) then (if ((rd_L5 bt133.1 0).length : Int) = 1 then (if 0 < (bt151.1.length : Int) then (windlasslaw4_known.j0 k (((rd_L5 bt151.1 0).length : Int) == 2)) else (none)) else (windlasslaw4_known.j0 k false)) else (none)) else (windlasslaw4_known.j0 k false)) else (windlasslaw4_known.j0 k false)) else (windlasslaw4_known.j0 k false)) else (windlasslaw4_known.j0 k false)) else (windlasslaw4_known.j0 k false)) else (windlasslaw4_known.j0 k false))))))))))) = some r:=by first|(rw [hy115];with_reducible exact H)|(have H2_:=(Option.bind_some _ _).symm.trans H;rw [hy115];with_reducible exact H2_)|(have H2_:=(Option.bind_some _ _).symm.trans H;with_reducible exact H2_)|with_reducible exact H|(rw [hy115];exact H)|exact H
  have Ny115:=Aside0.mk hy115
  clear hy115
  replace H:=Option.bind_eq_some_iff.mp H
  obtain ⟨⟨t119,t120,t121,t122,t123⟩,A20,H⟩:=H
  replace H : ((windlasslaw4_num.f 5).bind fun bt126 => ((heap_Put.f k y115 0 t119 t120 t121 t122 t123 bt126.1 bt126.2.1 bt126.2.2.1 bt126.2.2.2.1 bt126.2.2.2.2).bind fun bt133 => ((windlasslaw4_num.f 1).bind fun bt137 => ((windlasslaw4_num.f 6).bind fun bt144 => ((heap_Put.f k bt133.1 0 bt137.1 bt137.2.1 bt137.2.2.1 bt137.2.2.2.1 bt137.2.2.2.2 bt144.1 bt144.2.1 bt144.2.2.1 bt144.2.2.2.1 bt144.2.2.2.2).bind fun bt151 => ((heap_First.f bt151.1 0).bind fun bt156 => ((windlasslaw4_num.f 1).bind fun bt165 => ((heap_Next.f k bt151.1 0 bt165.1 bt165.2.1 bt165.2.2.1 bt165.2.2.2.1 bt165.2.2.2.2).bind fun bt172 => (if bt133.2 = 0 then (if bt151.2 = 0 then (if bt156.2.2.2.2.2 = true then (if bt172.2.2.2.2.2 = true then (if bt156.2.1 = 1 then (if bt172.2.1 = 2 then (if 0 < (bt133.1.length : Int) then (if ((rd_L5 bt133.1 0).length : Int) = 1 then (if 0 < (bt151.1.length : Int) then (windlasslaw4_known.j0 k (((rd_L5 bt151.1 0).length : Int) == 2)) else (none)) else (windlasslaw4_known.j0 k false)) else (none)) else (windlasslaw4_known.j0 k false)) else (windlasslaw4_known.j0 k false)) else (windlasslaw4_known.j0 k false)) else (windlasslaw4_known.j0 k false)) else (windlasslaw4_known.j0 k false)) else (windlasslaw4_known.j0 k false)))))))))) = some r:=H
  have A2:=Aside0.mk A20
  clear A20
  replace H:=Option.bind_eq_some_iff.mp H
  obtain ⟨⟨t126,t127,t128,t129,t130⟩,A30,H⟩:=H
  replace H : ((heap_Put.f k y115 0 t119 t120 t121 t122 t123 t126 t127 t128 t129 t130).bind fun bt133 => ((windlasslaw4_num.f 1).bind fun bt137 => ((windlasslaw4_num.f 6).bind fun bt144 => ((heap_Put.f k bt133.1 0 bt137.1 bt137.2.1 bt137.2.2.1 bt137.2.2.2.1 bt137.2.2.2.2 bt144.1 bt144.2.1 bt144.2.2.1 bt144.2.2.2.1 bt144.2.2.2.2).bind fun bt151 => ((heap_First.f bt151.1 0).bind fun bt156 => ((windlasslaw4_num.f 1).bind fun bt165 => ((heap_Next.f k bt151.1 0 bt165.1 bt165.2.1 bt165.2.2.1 bt165.2.2.2.1 bt165.2.2.2.2).bind fun bt172 => (if bt133.2 = 0 then (if bt151.2 = 0 then (if bt156.2.2.2.2.2 = true then (if bt172.2.2.2.2.2 = true then (if bt156.2.1 = 1 then (if bt172.2.1 = 2 then (if 0 < (bt133.1.length : Int) then (if ((rd_L5 bt133.1 0).length : Int) = 1 then (if 0 < (bt151.1.length : Int) then (windlasslaw4_known.j0 k (((rd_L5 bt151.1 0).length : Int) == 2)) else (none)) else (windlasslaw4_known.j0 k false)) else (none)) else (windlasslaw4_known.j0 k false)) else (windlasslaw4_known.j0 k false)) else (windlasslaw4_known.j0 k false)) else (windlasslaw4_known.j0 k false)) else (windlasslaw4_known.j0 k false)) else (windlasslaw4_known.j0 k false))))))))) = some r:=H
  have A3:=Aside0.mk A30
  clear A30
  replace H:=Option.bind_eq_some_iff.mp H
  obtain ⟨⟨t133,t136⟩,A40,H⟩:=H
  replace H : ((windlasslaw4_num.f 1).bind fun bt137 => ((windlasslaw4_num.f 6).bind fun bt144 => ((heap_Put.f k t133 0 bt137.1 bt137.2.1 bt137.2.2.1 bt137.2.2.2.1 bt137.2.2.2.2 bt144.1 bt144.2.1 bt144.2.2.1 bt144.2.2.2.1 bt144.2.2.2.2).bind fun bt151 => ((heap_First.f bt151.1 0).bind fun bt156 => ((windlasslaw4_num.f 1).bind fun bt165 => ((heap_Next.f k bt151.1 0 bt165.1 bt165.2.1 bt165.2.2.1 bt165.2.2.2.1 bt165.2.2.2.2).bind fun bt172 => (if t136 = 0 then (if bt151.2 = 0 then (if bt156.2.2.2.2.2 = true then (if bt172.2.2.2.2.2 = true then (if bt156.2.1 = 1 then (if bt172.2.1 = 2 then (if 0 < (t133.length : Int) then (if ((rd_L5 t133 0).length : Int) = 1 then (if 0 < (bt151.1.length : Int) then (windlasslaw4_known.j0 k (((rd_L5 bt151.1 0).length : Int) == 2)) else (none)) else (windlasslaw4_known.j0 k false)) else (none)) else (windlasslaw4_known.j0 k false)) else (windlasslaw4_known.j0 k false)) else (windlasslaw4_known.j0 k false)) else (windlasslaw4_known.j0 k false)) else (windlasslaw4_known.j0 k false)) else (windlasslaw4_known.j0 k false)))))))) = some r:=H
  have A4:=Aside0.mk A40
  clear A40
  replace H:=Option.bind_eq_some_iff.mp H
  obtain ⟨⟨t137,t138,t139,t140,t141⟩,A50,H⟩:=H
  replace H : ((windlasslaw4_num.f 6).bind fun bt144 => ((heap_Put.f k t133 0 t137 t138 t139 t140 t141 bt144.1 bt144.2.1 bt144.2.2.1 bt144.2.2.2.1 bt144.2.2.2.2).bind fun bt151 => ((heap_First.f bt151.1 0).bind fun bt156 => ((windlasslaw4_num.f 1).bind fun bt165 => ((heap_Next.f k bt151.1 0 bt165.1 bt165.2.1 bt165.2.2.1 bt165.2.2.2.1 bt165.2.2.2.2).bind fun bt172 => (if t136 = 0 then (if bt151.2 = 0 then (if bt156.2.2.2.2.2 = true then (if bt172.2.2.2.2.2 = true then (if bt156.2.1 = 1 then (if bt172.2.1 = 2 then (if 0 < (t133.length : Int) then (if ((rd_L5 t133 0).length : Int) = 1 then (if 0 < (bt151.1.length : Int) then (windlasslaw4_known.j0 k (((rd_L5 bt151.1 0).length : Int) == 2)) else (none)) else (windlasslaw4_known.j0 k false)) else (none)) else (windlasslaw4_known.j0 k false)) else (windlasslaw4_known.j0 k false)) else (windlasslaw4_known.j0 k false)) else (windlasslaw4_known.j0 k false)) else (windlasslaw4_known.j0 k false)) else (windlasslaw4_known.j0 k false))))))) = some r:=H
  have A5:=Aside0.mk A50
  clear A50
  replace H:=Option.bind_eq_some_iff.mp H
  obtain ⟨⟨t144,t145,t146,t147,t148⟩,A60,H⟩:=H
  replace H : ((heap_Put.f k t133 0 t137 t138 t139 t140 t141 t144 t145 t146 t147 t148).bind fun bt151 => ((heap_First.f bt151.1 0).bind fun bt156 => ((windlasslaw4_num.f 1).bind fun bt165 => ((heap_Next.f k bt151.1 0 bt165.1 bt165.2.1 bt165.2.2.1 bt165.2.2.2.1 bt165.2.2.2.2).bind fun bt172 => (if t136 = 0 then (if bt151.2 = 0 then (if bt156.2.2.2.2.2 = true then (if bt172.2.2.2.2.2 = true then (if bt156.2.1 = 1 then (if bt172.2.1 = 2 then (if 0 < (t133.length : Int) then (if ((rd_L5 t133 0).length : Int) = 1 then (if 0 < (bt151.1.length : Int) then (windlasslaw4_known.j0 k (((rd_L5 bt151.1 0).length : Int) == 2)) else (none)) else (windlasslaw4_known.j0 k false)) else (none)) else (windlasslaw4_known.j0 k false)) else (windlasslaw4_known.j0 k false)) else (windlasslaw4_known.j0 k false)) else (windlasslaw4_known.j0 k false)) else (windlasslaw4_known.j0 k false)) else (windlasslaw4_known.j0 k false)))))) = some r:=H
  have A6:=Aside0.mk A60
  clear A60
  replace H:=Option.bind_eq_some_iff.mp H
  obtain ⟨⟨t151,t154⟩,A70,H⟩:=H
  replace H : ((heap_First.f t151 0).bind fun bt156 => ((windlasslaw4_num.f 1).bind fun bt165 => ((heap_Next.f k t151 0 bt165.1 bt165.2.1 bt165.2.2.1 bt165.2.2.2.1 bt165.2.2.2.2).bind fun bt172 => (if t136 = 0 then (if t154 = 0 then (if bt156.2.2.2.2.2 = true then (if bt172.2.2.2.2.2 = true then (if bt156.2.1 = 1 then (if bt172.2.1 = 2 then (if 0 < (t133.length : Int) then (if ((rd_L5 t133 0).length : Int) = 1 then (if 0 < (t151.length : Int) then (windlasslaw4_known.j0 k (((rd_L5 t151 0).length : Int) == 2)) else (none)) else (windlasslaw4_known.j0 k false)) else (none)) else (windlasslaw4_known.j0 k false)) else (windlasslaw4_known.j0 k false)) else (windlasslaw4_known.j0 k false)) else (windlasslaw4_known.j0 k false)) else (windlasslaw4_known.j0 k false)) else (windlasslaw4_known.j0 k false))))) = some r:=H
  have A7:=Aside0.mk A70
  clear A70
  replace H:=Option.bind_eq_some_iff.mp H
  obtain ⟨⟨t156,t157,t158,t159,t160,t163⟩,A80,H⟩:=H
  replace H : ((windlasslaw4_num.f 1).bind fun bt165 => ((heap_Next.f k t151 0 bt165.1 bt165.2.1 bt165.2.2.1 bt165.2.2.2.1 bt165.2.2.2.2).bind fun bt172 => (if t136 = 0 then (if t154 = 0 then (if t163 = true then (if bt172.2.2.2.2.2 = true then (if t157 = 1 then (if bt172.2.1 = 2 then (if 0 < (t133.length : Int) then (if ((rd_L5 t133 0).length : Int) = 1 then (if 0 < (t151.length : Int) then (windlasslaw4_known.j0 k (((rd_L5 t151 0).length : Int) == 2)) else (none)) else (windlasslaw4_known.j0 k false)) else (none)) else (windlasslaw4_known.j0 k false)) else (windlasslaw4_known.j0 k false)) else (windlasslaw4_known.j0 k false)) else (windlasslaw4_known.j0 k false)) else (windlasslaw4_known.j0 k false)) else (windlasslaw4_known.j0 k false)))) = some r:=H
  have A8:=Aside0.mk A80
  clear A80
  replace H:=Option.bind_eq_some_iff.mp H
  obtain ⟨⟨t165,t166,t167,t168,t169⟩,A90,H⟩:=H
  replace H : ((heap_Next.f k t151 0 t165 t166 t167 t168 t169).bind fun bt172 => (if t136 = 0 then (if t154 = 0 then (if t163 = true then (if bt172.2.2.2.2.2 = true then (if t157 = 1 then (if bt172.2.1 = 2 then (if 0 < (t133.length : Int) then (if ((rd_L5 t133 0).length : Int) = 1 then (if 0 < (t151.length : Int) then (windlasslaw4_known.j0 k (((rd_L5 t151 0).length : Int) == 2)) else (none)) else (windlasslaw4_known.j0 k false)) else (none)) else (windlasslaw4_known.j0 k false)) else (windlasslaw4_known.j0 k false)) else (windlasslaw4_known.j0 k false)) else (windlasslaw4_known.j0 k false)) else (windlasslaw4_known.j0 k false)) else (windlasslaw4_known.j0 k false))) = some r:=H
  have A9:=Aside0.mk A90
  clear A90
  replace H:=Option.bind_eq_some_iff.mp H
  obtain ⟨⟨t172,t173,t174,t175,t176,t179⟩,A100,H⟩:=H
  replace H : (if t136 = 0 then (if t154 = 0 then (if t163 = true then (if t179 = true then (if t157 = 1 then (if t173 = 2 then (if 0 < (t133.length : Int) then (if ((rd_L5 t133 0).length : Int) = 1 then (if 0 < (t151.length : Int) then (windlasslaw4_known.j0 k (((rd_L5 t151 0).length : Int) == 2)) else (none)) else (windlasslaw4_known.j0 k false)) else (none)) else (windlasslaw4_known.j0 k false)) else (windlasslaw4_known.j0 k false)) else (windlasslaw4_known.j0 k false)) else (windlasslaw4_known.j0 k false)) else (windlasslaw4_known.j0 k false)) else (windlasslaw4_known.j0 k false)) = some r:=H
  have A10:=Aside0.mk A100
  clear A100
  have HC11:=Aside0.mk H
  clear H
  go_enter Try.func9,Try.ntmps9
  try go_wp2_with (first|((with_reducible refine gate_dst (N:=9) rfl ?_);(try (refine gate_guard (by rfl) ?_;dsimp only));refine Kd.N_make (Kd.slice 82 k82) _ 41 rfl (N':=9) rfl 25 _ _ rfl 1 rfl rfl Try.underlying25 (.slice none 0 0) 24 info41 rfl (by decide) (by omega) [] (ok:=fun k_ => w.heap.size ≤ k_) (okp:=fun _ => False) (Kd.FK_slice_mk (Nat.le_refl _) (Kd.F_nil _ _ _)) (fun _ hk => hk.elim) (Nat.le_refl _) (by omega) (by omega) (Below.refl _ _) (Nat.le_refl _) ?_;intro v116 w12 ho13 hb hg_ hnew_;clear hg_ hnew_;(first|rw [← Ny115.out] at ho13|(simp only [Int.reduceToNat] at ho13;rw [← Ny115.out] at ho13));have n0_:=Aside0.mk (Kd.N_lower (Kd.N_mono (ok':=fun k_ => True) ho13 (fun k_ hk_ => trivial)) (below_size (by repeat (first|(with_reducible first|exact HB.out|apply below_alloc|apply pw_below_drewN|apply below_drew1)|exact HB.out))));have n1_:=Aside0.mk (below_step (by repeat (first|(with_reducible first|exact HB.out|apply below_alloc|apply pw_below_drewN|apply below_drew1)|exact HB.out)) hb);clear HB;have HO117:=n0_;have HB:=n1_;clear n0_ n1_;clear hb ho13;obtain ⟨Ao14,co14,eo14⟩:=Kd.N_slice HO117.out;subst eo14)|((with_reducible refine gate_dst (N:=1) rfl ?_);(try (refine gate_guard (by rfl) ?_;dsimp only));refine box_event ?hg (N:=1) ?hd (cs:=#[.slice none 0 0]) (t:=27) ?hr ?_;(case hd => rfl);(case hg => rfl);(case hr => first|(go_simp;done)|(go_simp;rfl));intro gb118 hg w15 hbox hb;have n0_:=Aside0.mk (Kd.N_below (Kd.N_elderB (by (with_reducible repeat first|apply nA|apply nN|apply nD);exact HO117.out) gb118 (Nat.le_of_eq hg.symm)) hb);have n1_:=Aside0.mk (below_step (by repeat (first|(with_reducible first|exact HB.out|apply below_alloc|apply pw_below_drewN|apply below_drew1)|exact HB.out)) hb);have n2_:=Aside0.mk (hbox);have n3_:=Aside0.mk ((by rw [hg];exact (below_size (by repeat (first|(with_reducible first|exact HB.out|apply below_alloc|apply pw_below_drewN|apply below_drew1)|exact HB.out))) : w.heap.size ≤ gb118));have n4_:=Aside0.mk ((by rw [hg];exact (below_size (by repeat (first|(with_reducible first|exact HB.out|apply below_alloc|apply pw_below_drewN|apply below_drew1)|exact HB.out))) : w.heap.size ≤ gb118));clear HO117;clear HB;have HO117:=n0_;have HB:=n1_;have BK118:=n2_;have GW118:=n3_;have GE118:=n4_;clear n0_ n1_ n2_ n3_ n4_;clear hb hbox hg;have hcz16_0 : w15.cell? ⟨gb118,0,none⟩ = some (.slice none 0 0):=(blk_cell BK118.out 0).trans rfl;have hfz16_0:=blk_frozen BK118.out 0))
  have n0_ : Aside0 (Kd.N (Kd.slice 82 k82) 41 (w15.setCell ⟨gb118,0,none⟩ (.slice Ao14 y115.length co14)) w.heap.size (fun k_ => k_ ≠ gb118) (.slice Ao14 y115.length co14) y115):=⟨by (with_reducible repeat first|apply nA|apply nN|apply nD);exact Kd.N_mono (Kd.N_far (p:=⟨gb118,0,none⟩) (Kd.N_mono HO117.out (fun k_ hk => (⟨hk,hk.2⟩ : _ ∧ k_ ≠ gb118))) (fun _ hk => hk.2) (.slice Ao14 y115.length co14)) (fun _ hk => hk.1.2)⟩
  have n1_ : Aside0 ((w15.setCell ⟨gb118,0,none⟩ (.slice Ao14 y115.length co14)).heap[gb118]? = some (.cells #[.slice Ao14 y115.length co14] 27 (0,0))):=⟨by (with_reducible repeat first|refine bN ?_ _|refine bD ?_|refine bA ?_ _);refine blk_put (cs:=#[.slice none 0 0]) ?_ 0 _ rfl;(with_reducible repeat first|refine bN ?_ _|refine bD ?_|refine bA ?_ _);exact BK118.out⟩
  have n2_ : Aside0 (Below w.heap.size w (w15.setCell ⟨gb118,0,none⟩ (.slice Ao14 y115.length co14))):=⟨by repeat (first|(with_reducible first|exact HB.out|apply below_alloc|apply pw_below_drewN|apply below_drew1|refine below_set ?_ GE118.out)|exact HB.out)⟩
  (try clear HO117)
  (try clear BK118)
  (try clear HB)
  generalize (w15.setCell ⟨gb118,0,none⟩ (.slice Ao14 y115.length co14)) = w17 at n0_ n1_ n2_ ⊢
  have HO117:=n0_
  have BK118:=n1_
  have HB:=n2_
  clear n0_ n1_ n2_
  have n0_:=Aside0.mk (Kd.N_drew HO117.out)
  have n1_:=Aside0.mk (blk_drew BK118.out)
  have n2_:=Aside0.mk (below_drew1 HB.out)
  clear HO117
  clear BK118
  clear HB
  have HO117:=n0_
  have BK118:=n1_
  have HB:=n2_
  clear n0_ n1_ n2_
  refine start_ (n:=9) (S:=fun w' => w'.cell? ⟨gb118,0,none⟩ = some (.slice Ao14 y115.length co14)) (ds:=[7]) #[false,false,false,false,false,false,false,false,false] (by kernel_rfl) rfl rfl ((blk_cell BK118.out 0).trans rfl) (fun hHeld => ?_);refine with_tabW windlasslaw4_known.tab2 windlasslaw4_known.bits2 (fun HT_ HW_ => ?_)
  generalize w17.drew = w18 at HO117 BK118 HB hHeld ⊢
  refine take_ (i:=0) (N:=some 12) (v:=?_) (a':=?_) #[true,false,false,false,false,false,false,false,false] rfl rfl (take_ofW HT_.out HW_.out (by kernel_rfl)) (fun _ _ _ h => h) (Or.inl ⟨by rfl,?_⟩) hHeld ?_ ?_
  rotate_left
  ·intro w' s0
   go_simp
   with_reducible rfl
  rotate_left
  ·simp only [Act.put,List.setIfInBounds_toArray,List.set_cons_zero,List.set_cons_succ,i64_w,i32_w]
   rfl
  refine one_ (i:=1) (N:=some 13) #[true,true,false,false,false,false,false,false,false] rfl rfl (one_of HT_.out (by kernel_rfl)) (by decide) (fun K hK => ?_)
  refine goes_ Try.func11 (by kernel_rfl) rfl #[.int .i64 2] (by rfl) rfl rfl (by (try simp only [List.map_toArray,List.map_cons,List.map_nil]);first|done|rfl|(simp only [List.length_drop,List.length_take];rfl)|(go_simp;done)|(go_simp;simp;done)) ?_
  with_reducible refine (windlasslaw4_num.calls 2 t119 t120 t121 t122 t123 _ A2.out).mono ?_
  rintro e w19 ⟨v124,rfl,ho0,hb⟩
  refine ⟨_,rfl,?_⟩
  have n0_:=Aside0.mk (Kd.N_elder' (by (with_reducible repeat first|apply nA|apply nN|apply nD);exact HO117.out) (by first|exact Kd.N_base ho0|exact Kd.R_base ho0) hb)
  have n1_:=Aside0.mk (Kd.N_lower (Kd.N_mono (ok':=fun k_ => some k_ ≠ (.slice Ao14 y115.length co14 : Value).ownBlock ∧ k_ ≠ gb118) (Kd.R_N (Kd.R_bound ho0)) (fun k_ hk_ => ⟨(Kd.fresh' (Kd.N_lt (by (with_reducible repeat first|apply nA|apply nN|apply nD);exact HO117.out)) k_ hk_.2.1),(Kd.freshB (g:=gb118) (o := .cells #[.slice Ao14 y115.length co14] 27 (0,0)) (by (with_reducible repeat first|refine bN ?_ _|refine bD ?_|refine bA ?_ _);exact BK118.out) k_ hk_.2.1)⟩)) (below_size (by repeat (first|(with_reducible first|exact HB.out|apply below_alloc|apply pw_below_drewN|apply below_drew1|refine below_set ?_ GE118.out)|exact HB.out))))
  have n2_:=Aside0.mk (blk_below (g:=gb118) (o := .cells #[.slice Ao14 y115.length co14] 27 (0,0)) (by (with_reducible repeat first|refine bN ?_ _|refine bD ?_|refine bA ?_ _);exact BK118.out) hb)
  have n3_:=Aside0.mk (below_step (by repeat (first|(with_reducible first|exact HB.out|apply below_alloc|apply pw_below_drewN|apply below_drew1|refine below_set ?_ GE118.out)|exact HB.out)) hb)
  clear HO117
  clear BK118
  clear HB
  have HO117:=n0_
  have HO125:=n1_
  have BK118:=n2_
  have HB:=n3_
  clear n0_ n1_ n2_ n3_
  (try clear hb)
  (try clear hb2)
  (try clear hk)
  (try clear hi)
  (try clear ho0)
  refine hK.out _ _ ((blk_cell BK118.out 0).trans rfl) (fun hHeld => ?_)
  clear hK K
  refine norm_ (a':=?_) ?_ ?_
  rotate_left
  ·show Act.put _ (some 13) _ = _
   simp only [Act.put,List.setIfInBounds_toArray,List.set_cons_zero,List.set_cons_succ,i64_w,i32_w]
   rfl
  refine one_ (i:=2) (N:=some 14) #[true,true,true,false,false,false,false,false,false] rfl rfl (one_of HT_.out (by kernel_rfl)) (by decide) (fun K hK => ?_)
  refine goes_ Try.func11 (by kernel_rfl) rfl #[.int .i64 5] (by rfl) rfl rfl (by (try simp only [List.map_toArray,List.map_cons,List.map_nil]);first|done|rfl|(simp only [List.length_drop,List.length_take];rfl)|(go_simp;done)|(go_simp;simp;done)) ?_
  with_reducible refine (windlasslaw4_num.calls 5 t126 t127 t128 t129 t130 _ A3.out).mono ?_
  rintro e w20 ⟨v131,rfl,ho0,hb⟩
  refine ⟨_,rfl,?_⟩
  have n0_:=Aside0.mk (Kd.N_elder' (by (with_reducible repeat first|apply nA|apply nN|apply nD);exact HO117.out) (by first|exact Kd.N_base ho0|exact Kd.R_base ho0) hb)
  have n1_:=Aside0.mk (Kd.N_elder' (by (with_reducible repeat first|apply nA|apply nN|apply nD);exact HO125.out) (by first|exact Kd.N_base ho0|exact Kd.R_base ho0) hb)
  have n2_:=Aside0.mk (Kd.N_lower (Kd.N_mono (ok':=fun k_ => some k_ ≠ (.slice Ao14 y115.length co14 : Value).ownBlock ∧ some k_ ≠ (v124 : Value).ownBlock ∧ k_ ≠ gb118) (Kd.R_N (Kd.R_bound ho0)) (fun k_ hk_ => ⟨(Kd.fresh' (Kd.N_lt (by (with_reducible repeat first|apply nA|apply nN|apply nD);exact HO117.out)) k_ hk_.2.1),(Kd.fresh' (Kd.N_lt (by (with_reducible repeat first|apply nA|apply nN|apply nD);exact HO125.out)) k_ hk_.2.1),(Kd.freshB (g:=gb118) (o := .cells #[.slice Ao14 y115.length co14] 27 (0,0)) (by (with_reducible repeat first|refine bN ?_ _|refine bD ?_|refine bA ?_ _);exact BK118.out) k_ hk_.2.1)⟩)) (below_size (by repeat (first|(with_reducible first|exact HB.out|apply below_alloc|apply pw_below_drewN|apply below_drew1|refine below_set ?_ GE118.out)|exact HB.out))))
  have n3_:=Aside0.mk (blk_below (g:=gb118) (o := .cells #[.slice Ao14 y115.length co14] 27 (0,0)) (by (with_reducible repeat first|refine bN ?_ _|refine bD ?_|refine bA ?_ _);exact BK118.out) hb)
  have n4_:=Aside0.mk (below_step (by repeat (first|(with_reducible first|exact HB.out|apply below_alloc|apply pw_below_drewN|apply below_drew1|refine below_set ?_ GE118.out)|exact HB.out)) hb)
  clear HO117
  clear HO125
  clear BK118
  clear HB
  have HO117:=n0_
  have HO125:=n1_
  have HO132:=n2_
  have BK118:=n3_
  have HB:=n4_
  clear n0_ n1_ n2_ n3_ n4_
  (try clear hb)
  (try clear hb2)
  (try clear hk)
  (try clear hi)
  (try clear ho0)
  obtain ⟨Ao21,co21,eo21⟩:=Kd.N_slice HO125.out
  (first|subst eo21|(injection eo21 with f1_ f2_ f3_;have f4_:=f1_.symm;have f5_:=f3_.symm;clear f1_ f2_ f3_;subst f4_;subst f5_))
  obtain ⟨Ao22,co22,eo22⟩:=Kd.N_slice HO132.out
  (first|subst eo22|(injection eo22 with f1_ f2_ f3_;have f4_:=f1_.symm;have f5_:=f3_.symm;clear f1_ f2_ f3_;subst f4_;subst f5_))
  refine hK.out _ _ ((blk_cell BK118.out 0).trans rfl) (fun hHeld => ?_)
  clear hK K
  refine norm_ (a':=?_) ?_ ?_
  rotate_left
  ·show Act.put _ (some 14) _ = _
   simp only [Act.put,List.setIfInBounds_toArray,List.set_cons_zero,List.set_cons_succ,i64_w,i32_w]
   rfl
  refine one_ (i:=3) (N:=some 15) #[true,true,true,true,false,false,false,false,false] rfl rfl (one_of HT_.out (by kernel_rfl)) (by decide) (fun K hK => ?_)
  refine goes_ Try.func10 (by kernel_rfl) rfl #[.agg #[.slice Ao14 y115.length co14], .int .i64 0, .agg #[.int .i64 t119, .int .i64 t120, .string t121, .int .i64 t122, .slice Ao21 t123.length co21], .agg #[.int .i64 t126, .int .i64 t127, .string t128, .int .i64 t129, .slice Ao22 t130.length co22]] (by rfl) rfl rfl (by (try simp only [List.map_toArray,List.map_cons,List.map_nil]);first|done|rfl|(simp only [List.length_drop,List.length_take];rfl)|(go_simp;done)|(go_simp;simp;done)) ?_
  with_reducible refine (heap_Put.calls k (fun k_ => ((k_ ≠ gb118 ∧ some k_ ≠ (.slice Ao21 t123.length co21 : Value).ownBlock) ∧ some k_ ≠ (.slice Ao22 t130.length co22 : Value).ownBlock)) _ _ y115 0 t119 t120 t121 t122 (fun k_ => ((some k_ ≠ (.slice Ao14 y115.length co14 : Value).ownBlock ∧ k_ ≠ gb118) ∧ some k_ ≠ (.slice Ao22 t130.length co22 : Value).ownBlock)) _ _ t123 t126 t127 t128 t129 (fun k_ => (some k_ ≠ (.slice Ao14 y115.length co14 : Value).ownBlock ∧ (some k_ ≠ (.slice Ao21 t123.length co21 : Value).ownBlock ∧ k_ ≠ gb118))) _ _ t130 t133 t136 _ ?side1 ?side2 ?side3 A4.out).mono ?_
  (case side1 => exact Kd.N_V (HO117.out))
  (case side2 => exact Kd.N_V (HO125.out))
  (case side3 => exact Kd.N_V (HO132.out))
  rintro e w23 ⟨v134,rfl,ho0,hb⟩
  refine ⟨_,rfl,?_⟩
  have n0_:=Aside0.mk (Kd.N_elder' (by (with_reducible repeat first|apply nA|apply nN|apply nD);exact HO117.out) (by first|exact Kd.N_base ho0|exact Kd.R_base ho0) hb)
  have n1_:=Aside0.mk (Kd.N_elder' (by (with_reducible repeat first|apply nA|apply nN|apply nD);exact HO125.out) (by first|exact Kd.N_base ho0|exact Kd.R_base ho0) hb)
  have n2_:=Aside0.mk (Kd.N_elder' (by (with_reducible repeat first|apply nA|apply nN|apply nD);exact HO132.out) (by first|exact Kd.N_base ho0|exact Kd.R_base ho0) hb)
  have n3_:=Aside0.mk (Kd.N_lower (Kd.N_mono (ok':=fun k_ => k_ ≠ gb118) ho0 (fun k_ hk_ => Or.elim hk_ (fun hs_ => Or.elim hs_ (fun hs_ => hs_.1.1) (fun hs_ => Or.elim hs_ (fun hs_ => hs_.1.2) (fun hs_ => hs_.2.2))) (fun hn_ => (Kd.freshB (g:=gb118) (o := .cells #[.slice Ao14 y115.length co14] 27 (0,0)) (by (with_reducible repeat first|refine bN ?_ _|refine bD ?_|refine bA ?_ _);exact BK118.out) k_ hn_)))) (below_size (by repeat (first|(with_reducible first|exact HB.out|apply below_alloc|apply pw_below_drewN|apply below_drew1|refine below_set ?_ GE118.out)|exact HB.out))))
  have n4_:=Aside0.mk (blk_below (g:=gb118) (o := .cells #[.slice Ao14 y115.length co14] 27 (0,0)) (by (with_reducible repeat first|refine bN ?_ _|refine bD ?_|refine bA ?_ _);exact BK118.out) hb)
  have n5_:=Aside0.mk (below_step (by repeat (first|(with_reducible first|exact HB.out|apply below_alloc|apply pw_below_drewN|apply below_drew1|refine below_set ?_ GE118.out)|exact HB.out)) hb)
  clear HO117
  clear HO125
  clear HO132
  clear BK118
  clear HB
  have HO117:=n0_
  have HO125:=n1_
  have HO132:=n2_
  have HO135:=n3_
  have BK118:=n4_
  have HB:=n5_
  clear n0_ n1_ n2_ n3_ n4_ n5_
  (try clear hb)
  (try clear hb2)
  (try clear hk)
  (try clear hi)
  (try clear ho0)
  obtain ⟨Ao24,co24,eo24⟩:=Kd.N_slice HO135.out
  (first|subst eo24|(injection eo24 with f1_ f2_ f3_;have f4_:=f1_.symm;have f5_:=f3_.symm;clear f1_ f2_ f3_;subst f4_;subst f5_))
  refine hK.out _ _ ((blk_cell BK118.out 0).trans rfl) (fun hHeld => ?_)
  clear hK K
  refine norm_ (a':=?_) ?_ ?_
  rotate_left
  ·show Act.put _ (some 15) _ = _
   simp only [Act.put,List.setIfInBounds_toArray,List.set_cons_zero,List.set_cons_succ,i64_w,i32_w]
   rfl
  refine pure_ (i:=4) (N:=some 11) (v:=?_) (a':=?_) #[true,true,true,true,true,false,false,false,false] rfl rfl (any_of HT_.out (by kernel_rfl)) (fun _ _ _ h => h) (Or.inl ⟨by rfl,?_⟩) ?_ ?_
  rotate_left
  ·intro w'
   go_simp
   with_reducible rfl
  rotate_left
  ·simp only [Act.put,List.setIfInBounds_toArray,List.set_cons_zero,List.set_cons_succ,i64_w,i32_w]
   rfl
  refine pure_ (i:=5) (N:=some 16) (v:=?_) (a':=?_) #[true,true,true,true,true,true,false,false,false] rfl rfl (any_of HT_.out (by kernel_rfl)) (fun _ _ _ h => h) (Or.inl ⟨by rfl,?_⟩) ?_ ?_
  rotate_left
  ·intro w'
   go_simp
   with_reducible rfl
  rotate_left
  ·simp only [Act.put,List.setIfInBounds_toArray,List.set_cons_zero,List.set_cons_succ,i64_w,i32_w]
   rfl
  refine pure_ (i:=6) (N:=some 17) (v:=?_) (a':=?_) #[true,true,true,true,true,true,true,false,false] rfl rfl (any_of HT_.out (by kernel_rfl)) (fun _ _ _ h => h) (Or.inl ⟨by rfl,?_⟩) ?_ ?_
  rotate_left
  ·intro w'
   go_simp
   with_reducible rfl
  rotate_left
  ·simp only [Act.put,List.setIfInBounds_toArray,List.set_cons_zero,List.set_cons_succ,i64_w,i32_w]
   rfl
  refine last_ (i:=7) (N:=none) #[true,true,true,true,true,true,true,true,false] rfl rfl (one_of HT_.out (by kernel_rfl)) (by decide) (fun K hK => ?_)
  have hs25 : w23.cell? ⟨gb118,0,none⟩ = some (.slice Ao14 y115.length co14):=(blk_cell BK118.out 0).trans rfl
  have hfs25:=blk_frozen BK118.out 0
  refine skip_ (w1:=?_) (by rfl) rfl ?_ ?_
  rotate_left
  ·go_simp
   rfl
  refine hK.out _ _ ?_
  clear hK K
  refine pure_ (i:=8) (N:=some 2) (v:=?_) (a':=?_) #[true,true,true,true,true,true,true,true,true] rfl rfl (any_of HT_.out (by kernel_rfl)) (fun _ _ _ h => h) (Or.inl ⟨by rfl,?_⟩) ?_ ?_
  rotate_left
  ·intro w'
   go_simp
   with_reducible rfl
  rotate_left
  ·simp only [Act.put,List.setIfInBounds_toArray,List.set_cons_zero,List.set_cons_succ,i64_w,i32_w]
   rfl
  refine done_ (done_of HT_.out (by kernel_rfl)) ?_
  try go_wp2
  have n0_ : Aside0 (Kd.N (Kd.slice 82 k82) 41 (w23.setCell ⟨gb118,0,none⟩ (.slice Ao24 t133.length co24)) w.heap.size (fun k_ => some k_ ≠ (.slice Ao21 t123.length co21 : Value).ownBlock ∧ some k_ ≠ (.slice Ao22 t130.length co22 : Value).ownBlock ∧ some k_ ≠ (.slice Ao24 t133.length co24 : Value).ownBlock ∧ k_ ≠ gb118) (.slice Ao14 y115.length co14) y115):=⟨by (with_reducible repeat first|apply nA|apply nN|apply nD);exact Kd.N_mono (Kd.N_far (p:=⟨gb118,0,none⟩) (Kd.N_mono HO117.out (fun k_ hk => (⟨hk,hk.1.1.1⟩ : _ ∧ k_ ≠ gb118))) (fun _ hk => hk.2) (.slice Ao24 t133.length co24)) (fun _ hk => ⟨hk.1.1.1.2,⟨hk.1.1.2,⟨hk.1.2,hk.1.1.1.1⟩⟩⟩)⟩
  have n1_ : Aside0 (Kd.N k35 35 (w23.setCell ⟨gb118,0,none⟩ (.slice Ao24 t133.length co24)) w.heap.size (fun k_ => some k_ ≠ (.slice Ao14 y115.length co14 : Value).ownBlock ∧ some k_ ≠ (.slice Ao22 t130.length co22 : Value).ownBlock ∧ some k_ ≠ (.slice Ao24 t133.length co24 : Value).ownBlock ∧ k_ ≠ gb118) (.slice Ao21 t123.length co21) t123):=⟨by (with_reducible repeat first|apply nA|apply nN|apply nD);exact Kd.N_mono (Kd.N_far (p:=⟨gb118,0,none⟩) (Kd.N_mono HO125.out (fun k_ hk => (⟨hk,hk.1.1.2⟩ : _ ∧ k_ ≠ gb118))) (fun _ hk => hk.2) (.slice Ao24 t133.length co24)) (fun _ hk => ⟨hk.1.1.1.1,⟨hk.1.1.2,⟨hk.1.2,hk.1.1.1.2⟩⟩⟩)⟩
  have n2_ : Aside0 (Kd.N k35 35 (w23.setCell ⟨gb118,0,none⟩ (.slice Ao24 t133.length co24)) w.heap.size (fun k_ => some k_ ≠ (.slice Ao14 y115.length co14 : Value).ownBlock ∧ some k_ ≠ (.slice Ao21 t123.length co21 : Value).ownBlock ∧ some k_ ≠ (.slice Ao24 t133.length co24 : Value).ownBlock ∧ k_ ≠ gb118) (.slice Ao22 t130.length co22) t130):=⟨by (with_reducible repeat first|apply nA|apply nN|apply nD);exact Kd.N_mono (Kd.N_far (p:=⟨gb118,0,none⟩) (Kd.N_mono HO132.out (fun k_ hk => (⟨hk,hk.1.2.2⟩ : _ ∧ k_ ≠ gb118))) (fun _ hk => hk.2) (.slice Ao24 t133.length co24)) (fun _ hk => ⟨hk.1.1.1,⟨hk.1.1.2.1,⟨hk.1.2,hk.1.1.2.2⟩⟩⟩)⟩
  have n3_ : Aside0 (Kd.N (Kd.slice 82 k82) 41 (w23.setCell ⟨gb118,0,none⟩ (.slice Ao24 t133.length co24)) w.heap.size (fun k_ => k_ ≠ gb118) (.slice Ao24 t133.length co24) t133):=⟨by (with_reducible repeat first|apply nA|apply nN|apply nD);exact Kd.N_mono (Kd.N_far (p:=⟨gb118,0,none⟩) (Kd.N_mono HO135.out (fun k_ hk => (⟨hk,hk⟩ : _ ∧ k_ ≠ gb118))) (fun _ hk => hk.2) (.slice Ao24 t133.length co24)) (fun _ hk => hk.1)⟩
  have n4_ : Aside0 ((w23.setCell ⟨gb118,0,none⟩ (.slice Ao24 t133.length co24)).heap[gb118]? = some (.cells #[.slice Ao24 t133.length co24] 27 (0,0))):=⟨by (with_reducible repeat first|refine bN ?_ _|refine bD ?_|refine bA ?_ _);refine blk_put (cs:=#[.slice Ao14 y115.length co14]) ?_ 0 _ rfl;(with_reducible repeat first|refine bN ?_ _|refine bD ?_|refine bA ?_ _);exact BK118.out⟩
  have n5_ : Aside0 (Below w.heap.size w (w23.setCell ⟨gb118,0,none⟩ (.slice Ao24 t133.length co24))):=⟨by repeat (first|(with_reducible first|exact HB.out|apply below_alloc|apply pw_below_drewN|apply below_drew1|refine below_set ?_ GE118.out)|exact HB.out)⟩
  (try clear HO117)
  (try clear HO125)
  (try clear HO132)
  (try clear HO135)
  (try clear BK118)
  (try clear HB)
  generalize (w23.setCell ⟨gb118,0,none⟩ (.slice Ao24 t133.length co24)) = w26 at n0_ n1_ n2_ n3_ n4_ n5_ ⊢
  have HO117:=n0_
  have HO125:=n1_
  have HO132:=n2_
  have HO135:=n3_
  have BK118:=n4_
  have HB:=n5_
  clear n0_ n1_ n2_ n3_ n4_ n5_
  have n0_:=Aside0.mk (Kd.N_drew HO117.out)
  have n1_:=Aside0.mk (Kd.N_drew HO125.out)
  have n2_:=Aside0.mk (Kd.N_drew HO132.out)
  have n3_:=Aside0.mk (Kd.N_drew HO135.out)
  have n4_:=Aside0.mk (blk_drew BK118.out)
  have n5_:=Aside0.mk (below_drew1 HB.out)
  clear HO117
  clear HO125
  clear HO132
  clear HO135
  clear BK118
  clear HB
  have HO117:=n0_
  have HO125:=n1_
  have HO132:=n2_
  have HO135:=n3_
  have BK118:=n4_
  have HB:=n5_
  clear n0_ n1_ n2_ n3_ n4_ n5_
  refine start_ (n:=10) (S:=fun w' => w'.cell? ⟨gb118,0,none⟩ = some (.slice Ao24 t133.length co24)) (ds:=[]) #[false,false,false,false,false,false,false,false,false,false] (by kernel_rfl) rfl rfl ((blk_cell BK118.out 0).trans rfl) (fun hHeld => ?_);refine with_tabW windlasslaw4_known.tab3 windlasslaw4_known.bits3 (fun HT_ HW_ => ?_)
  generalize w26.drew = w27 at HO117 HO125 HO132 HO135 BK118 HB hHeld ⊢
  refine take_ (i:=0) (N:=some 19) (v:=?_) (a':=?_) #[true,false,false,false,false,false,false,false,false,false] rfl rfl (take_ofW HT_.out HW_.out (by kernel_rfl)) (fun _ _ _ h => h) (Or.inl ⟨by rfl,?_⟩) hHeld ?_ ?_
  rotate_left
  ·intro w' s0
   go_simp
   with_reducible rfl
  rotate_left
  ·simp only [Act.put,List.setIfInBounds_toArray,List.set_cons_zero,List.set_cons_succ,i64_w,i32_w]
   rfl
  refine join_ (σ:=Value × Value × Value × Nat) 2 #[true,true,true,true,true,true,true,true,false,false] (fun s_ => [(20, .agg #[.int .i64 t137, .int .i64 t138, .string t139, .int .i64 t140,s_.1]),(21, .agg #[.int .i64 t144, .int .i64 t145, .string t146, .int .i64 t147,s_.2.1]),(22, .tuple #[.agg #[s_.2.2.1], .int .i64 t154]),(3, .pointer (some ⟨s_.2.2.2,0,none⟩)),(18, .tuple #[.agg #[s_.2.2.1], .int .i64 t154]),(23, .agg #[s_.2.2.1]),(24, .int .i64 t154)]) (fun s_ w' => (w'.cell? ⟨gb118,0,none⟩ = some (.slice Ao24 t133.length co24)) ∧ (Kd.N (Kd.slice 82 k82) 41 w' w.heap.size (fun k_ => some k_ ≠ (.slice Ao21 t123.length co21 : Value).ownBlock ∧ some k_ ≠ (.slice Ao22 t130.length co22 : Value).ownBlock ∧ some k_ ≠ (.slice Ao24 t133.length co24 : Value).ownBlock ∧ some k_ ≠ (s_.1 : Value).ownBlock ∧ some k_ ≠ (s_.2.1 : Value).ownBlock ∧ some k_ ≠ (s_.2.2.1 : Value).ownBlock ∧ k_ ≠ gb118 ∧ k_ ≠ s_.2.2.2) (.slice Ao14 y115.length co14) y115) ∧ (Kd.N k35 35 w' w.heap.size (fun k_ => some k_ ≠ (.slice Ao14 y115.length co14 : Value).ownBlock ∧ some k_ ≠ (.slice Ao22 t130.length co22 : Value).ownBlock ∧ some k_ ≠ (.slice Ao24 t133.length co24 : Value).ownBlock ∧ some k_ ≠ (s_.1 : Value).ownBlock ∧ some k_ ≠ (s_.2.1 : Value).ownBlock ∧ some k_ ≠ (s_.2.2.1 : Value).ownBlock ∧ k_ ≠ gb118 ∧ k_ ≠ s_.2.2.2) (.slice Ao21 t123.length co21) t123) ∧ (Kd.N k35 35 w' w.heap.size (fun k_ => some k_ ≠ (.slice Ao14 y115.length co14 : Value).ownBlock ∧ some k_ ≠ (.slice Ao21 t123.length co21 : Value).ownBlock ∧ some k_ ≠ (.slice Ao24 t133.length co24 : Value).ownBlock ∧ some k_ ≠ (s_.1 : Value).ownBlock ∧ some k_ ≠ (s_.2.1 : Value).ownBlock ∧ some k_ ≠ (s_.2.2.1 : Value).ownBlock ∧ k_ ≠ gb118 ∧ k_ ≠ s_.2.2.2) (.slice Ao22 t130.length co22) t130) ∧ (Kd.N (Kd.slice 82 k82) 41 w' w.heap.size (fun k_ => some k_ ≠ (s_.1 : Value).ownBlock ∧ some k_ ≠ (s_.2.1 : Value).ownBlock ∧ some k_ ≠ (s_.2.2.1 : Value).ownBlock ∧ k_ ≠ gb118 ∧ k_ ≠ s_.2.2.2) (.slice Ao24 t133.length co24) t133) ∧ (Kd.N k35 35 w' w.heap.size (fun k_ => some k_ ≠ (.slice Ao14 y115.length co14 : Value).ownBlock ∧ some k_ ≠ (.slice Ao21 t123.length co21 : Value).ownBlock ∧ some k_ ≠ (.slice Ao22 t130.length co22 : Value).ownBlock ∧ some k_ ≠ (.slice Ao24 t133.length co24 : Value).ownBlock ∧ some k_ ≠ (s_.2.1 : Value).ownBlock ∧ some k_ ≠ (s_.2.2.1 : Value).ownBlock ∧ k_ ≠ gb118 ∧ k_ ≠ s_.2.2.2) s_.1 t141) ∧ (Kd.N k35 35 w' w.heap.size (fun k_ => some k_ ≠ (.slice Ao14 y115.length co14 : Value).ownBlock ∧ some k_ ≠ (.slice Ao21 t123.length co21 : Value).ownBlock ∧ some k_ ≠ (.slice Ao22 t130.length co22 : Value).ownBlock ∧ some k_ ≠ (.slice Ao24 t133.length co24 : Value).ownBlock ∧ some k_ ≠ (s_.1 : Value).ownBlock ∧ some k_ ≠ (s_.2.2.1 : Value).ownBlock ∧ k_ ≠ gb118 ∧ k_ ≠ s_.2.2.2) s_.2.1 t148) ∧ (Kd.N (Kd.slice 82 k82) 41 w' w.heap.size (fun k_ => k_ ≠ gb118 ∧ k_ ≠ s_.2.2.2) s_.2.2.1 t151) ∧ (w'.heap[gb118]? = some (.cells #[.slice Ao24 t133.length co24] 27 (0,0))) ∧ (w'.heap[s_.2.2.2]? = some (.cells #[.slice none 0 0] 27 (0,0))) ∧ (w.heap.size ≤ s_.2.2.2) ∧ (w.heap.size ≤ s_.2.2.2) ∧ (gb118 ≠ s_.2.2.2) ∧ (s_.2.2.2 ≠ gb118) ∧ (Below w.heap.size w w')) ?_ ?_
  rotate_left
  ·intro hCont
   refine two_ (i:=1) (j:=7) (Ni:=some 20) (Nj:=some 3) #[true,true,false,false,false,false,false,false,false,false] #[true,false,false,false,false,false,false,true,false,false] rfl rfl rfl rfl (two_of HT_.out (by kernel_rfl)) (by decide) (by decide) (fun K hK => ?_) (fun K hK => ?_)
   ·skip
    refine goes_ Try.func11 (by kernel_rfl) rfl #[.int .i64 1] (by rfl) rfl rfl (by (try simp only [List.map_toArray,List.map_cons,List.map_nil]);first|done|rfl|(simp only [List.length_drop,List.length_take];rfl)|(go_simp;done)|(go_simp;simp;done)) ?_
    with_reducible refine (windlasslaw4_num.calls 1 t137 t138 t139 t140 t141 _ A5.out).mono ?_
    rintro e w28 ⟨v142,rfl,ho0,hb⟩
    refine ⟨_,rfl,?_⟩
    have n0_:=Aside0.mk (Kd.N_elder' (by (with_reducible repeat first|apply nA|apply nN|apply nD);exact HO117.out) (by first|exact Kd.N_base ho0|exact Kd.R_base ho0) hb)
    have n1_:=Aside0.mk (Kd.N_elder' (by (with_reducible repeat first|apply nA|apply nN|apply nD);exact HO125.out) (by first|exact Kd.N_base ho0|exact Kd.R_base ho0) hb)
    have n2_:=Aside0.mk (Kd.N_elder' (by (with_reducible repeat first|apply nA|apply nN|apply nD);exact HO132.out) (by first|exact Kd.N_base ho0|exact Kd.R_base ho0) hb)
    have n3_:=Aside0.mk (Kd.N_elder' (by (with_reducible repeat first|apply nA|apply nN|apply nD);exact HO135.out) (by first|exact Kd.N_base ho0|exact Kd.R_base ho0) hb)
    have n4_:=Aside0.mk (Kd.N_lower (Kd.N_mono (ok':=fun k_ => some k_ ≠ (.slice Ao14 y115.length co14 : Value).ownBlock ∧ some k_ ≠ (.slice Ao21 t123.length co21 : Value).ownBlock ∧ some k_ ≠ (.slice Ao22 t130.length co22 : Value).ownBlock ∧ some k_ ≠ (.slice Ao24 t133.length co24 : Value).ownBlock ∧ k_ ≠ gb118) (Kd.R_N (Kd.R_bound ho0)) (fun k_ hk_ => ⟨(Kd.fresh' (Kd.N_lt (by (with_reducible repeat first|apply nA|apply nN|apply nD);exact HO117.out)) k_ hk_.2.1),(Kd.fresh' (Kd.N_lt (by (with_reducible repeat first|apply nA|apply nN|apply nD);exact HO125.out)) k_ hk_.2.1),(Kd.fresh' (Kd.N_lt (by (with_reducible repeat first|apply nA|apply nN|apply nD);exact HO132.out)) k_ hk_.2.1),(Kd.fresh' (Kd.N_lt (by (with_reducible repeat first|apply nA|apply nN|apply nD);exact HO135.out)) k_ hk_.2.1),(Kd.freshB (g:=gb118) (o := .cells #[.slice Ao24 t133.length co24] 27 (0,0)) (by (with_reducible repeat first|refine bN ?_ _|refine bD ?_|refine bA ?_ _);exact BK118.out) k_ hk_.2.1)⟩)) (below_size (by repeat (first|(with_reducible first|exact HB.out|apply below_alloc|apply pw_below_drewN|apply below_drew1|refine below_set ?_ GE118.out)|exact HB.out))))
    have n5_:=Aside0.mk (blk_below (g:=gb118) (o := .cells #[.slice Ao24 t133.length co24] 27 (0,0)) (by (with_reducible repeat first|refine bN ?_ _|refine bD ?_|refine bA ?_ _);exact BK118.out) hb)
    have n6_:=Aside0.mk (below_step (by repeat (first|(with_reducible first|exact HB.out|apply below_alloc|apply pw_below_drewN|apply below_drew1|refine below_set ?_ GE118.out)|exact HB.out)) hb)
    clear HO117
    clear HO125
    clear HO132
    clear HO135
    clear BK118
    clear HB
    have HO117:=n0_
    have HO125:=n1_
    have HO132:=n2_
    have HO135:=n3_
    have HO143:=n4_
    have BK118:=n5_
    have HB:=n6_
    clear n0_ n1_ n2_ n3_ n4_ n5_ n6_
    (try clear hb)
    (try clear hb2)
    (try clear hk)
    (try clear hi)
    (try clear ho0)
    refine hK.out _ _ ((blk_cell BK118.out 0).trans rfl) (fun hHeld => ?_)
    clear hK K
    refine norm_ (a':=?_) ?_ ?_
    rotate_left
    ·show Act.put _ (some 20) _ = _
     simp only [Act.put,List.setIfInBounds_toArray,List.set_cons_zero,List.set_cons_succ,i64_w,i32_w]
     rfl
    refine two_ (i:=2) (j:=7) (Ni:=some 21) (Nj:=some 3) #[true,true,true,false,false,false,false,false,false,false] #[true,true,false,false,false,false,false,true,false,false] rfl rfl rfl rfl (two_of HT_.out (by kernel_rfl)) (by decide) (by decide) (fun K hK => ?_) (fun K hK => ?_)
    ·skip
     refine goes_ Try.func11 (by kernel_rfl) rfl #[.int .i64 6] (by rfl) rfl rfl (by (try simp only [List.map_toArray,List.map_cons,List.map_nil]);first|done|rfl|(simp only [List.length_drop,List.length_take];rfl)|(go_simp;done)|(go_simp;simp;done)) ?_
     with_reducible refine (windlasslaw4_num.calls 6 t144 t145 t146 t147 t148 _ A6.out).mono ?_
     rintro e w29 ⟨v149,rfl,ho0,hb⟩
     refine ⟨_,rfl,?_⟩
     have n0_:=Aside0.mk (Kd.N_elder' (by (with_reducible repeat first|apply nA|apply nN|apply nD);exact HO117.out) (by first|exact Kd.N_base ho0|exact Kd.R_base ho0) hb)
     have n1_:=Aside0.mk (Kd.N_elder' (by (with_reducible repeat first|apply nA|apply nN|apply nD);exact HO125.out) (by first|exact Kd.N_base ho0|exact Kd.R_base ho0) hb)
     have n2_:=Aside0.mk (Kd.N_elder' (by (with_reducible repeat first|apply nA|apply nN|apply nD);exact HO132.out) (by first|exact Kd.N_base ho0|exact Kd.R_base ho0) hb)
     have n3_:=Aside0.mk (Kd.N_elder' (by (with_reducible repeat first|apply nA|apply nN|apply nD);exact HO135.out) (by first|exact Kd.N_base ho0|exact Kd.R_base ho0) hb)
     have n4_:=Aside0.mk (Kd.N_elder' (by (with_reducible repeat first|apply nA|apply nN|apply nD);exact HO143.out) (by first|exact Kd.N_base ho0|exact Kd.R_base ho0) hb)
     have n5_:=Aside0.mk (Kd.N_lower (Kd.N_mono (ok':=fun k_ => some k_ ≠ (.slice Ao14 y115.length co14 : Value).ownBlock ∧ some k_ ≠ (.slice Ao21 t123.length co21 : Value).ownBlock ∧ some k_ ≠ (.slice Ao22 t130.length co22 : Value).ownBlock ∧ some k_ ≠ (.slice Ao24 t133.length co24 : Value).ownBlock ∧ some k_ ≠ (v142 : Value).ownBlock ∧ k_ ≠ gb118) (Kd.R_N (Kd.R_bound ho0)) (fun k_ hk_ => ⟨(Kd.fresh' (Kd.N_lt (by (with_reducible repeat first|apply nA|apply nN|apply nD);exact HO117.out)) k_ hk_.2.1),(Kd.fresh' (Kd.N_lt (by (with_reducible repeat first|apply nA|apply nN|apply nD);exact HO125.out)) k_ hk_.2.1),(Kd.fresh' (Kd.N_lt (by (with_reducible repeat first|apply nA|apply nN|apply nD);exact HO132.out)) k_ hk_.2.1),(Kd.fresh' (Kd.N_lt (by (with_reducible repeat first|apply nA|apply nN|apply nD);exact HO135.out)) k_ hk_.2.1),(Kd.fresh' (Kd.N_lt (by (with_reducible repeat first|apply nA|apply nN|apply nD);exact HO143.out)) k_ hk_.2.1),(Kd.freshB (g:=gb118) (o := .cells #[.slice Ao24 t133.length co24] 27 (0,0)) (by (with_reducible repeat first|refine bN ?_ _|refine bD ?_|refine bA ?_ _);exact BK118.out) k_ hk_.2.1)⟩)) (below_size (by repeat (first|(with_reducible first|exact HB.out|apply below_alloc|apply pw_below_drewN|apply below_drew1|refine below_set ?_ GE118.out)|exact HB.out))))
     have n6_:=Aside0.mk (blk_below (g:=gb118) (o := .cells #[.slice Ao24 t133.length co24] 27 (0,0)) (by (with_reducible repeat first|refine bN ?_ _|refine bD ?_|refine bA ?_ _);exact BK118.out) hb)
     have n7_:=Aside0.mk (below_step (by repeat (first|(with_reducible first|exact HB.out|apply below_alloc|apply pw_below_drewN|apply below_drew1|refine below_set ?_ GE118.out)|exact HB.out)) hb)
     clear HO117
     clear HO125
     clear HO132
     clear HO135
     clear HO143
     clear BK118
     clear HB
     have HO117:=n0_
     have HO125:=n1_
     have HO132:=n2_
     have HO135:=n3_
     have HO143:=n4_
     have HO150:=n5_
     have BK118:=n6_
     have HB:=n7_
     clear n0_ n1_ n2_ n3_ n4_ n5_ n6_ n7_
     (try clear hb)
     (try clear hb2)
     (try clear hk)
     (try clear hi)
     (try clear ho0)
     obtain ⟨Ao30,co30,eo30⟩:=Kd.N_slice HO143.out
     (first|subst eo30|(injection eo30 with f1_ f2_ f3_;have f4_:=f1_.symm;have f5_:=f3_.symm;clear f1_ f2_ f3_;subst f4_;subst f5_))
     obtain ⟨Ao31,co31,eo31⟩:=Kd.N_slice HO150.out
     (first|subst eo31|(injection eo31 with f1_ f2_ f3_;have f4_:=f1_.symm;have f5_:=f3_.symm;clear f1_ f2_ f3_;subst f4_;subst f5_))
     refine hK.out _ _ ((blk_cell BK118.out 0).trans rfl) (fun hHeld => ?_)
     clear hK K
     refine norm_ (a':=?_) ?_ ?_
     rotate_left
     ·show Act.put _ (some 21) _ = _
      simp only [Act.put,List.setIfInBounds_toArray,List.set_cons_zero,List.set_cons_succ,i64_w,i32_w]
      rfl
     refine two_ (i:=3) (j:=7) (Ni:=some 22) (Nj:=some 3) #[true,true,true,true,false,false,false,false,false,false] #[true,true,true,false,false,false,false,true,false,false] rfl rfl rfl rfl (two_of HT_.out (by kernel_rfl)) (by decide) (by decide) (fun K hK => ?_) (fun K hK => ?_)
     ·skip
      refine goes_ Try.func10 (by kernel_rfl) rfl #[.agg #[.slice Ao24 t133.length co24], .int .i64 0, .agg #[.int .i64 t137, .int .i64 t138, .string t139, .int .i64 t140, .slice Ao30 t141.length co30], .agg #[.int .i64 t144, .int .i64 t145, .string t146, .int .i64 t147, .slice Ao31 t148.length co31]] (by rfl) rfl rfl (by (try simp only [List.map_toArray,List.map_cons,List.map_nil]);first|done|rfl|(simp only [List.length_drop,List.length_take];rfl)|(go_simp;done)|(go_simp;simp;done)) ?_
      with_reducible refine (heap_Put.calls k (fun k_ => ((k_ ≠ gb118 ∧ some k_ ≠ (.slice Ao30 t141.length co30 : Value).ownBlock) ∧ some k_ ≠ (.slice Ao31 t148.length co31 : Value).ownBlock)) _ _ t133 0 t137 t138 t139 t140 (fun k_ => ((some k_ ≠ (.slice Ao14 y115.length co14 : Value).ownBlock ∧ (some k_ ≠ (.slice Ao21 t123.length co21 : Value).ownBlock ∧ (some k_ ≠ (.slice Ao22 t130.length co22 : Value).ownBlock ∧ (some k_ ≠ (.slice Ao24 t133.length co24 : Value).ownBlock ∧ k_ ≠ gb118)))) ∧ some k_ ≠ (.slice Ao31 t148.length co31 : Value).ownBlock)) _ _ t141 t144 t145 t146 t147 (fun k_ => (some k_ ≠ (.slice Ao14 y115.length co14 : Value).ownBlock ∧ (some k_ ≠ (.slice Ao21 t123.length co21 : Value).ownBlock ∧ (some k_ ≠ (.slice Ao22 t130.length co22 : Value).ownBlock ∧ (some k_ ≠ (.slice Ao24 t133.length co24 : Value).ownBlock ∧ (some k_ ≠ (.slice Ao30 t141.length co30 : Value).ownBlock ∧ k_ ≠ gb118)))))) _ _ t148 t151 t154 _ ?side1 ?side2 ?side3 A7.out).mono ?_
      (case side1 => exact Kd.N_V (HO135.out))
      (case side2 => exact Kd.N_V (HO143.out))
      (case side3 => exact Kd.N_V (HO150.out))
      rintro e w32 ⟨v152,rfl,ho0,hb⟩
      refine ⟨_,rfl,?_⟩
      have n0_:=Aside0.mk (Kd.N_elder' (by (with_reducible repeat first|apply nA|apply nN|apply nD);exact HO117.out) (by first|exact Kd.N_base ho0|exact Kd.R_base ho0) hb)
      have n1_:=Aside0.mk (Kd.N_elder' (by (with_reducible repeat first|apply nA|apply nN|apply nD);exact HO125.out) (by first|exact Kd.N_base ho0|exact Kd.R_base ho0) hb)
      have n2_:=Aside0.mk (Kd.N_elder' (by (with_reducible repeat first|apply nA|apply nN|apply nD);exact HO132.out) (by first|exact Kd.N_base ho0|exact Kd.R_base ho0) hb)
      have n3_:=Aside0.mk (Kd.N_elder' (by (with_reducible repeat first|apply nA|apply nN|apply nD);exact HO135.out) (by first|exact Kd.N_base ho0|exact Kd.R_base ho0) hb)
      have n4_:=Aside0.mk (Kd.N_elder' (by (with_reducible repeat first|apply nA|apply nN|apply nD);exact HO143.out) (by first|exact Kd.N_base ho0|exact Kd.R_base ho0) hb)
      have n5_:=Aside0.mk (Kd.N_elder' (by (with_reducible repeat first|apply nA|apply nN|apply nD);exact HO150.out) (by first|exact Kd.N_base ho0|exact Kd.R_base ho0) hb)
      have n6_:=Aside0.mk (Kd.N_lower (Kd.N_mono (ok':=fun k_ => k_ ≠ gb118) ho0 (fun k_ hk_ => Or.elim hk_ (fun hs_ => Or.elim hs_ (fun hs_ => hs_.1.1) (fun hs_ => Or.elim hs_ (fun hs_ => hs_.1.2.2.2.2) (fun hs_ => hs_.2.2.2.2.2))) (fun hn_ => (Kd.freshB (g:=gb118) (o := .cells #[.slice Ao24 t133.length co24] 27 (0,0)) (by (with_reducible repeat first|refine bN ?_ _|refine bD ?_|refine bA ?_ _);exact BK118.out) k_ hn_)))) (below_size (by repeat (first|(with_reducible first|exact HB.out|apply below_alloc|apply pw_below_drewN|apply below_drew1|refine below_set ?_ GE118.out)|exact HB.out))))
      have n7_:=Aside0.mk (blk_below (g:=gb118) (o := .cells #[.slice Ao24 t133.length co24] 27 (0,0)) (by (with_reducible repeat first|refine bN ?_ _|refine bD ?_|refine bA ?_ _);exact BK118.out) hb)
      have n8_:=Aside0.mk (below_step (by repeat (first|(with_reducible first|exact HB.out|apply below_alloc|apply pw_below_drewN|apply below_drew1|refine below_set ?_ GE118.out)|exact HB.out)) hb)
      clear HO117
      clear HO125
      clear HO132
      clear HO135
      clear HO143
      clear HO150
      clear BK118
      clear HB
      have HO117:=n0_
      have HO125:=n1_
      have HO132:=n2_
      have HO135:=n3_
      have HO143:=n4_
      have HO150:=n5_
      have HO153:=n6_
      have BK118:=n7_
      have HB:=n8_
      clear n0_ n1_ n2_ n3_ n4_ n5_ n6_ n7_ n8_
      (try clear hb)
      (try clear hb2)
      (try clear hk)
      (try clear hi)
      (try clear ho0)
      refine hK.out _ _ ((blk_cell BK118.out 0).trans rfl) (fun hHeld => ?_)
      clear hK K
      refine norm_ (a':=?_) ?_ ?_
      rotate_left
      ·show Act.put _ (some 22) _ = _
       simp only [Act.put,List.setIfInBounds_toArray,List.set_cons_zero,List.set_cons_succ,i64_w,i32_w]
       rfl
      refine pure_ (i:=4) (N:=some 18) (v:=?_) (a':=?_) #[true,true,true,true,true,false,false,false,false,false] rfl rfl (any_of HT_.out (by kernel_rfl)) (fun _ _ _ h => h) (Or.inl ⟨by rfl,?_⟩) ?_ ?_
      rotate_left
      ·intro w'
       go_simp
       with_reducible rfl
      rotate_left
      ·simp only [Act.put,List.setIfInBounds_toArray,List.set_cons_zero,List.set_cons_succ,i64_w,i32_w]
       rfl
      refine pure_ (i:=5) (N:=some 23) (v:=?_) (a':=?_) #[true,true,true,true,true,true,false,false,false,false] rfl rfl (any_of HT_.out (by kernel_rfl)) (fun _ _ _ h => h) (Or.inl ⟨by rfl,?_⟩) ?_ ?_
      rotate_left
      ·intro w'
       go_simp
       with_reducible rfl
      rotate_left
      ·simp only [Act.put,List.setIfInBounds_toArray,List.set_cons_zero,List.set_cons_succ,i64_w,i32_w]
       rfl
      refine pure_ (i:=6) (N:=some 24) (v:=?_) (a':=?_) #[true,true,true,true,true,true,true,false,false,false] rfl rfl (any_of HT_.out (by kernel_rfl)) (fun _ _ _ h => h) (Or.inl ⟨by rfl,?_⟩) ?_ ?_
      rotate_left
      ·intro w'
       go_simp
       with_reducible rfl
      rotate_left
      ·simp only [Act.put,List.setIfInBounds_toArray,List.set_cons_zero,List.set_cons_succ,i64_w,i32_w]
       rfl
      refine one_ (i:=7) (N:=some 3) #[true,true,true,true,true,true,true,true,false,false] rfl rfl (one_of HT_.out (by kernel_rfl)) (by decide) (fun K hK => ?_)
      refine box_step ?hg (N:=3) ?hd (cs:=#[.slice none 0 0]) (t:=27) ?hr ?_;(case hd => rfl);(case hg => rfl);(case hr => first|(go_simp;done)|(go_simp;rfl))
      intro gb155 hg w33 hbox hb
      have n0_:=Aside0.mk (Kd.N_below (Kd.N_elderB (by (with_reducible repeat first|apply nA|apply nN|apply nD);exact HO117.out) gb155 (Nat.le_of_eq hg.symm)) hb)
      have n1_:=Aside0.mk (Kd.N_below (Kd.N_elderB (by (with_reducible repeat first|apply nA|apply nN|apply nD);exact HO125.out) gb155 (Nat.le_of_eq hg.symm)) hb)
      have n2_:=Aside0.mk (Kd.N_below (Kd.N_elderB (by (with_reducible repeat first|apply nA|apply nN|apply nD);exact HO132.out) gb155 (Nat.le_of_eq hg.symm)) hb)
      have n3_:=Aside0.mk (Kd.N_below (Kd.N_elderB (by (with_reducible repeat first|apply nA|apply nN|apply nD);exact HO135.out) gb155 (Nat.le_of_eq hg.symm)) hb)
      have n4_:=Aside0.mk (Kd.N_below (Kd.N_elderB (by (with_reducible repeat first|apply nA|apply nN|apply nD);exact HO143.out) gb155 (Nat.le_of_eq hg.symm)) hb)
      have n5_:=Aside0.mk (Kd.N_below (Kd.N_elderB (by (with_reducible repeat first|apply nA|apply nN|apply nD);exact HO150.out) gb155 (Nat.le_of_eq hg.symm)) hb)
      have n6_:=Aside0.mk (Kd.N_below (Kd.N_elderB (by (with_reducible repeat first|apply nA|apply nN|apply nD);exact HO153.out) gb155 (Nat.le_of_eq hg.symm)) hb)
      have n7_:=Aside0.mk (blk_below (g:=gb118) (o := .cells #[.slice Ao24 t133.length co24] 27 (0,0)) (by (with_reducible repeat first|refine bN ?_ _|refine bD ?_|refine bA ?_ _);exact BK118.out) hb)
      have n8_:=Aside0.mk (below_step (by repeat (first|(with_reducible first|exact HB.out|apply below_alloc|apply pw_below_drewN|apply below_drew1|refine below_set ?_ GE118.out)|exact HB.out)) hb)
      have n9_:=Aside0.mk (hbox)
      have n10_:=Aside0.mk ((by rw [hg];exact (below_size (by repeat (first|(with_reducible first|exact HB.out|apply below_alloc|apply pw_below_drewN|apply below_drew1|refine below_set ?_ GE118.out)|exact HB.out))) : w.heap.size ≤ gb155))
      have n11_:=Aside0.mk ((by rw [hg];exact (below_size (by repeat (first|(with_reducible first|exact HB.out|apply below_alloc|apply pw_below_drewN|apply below_drew1|refine below_set ?_ GE118.out)|exact HB.out))) : w.heap.size ≤ gb155))
      have n12_:=Aside0.mk ((by rw [hg];exact Nat.ne_of_lt (blk_lt (g:=gb118) (o := .cells #[.slice Ao24 t133.length co24] 27 (0,0)) (by (with_reducible repeat first|refine bN ?_ _|refine bD ?_|refine bA ?_ _);exact BK118.out)) : gb118 ≠ gb155))
      have n13_:=Aside0.mk ((by rw [hg];exact Nat.ne_of_gt (blk_lt (g:=gb118) (o := .cells #[.slice Ao24 t133.length co24] 27 (0,0)) (by (with_reducible repeat first|refine bN ?_ _|refine bD ?_|refine bA ?_ _);exact BK118.out)) : gb155 ≠ gb118))
      clear HO117
      clear HO125
      clear HO132
      clear HO135
      clear HO143
      clear HO150
      clear HO153
      clear BK118
      clear HB
      have HO117:=n0_
      have HO125:=n1_
      have HO132:=n2_
      have HO135:=n3_
      have HO143:=n4_
      have HO150:=n5_
      have HO153:=n6_
      have BK118:=n7_
      have HB:=n8_
      have BK155:=n9_
      have GW155:=n10_
      have GE155:=n11_
      have NB118_155:=n12_
      have NB155_118:=n13_
      clear n0_ n1_ n2_ n3_ n4_ n5_ n6_ n7_ n8_ n9_ n10_ n11_ n12_ n13_
      clear hb hbox hg
      refine hK.out _ _ ((blk_cell BK118.out 0).trans rfl) (fun hHeld => ?_)
      clear hK K
      refine norm_ (a':=?_) ?_ ?_
      rotate_left
      ·show Act.put _ (some 3) _ = _
       simp only [Act.put,List.setIfInBounds_toArray,List.set_cons_zero,List.set_cons_succ,i64_w,i32_w]
       rfl
      exact norm_ (by simp only [putAll,Act.put,List.setIfInBounds_toArray,List.set_cons_zero,List.set_cons_succ]) (hCont (.slice Ao30 t141.length co30, .slice Ao31 t148.length co31,v152,gb155) _ ⟨hHeld,(by (with_reducible repeat first|apply nA|apply nN|apply nD);exact Kd.N_mono HO117.out (fun _ hk => ⟨hk.1.1.1.1.1,⟨hk.1.1.1.1.2.1,⟨hk.1.1.1.1.2.2.1,⟨hk.1.1.1.2,⟨hk.1.1.2,⟨hk.1.2,⟨hk.1.1.1.1.2.2.2,hk.2⟩⟩⟩⟩⟩⟩⟩)),(by (with_reducible repeat first|apply nA|apply nN|apply nD);exact Kd.N_mono HO125.out (fun _ hk => ⟨hk.1.1.1.1.1,⟨hk.1.1.1.1.2.1,⟨hk.1.1.1.1.2.2.1,⟨hk.1.1.1.2,⟨hk.1.1.2,⟨hk.1.2,⟨hk.1.1.1.1.2.2.2,hk.2⟩⟩⟩⟩⟩⟩⟩)),(by (with_reducible repeat first|apply nA|apply nN|apply nD);exact Kd.N_mono HO132.out (fun _ hk => ⟨hk.1.1.1.1.1,⟨hk.1.1.1.1.2.1,⟨hk.1.1.1.1.2.2.1,⟨hk.1.1.1.2,⟨hk.1.1.2,⟨hk.1.2,⟨hk.1.1.1.1.2.2.2,hk.2⟩⟩⟩⟩⟩⟩⟩)),(by (with_reducible repeat first|apply nA|apply nN|apply nD);exact Kd.N_mono HO135.out (fun _ hk => ⟨hk.1.1.1.2,⟨hk.1.1.2,⟨hk.1.2,⟨hk.1.1.1.1,hk.2⟩⟩⟩⟩)),(by (with_reducible repeat first|apply nA|apply nN|apply nD);exact Kd.N_mono HO143.out (fun _ hk => ⟨hk.1.1.1.1,⟨hk.1.1.1.2.1,⟨hk.1.1.1.2.2.1,⟨hk.1.1.1.2.2.2.1,⟨hk.1.1.2,⟨hk.1.2,⟨hk.1.1.1.2.2.2.2,hk.2⟩⟩⟩⟩⟩⟩⟩)),(by (with_reducible repeat first|apply nA|apply nN|apply nD);exact Kd.N_mono HO150.out (fun _ hk => ⟨hk.1.1.1,⟨hk.1.1.2.1,⟨hk.1.1.2.2.1,⟨hk.1.1.2.2.2.1,⟨hk.1.1.2.2.2.2.1,⟨hk.1.2,⟨hk.1.1.2.2.2.2.2,hk.2⟩⟩⟩⟩⟩⟩⟩)),(by (with_reducible repeat first|apply nA|apply nN|apply nD);exact HO153.out),(by (with_reducible repeat first|refine bN ?_ _|refine bD ?_|refine bA ?_ _);exact BK118.out),(by (with_reducible repeat first|refine bN ?_ _|refine bD ?_|refine bA ?_ _);exact BK155.out),GW155.out,GE155.out,NB118_155.out,NB155_118.out,(by repeat (first|(with_reducible first|exact HB.out|apply below_alloc|apply pw_below_drewN|apply below_drew1|refine below_set ?_ GE118.out|refine below_set ?_ GE155.out)|exact HB.out))⟩)
     ·skip
      refine box_step ?hg (N:=3) ?hd (cs:=#[.slice none 0 0]) (t:=27) ?hr ?_;(case hd => rfl);(case hg => rfl);(case hr => first|(go_simp;done)|(go_simp;rfl))
      intro gb155 hg w30 hbox hb
      have n0_:=Aside0.mk (Kd.N_below (Kd.N_elderB (by (with_reducible repeat first|apply nA|apply nN|apply nD);exact HO117.out) gb155 (Nat.le_of_eq hg.symm)) hb)
      have n1_:=Aside0.mk (Kd.N_below (Kd.N_elderB (by (with_reducible repeat first|apply nA|apply nN|apply nD);exact HO125.out) gb155 (Nat.le_of_eq hg.symm)) hb)
      have n2_:=Aside0.mk (Kd.N_below (Kd.N_elderB (by (with_reducible repeat first|apply nA|apply nN|apply nD);exact HO132.out) gb155 (Nat.le_of_eq hg.symm)) hb)
      have n3_:=Aside0.mk (Kd.N_below (Kd.N_elderB (by (with_reducible repeat first|apply nA|apply nN|apply nD);exact HO135.out) gb155 (Nat.le_of_eq hg.symm)) hb)
      have n4_:=Aside0.mk (Kd.N_below (Kd.N_elderB (by (with_reducible repeat first|apply nA|apply nN|apply nD);exact HO143.out) gb155 (Nat.le_of_eq hg.symm)) hb)
      have n5_:=Aside0.mk (Kd.N_below (Kd.N_elderB (by (with_reducible repeat first|apply nA|apply nN|apply nD);exact HO150.out) gb155 (Nat.le_of_eq hg.symm)) hb)
      have n6_:=Aside0.mk (blk_below (g:=gb118) (o := .cells #[.slice Ao24 t133.length co24] 27 (0,0)) (by (with_reducible repeat first|refine bN ?_ _|refine bD ?_|refine bA ?_ _);exact BK118.out) hb)
      have n7_:=Aside0.mk (below_step (by repeat (first|(with_reducible first|exact HB.out|apply below_alloc|apply pw_below_drewN|apply below_drew1|refine below_set ?_ GE118.out)|exact HB.out)) hb)
      have n8_:=Aside0.mk (hbox)
      have n9_:=Aside0.mk ((by rw [hg];exact (below_size (by repeat (first|(with_reducible first|exact HB.out|apply below_alloc|apply pw_below_drewN|apply below_drew1|refine below_set ?_ GE118.out)|exact HB.out))) : w.heap.size ≤ gb155))
      have n10_:=Aside0.mk ((by rw [hg];exact (below_size (by repeat (first|(with_reducible first|exact HB.out|apply below_alloc|apply pw_below_drewN|apply below_drew1|refine below_set ?_ GE118.out)|exact HB.out))) : w.heap.size ≤ gb155))
      have n11_:=Aside0.mk ((by rw [hg];exact Nat.ne_of_lt (blk_lt (g:=gb118) (o := .cells #[.slice Ao24 t133.length co24] 27 (0,0)) (by (with_reducible repeat first|refine bN ?_ _|refine bD ?_|refine bA ?_ _);exact BK118.out)) : gb118 ≠ gb155))
      have n12_:=Aside0.mk ((by rw [hg];exact Nat.ne_of_gt (blk_lt (g:=gb118) (o := .cells #[.slice Ao24 t133.length co24] 27 (0,0)) (by (with_reducible repeat first|refine bN ?_ _|refine bD ?_|refine bA ?_ _);exact BK118.out)) : gb155 ≠ gb118))
      clear HO117
      clear HO125
      clear HO132
      clear HO135
      clear HO143
      clear HO150
      clear BK118
      clear HB
      have HO117:=n0_
      have HO125:=n1_
      have HO132:=n2_
      have HO135:=n3_
      have HO143:=n4_
      have HO150:=n5_
      have BK118:=n6_
      have HB:=n7_
      have BK155:=n8_
      have GW155:=n9_
      have GE155:=n10_
      have NB118_155:=n11_
      have NB155_118:=n12_
      clear n0_ n1_ n2_ n3_ n4_ n5_ n6_ n7_ n8_ n9_ n10_ n11_ n12_
      clear hb hbox hg
      obtain ⟨Ao31,co31,eo31⟩:=Kd.N_slice HO143.out
      (first|subst eo31|(injection eo31 with f1_ f2_ f3_;have f4_:=f1_.symm;have f5_:=f3_.symm;clear f1_ f2_ f3_;subst f4_;subst f5_))
      obtain ⟨Ao32,co32,eo32⟩:=Kd.N_slice HO150.out
      (first|subst eo32|(injection eo32 with f1_ f2_ f3_;have f4_:=f1_.symm;have f5_:=f3_.symm;clear f1_ f2_ f3_;subst f4_;subst f5_))
      refine hK.out _ _ ((blk_cell BK118.out 0).trans rfl) (fun hHeld => ?_)
      clear hK K
      refine norm_ (a':=?_) ?_ ?_
      rotate_left
      ·show Act.put _ (some 3) _ = _
       simp only [Act.put,List.setIfInBounds_toArray,List.set_cons_zero,List.set_cons_succ,i64_w,i32_w]
       rfl
      refine one_ (i:=3) (N:=some 22) #[true,true,true,true,false,false,false,true,false,false] rfl rfl (one_of HT_.out (by kernel_rfl)) (by decide) (fun K hK => ?_)
      refine goes_ Try.func10 (by kernel_rfl) rfl #[.agg #[.slice Ao24 t133.length co24], .int .i64 0, .agg #[.int .i64 t137, .int .i64 t138, .string t139, .int .i64 t140, .slice Ao31 t141.length co31], .agg #[.int .i64 t144, .int .i64 t145, .string t146, .int .i64 t147, .slice Ao32 t148.length co32]] (by rfl) rfl rfl (by (try simp only [List.map_toArray,List.map_cons,List.map_nil]);first|done|rfl|(simp only [List.length_drop,List.length_take];rfl)|(go_simp;done)|(go_simp;simp;done)) ?_
      with_reducible refine (heap_Put.calls k (fun k_ => (((k_ ≠ gb118 ∧ some k_ ≠ (.slice Ao31 t141.length co31 : Value).ownBlock) ∧ some k_ ≠ (.slice Ao32 t148.length co32 : Value).ownBlock) ∧ k_ ≠ gb155)) _ _ t133 0 t137 t138 t139 t140 (fun k_ => (((some k_ ≠ (.slice Ao14 y115.length co14 : Value).ownBlock ∧ (some k_ ≠ (.slice Ao21 t123.length co21 : Value).ownBlock ∧ (some k_ ≠ (.slice Ao22 t130.length co22 : Value).ownBlock ∧ (some k_ ≠ (.slice Ao24 t133.length co24 : Value).ownBlock ∧ k_ ≠ gb118)))) ∧ some k_ ≠ (.slice Ao32 t148.length co32 : Value).ownBlock) ∧ k_ ≠ gb155)) _ _ t141 t144 t145 t146 t147 (fun k_ => ((some k_ ≠ (.slice Ao14 y115.length co14 : Value).ownBlock ∧ (some k_ ≠ (.slice Ao21 t123.length co21 : Value).ownBlock ∧ (some k_ ≠ (.slice Ao22 t130.length co22 : Value).ownBlock ∧ (some k_ ≠ (.slice Ao24 t133.length co24 : Value).ownBlock ∧ (some k_ ≠ (.slice Ao31 t141.length co31 : Value).ownBlock ∧ k_ ≠ gb118))))) ∧ k_ ≠ gb155)) _ _ t148 t151 t154 _ ?side1 ?side2 ?side3 A7.out).mono ?_
      (case side1 => exact Kd.N_V (HO135.out))
      (case side2 => exact Kd.N_V (HO143.out))
      (case side3 => exact Kd.N_V (HO150.out))
      rintro e w33 ⟨v152,rfl,ho0,hb⟩
      refine ⟨_,rfl,?_⟩
      have n0_:=Aside0.mk (Kd.N_elder' (by (with_reducible repeat first|apply nA|apply nN|apply nD);exact HO117.out) (by first|exact Kd.N_base ho0|exact Kd.R_base ho0) hb)
      have n1_:=Aside0.mk (Kd.N_elder' (by (with_reducible repeat first|apply nA|apply nN|apply nD);exact HO125.out) (by first|exact Kd.N_base ho0|exact Kd.R_base ho0) hb)
      have n2_:=Aside0.mk (Kd.N_elder' (by (with_reducible repeat first|apply nA|apply nN|apply nD);exact HO132.out) (by first|exact Kd.N_base ho0|exact Kd.R_base ho0) hb)
      have n3_:=Aside0.mk (Kd.N_elder' (by (with_reducible repeat first|apply nA|apply nN|apply nD);exact HO135.out) (by first|exact Kd.N_base ho0|exact Kd.R_base ho0) hb)
      have n4_:=Aside0.mk (Kd.N_elder' (by (with_reducible repeat first|apply nA|apply nN|apply nD);exact HO143.out) (by first|exact Kd.N_base ho0|exact Kd.R_base ho0) hb)
      have n5_:=Aside0.mk (Kd.N_elder' (by (with_reducible repeat first|apply nA|apply nN|apply nD);exact HO150.out) (by first|exact Kd.N_base ho0|exact Kd.R_base ho0) hb)
      have n6_:=Aside0.mk (Kd.N_lower (Kd.N_mono (ok':=fun k_ => k_ ≠ gb118 ∧ k_ ≠ gb155) ho0 (fun k_ hk_ => ⟨Or.elim hk_ (fun hs_ => Or.elim hs_ (fun hs_ => hs_.1.1.1) (fun hs_ => Or.elim hs_ (fun hs_ => hs_.1.1.2.2.2.2) (fun hs_ => hs_.1.2.2.2.2.2))) (fun hn_ => (Kd.freshB (g:=gb118) (o := .cells #[.slice Ao24 t133.length co24] 27 (0,0)) (by (with_reducible repeat first|refine bN ?_ _|refine bD ?_|refine bA ?_ _);exact BK118.out) k_ hn_)),Or.elim hk_ (fun hs_ => Or.elim hs_ (fun hs_ => hs_.2) (fun hs_ => Or.elim hs_ (fun hs_ => hs_.2) (fun hs_ => hs_.2))) (fun hn_ => (Kd.freshB (g:=gb155) (o := .cells #[.slice none 0 0] 27 (0,0)) (by (with_reducible repeat first|refine bN ?_ _|refine bD ?_|refine bA ?_ _);exact BK155.out) k_ hn_))⟩)) (below_size (by repeat (first|(with_reducible first|exact HB.out|apply below_alloc|apply pw_below_drewN|apply below_drew1|refine below_set ?_ GE118.out|refine below_set ?_ GE155.out)|exact HB.out))))
      have n7_:=Aside0.mk (blk_below (g:=gb118) (o := .cells #[.slice Ao24 t133.length co24] 27 (0,0)) (by (with_reducible repeat first|refine bN ?_ _|refine bD ?_|refine bA ?_ _);exact BK118.out) hb)
      have n8_:=Aside0.mk (blk_below (g:=gb155) (o := .cells #[.slice none 0 0] 27 (0,0)) (by (with_reducible repeat first|refine bN ?_ _|refine bD ?_|refine bA ?_ _);exact BK155.out) hb)
      have n9_:=Aside0.mk (below_step (by repeat (first|(with_reducible first|exact HB.out|apply below_alloc|apply pw_below_drewN|apply below_drew1|refine below_set ?_ GE118.out|refine below_set ?_ GE155.out)|exact HB.out)) hb)
      clear HO117
      clear HO125
      clear HO132
      clear HO135
      clear HO143
      clear HO150
      clear BK118
      clear BK155
      clear HB
      have HO117:=n0_
      have HO125:=n1_
      have HO132:=n2_
      have HO135:=n3_
      have HO143:=n4_
      have HO150:=n5_
      have HO153:=n6_
      have BK118:=n7_
      have BK155:=n8_
      have HB:=n9_
      clear n0_ n1_ n2_ n3_ n4_ n5_ n6_ n7_ n8_ n9_
      (try clear hb)
      (try clear hb2)
      (try clear hk)
      (try clear hi)
      (try clear ho0)
      refine hK.out _ _ ((blk_cell BK118.out 0).trans rfl) (fun hHeld => ?_)
      clear hK K
      refine norm_ (a':=?_) ?_ ?_
      rotate_left
      ·show Act.put _ (some 22) _ = _
       simp only [Act.put,List.setIfInBounds_toArray,List.set_cons_zero,List.set_cons_succ,i64_w,i32_w]
       rfl
      refine pure_ (i:=4) (N:=some 18) (v:=?_) (a':=?_) #[true,true,true,true,true,false,false,true,false,false] rfl rfl (any_of HT_.out (by kernel_rfl)) (fun _ _ _ h => h) (Or.inl ⟨by rfl,?_⟩) ?_ ?_
      rotate_left
      ·intro w'
       go_simp
       with_reducible rfl
      rotate_left
      ·simp only [Act.put,List.setIfInBounds_toArray,List.set_cons_zero,List.set_cons_succ,i64_w,i32_w]
       rfl
      refine pure_ (i:=5) (N:=some 23) (v:=?_) (a':=?_) #[true,true,true,true,true,true,false,true,false,false] rfl rfl (any_of HT_.out (by kernel_rfl)) (fun _ _ _ h => h) (Or.inl ⟨by rfl,?_⟩) ?_ ?_
      rotate_left
      ·intro w'
       go_simp
       with_reducible rfl
      rotate_left
      ·simp only [Act.put,List.setIfInBounds_toArray,List.set_cons_zero,List.set_cons_succ,i64_w,i32_w]
       rfl
      refine pure_ (i:=6) (N:=some 24) (v:=?_) (a':=?_) #[true,true,true,true,true,true,true,true,false,false] rfl rfl (any_of HT_.out (by kernel_rfl)) (fun _ _ _ h => h) (Or.inl ⟨by rfl,?_⟩) ?_ ?_
      rotate_left
      ·intro w'
       go_simp
       with_reducible rfl
      rotate_left
      ·simp only [Act.put,List.setIfInBounds_toArray,List.set_cons_zero,List.set_cons_succ,i64_w,i32_w]
       rfl
      exact norm_ (by simp only [putAll,Act.put,List.setIfInBounds_toArray,List.set_cons_zero,List.set_cons_succ]) (hCont (.slice Ao31 t141.length co31, .slice Ao32 t148.length co32,v152,gb155) _ ⟨hHeld,(by (with_reducible repeat first|apply nA|apply nN|apply nD);exact Kd.N_mono HO117.out (fun _ hk => ⟨hk.1.1.1.1.1,⟨hk.1.1.1.1.2.1,⟨hk.1.1.1.1.2.2.1,⟨hk.1.1.1.2,⟨hk.1.1.2,⟨hk.2,⟨hk.1.1.1.1.2.2.2,hk.1.2⟩⟩⟩⟩⟩⟩⟩)),(by (with_reducible repeat first|apply nA|apply nN|apply nD);exact Kd.N_mono HO125.out (fun _ hk => ⟨hk.1.1.1.1.1,⟨hk.1.1.1.1.2.1,⟨hk.1.1.1.1.2.2.1,⟨hk.1.1.1.2,⟨hk.1.1.2,⟨hk.2,⟨hk.1.1.1.1.2.2.2,hk.1.2⟩⟩⟩⟩⟩⟩⟩)),(by (with_reducible repeat first|apply nA|apply nN|apply nD);exact Kd.N_mono HO132.out (fun _ hk => ⟨hk.1.1.1.1.1,⟨hk.1.1.1.1.2.1,⟨hk.1.1.1.1.2.2.1,⟨hk.1.1.1.2,⟨hk.1.1.2,⟨hk.2,⟨hk.1.1.1.1.2.2.2,hk.1.2⟩⟩⟩⟩⟩⟩⟩)),(by (with_reducible repeat first|apply nA|apply nN|apply nD);exact Kd.N_mono HO135.out (fun _ hk => ⟨hk.1.1.1.2,⟨hk.1.1.2,⟨hk.2,⟨hk.1.1.1.1,hk.1.2⟩⟩⟩⟩)),(by (with_reducible repeat first|apply nA|apply nN|apply nD);exact Kd.N_mono HO143.out (fun _ hk => ⟨hk.1.1.1.1,⟨hk.1.1.1.2.1,⟨hk.1.1.1.2.2.1,⟨hk.1.1.1.2.2.2.1,⟨hk.1.1.2,⟨hk.2,⟨hk.1.1.1.2.2.2.2,hk.1.2⟩⟩⟩⟩⟩⟩⟩)),(by (with_reducible repeat first|apply nA|apply nN|apply nD);exact Kd.N_mono HO150.out (fun _ hk => ⟨hk.1.1.1,⟨hk.1.1.2.1,⟨hk.1.1.2.2.1,⟨hk.1.1.2.2.2.1,⟨hk.1.1.2.2.2.2.1,⟨hk.2,⟨hk.1.1.2.2.2.2.2,hk.1.2⟩⟩⟩⟩⟩⟩⟩)),(by (with_reducible repeat first|apply nA|apply nN|apply nD);exact HO153.out),(by (with_reducible repeat first|refine bN ?_ _|refine bD ?_|refine bA ?_ _);exact BK118.out),(by (with_reducible repeat first|refine bN ?_ _|refine bD ?_|refine bA ?_ _);exact BK155.out),GW155.out,GE155.out,NB118_155.out,NB155_118.out,(by repeat (first|(with_reducible first|exact HB.out|apply below_alloc|apply pw_below_drewN|apply below_drew1|refine below_set ?_ GE118.out|refine below_set ?_ GE155.out)|exact HB.out))⟩)
    ·skip
     refine box_step ?hg (N:=3) ?hd (cs:=#[.slice none 0 0]) (t:=27) ?hr ?_;(case hd => rfl);(case hg => rfl);(case hr => first|(go_simp;done)|(go_simp;rfl))
     intro gb155 hg w29 hbox hb
     have n0_:=Aside0.mk (Kd.N_below (Kd.N_elderB (by (with_reducible repeat first|apply nA|apply nN|apply nD);exact HO117.out) gb155 (Nat.le_of_eq hg.symm)) hb)
     have n1_:=Aside0.mk (Kd.N_below (Kd.N_elderB (by (with_reducible repeat first|apply nA|apply nN|apply nD);exact HO125.out) gb155 (Nat.le_of_eq hg.symm)) hb)
     have n2_:=Aside0.mk (Kd.N_below (Kd.N_elderB (by (with_reducible repeat first|apply nA|apply nN|apply nD);exact HO132.out) gb155 (Nat.le_of_eq hg.symm)) hb)
     have n3_:=Aside0.mk (Kd.N_below (Kd.N_elderB (by (with_reducible repeat first|apply nA|apply nN|apply nD);exact HO135.out) gb155 (Nat.le_of_eq hg.symm)) hb)
     have n4_:=Aside0.mk (Kd.N_below (Kd.N_elderB (by (with_reducible repeat first|apply nA|apply nN|apply nD);exact HO143.out) gb155 (Nat.le_of_eq hg.symm)) hb)
     have n5_:=Aside0.mk (blk_below (g:=gb118) (o := .cells #[.slice Ao24 t133.length co24] 27 (0,0)) (by (with_reducible repeat first|refine bN ?_ _|refine bD ?_|refine bA ?_ _);exact BK118.out) hb)
     have n6_:=Aside0.mk (below_step (by repeat (first|(with_reducible first|exact HB.out|apply below_alloc|apply pw_below_drewN|apply below_drew1|refine below_set ?_ GE118.out)|exact HB.out)) hb)
     have n7_:=Aside0.mk (hbox)
     have n8_:=Aside0.mk ((by rw [hg];exact (below_size (by repeat (first|(with_reducible first|exact HB.out|apply below_alloc|apply pw_below_drewN|apply below_drew1|refine below_set ?_ GE118.out)|exact HB.out))) : w.heap.size ≤ gb155))
     have n9_:=Aside0.mk ((by rw [hg];exact (below_size (by repeat (first|(with_reducible first|exact HB.out|apply below_alloc|apply pw_below_drewN|apply below_drew1|refine below_set ?_ GE118.out)|exact HB.out))) : w.heap.size ≤ gb155))
     have n10_:=Aside0.mk ((by rw [hg];exact Nat.ne_of_lt (blk_lt (g:=gb118) (o := .cells #[.slice Ao24 t133.length co24] 27 (0,0)) (by (with_reducible repeat first|refine bN ?_ _|refine bD ?_|refine bA ?_ _);exact BK118.out)) : gb118 ≠ gb155))
     have n11_:=Aside0.mk ((by rw [hg];exact Nat.ne_of_gt (blk_lt (g:=gb118) (o := .cells #[.slice Ao24 t133.length co24] 27 (0,0)) (by (with_reducible repeat first|refine bN ?_ _|refine bD ?_|refine bA ?_ _);exact BK118.out)) : gb155 ≠ gb118))
     clear HO117
     clear HO125
     clear HO132
     clear HO135
     clear HO143
     clear BK118
     clear HB
     have HO117:=n0_
     have HO125:=n1_
     have HO132:=n2_
     have HO135:=n3_
     have HO143:=n4_
     have BK118:=n5_
     have HB:=n6_
     have BK155:=n7_
     have GW155:=n8_
     have GE155:=n9_
     have NB118_155:=n10_
     have NB155_118:=n11_
     clear n0_ n1_ n2_ n3_ n4_ n5_ n6_ n7_ n8_ n9_ n10_ n11_
     clear hb hbox hg
     refine hK.out _ _ ((blk_cell BK118.out 0).trans rfl) (fun hHeld => ?_)
     clear hK K
     refine norm_ (a':=?_) ?_ ?_
     rotate_left
     ·show Act.put _ (some 3) _ = _
      simp only [Act.put,List.setIfInBounds_toArray,List.set_cons_zero,List.set_cons_succ,i64_w,i32_w]
      rfl
     refine one_ (i:=2) (N:=some 21) #[true,true,true,false,false,false,false,true,false,false] rfl rfl (one_of HT_.out (by kernel_rfl)) (by decide) (fun K hK => ?_)
     refine goes_ Try.func11 (by kernel_rfl) rfl #[.int .i64 6] (by rfl) rfl rfl (by (try simp only [List.map_toArray,List.map_cons,List.map_nil]);first|done|rfl|(simp only [List.length_drop,List.length_take];rfl)|(go_simp;done)|(go_simp;simp;done)) ?_
     with_reducible refine (windlasslaw4_num.calls 6 t144 t145 t146 t147 t148 _ A6.out).mono ?_
     rintro e w30 ⟨v149,rfl,ho0,hb⟩
     refine ⟨_,rfl,?_⟩
     have n0_:=Aside0.mk (Kd.N_elder' (by (with_reducible repeat first|apply nA|apply nN|apply nD);exact HO117.out) (by first|exact Kd.N_base ho0|exact Kd.R_base ho0) hb)
     have n1_:=Aside0.mk (Kd.N_elder' (by (with_reducible repeat first|apply nA|apply nN|apply nD);exact HO125.out) (by first|exact Kd.N_base ho0|exact Kd.R_base ho0) hb)
     have n2_:=Aside0.mk (Kd.N_elder' (by (with_reducible repeat first|apply nA|apply nN|apply nD);exact HO132.out) (by first|exact Kd.N_base ho0|exact Kd.R_base ho0) hb)
     have n3_:=Aside0.mk (Kd.N_elder' (by (with_reducible repeat first|apply nA|apply nN|apply nD);exact HO135.out) (by first|exact Kd.N_base ho0|exact Kd.R_base ho0) hb)
     have n4_:=Aside0.mk (Kd.N_elder' (by (with_reducible repeat first|apply nA|apply nN|apply nD);exact HO143.out) (by first|exact Kd.N_base ho0|exact Kd.R_base ho0) hb)
     have n5_:=Aside0.mk (Kd.N_lower (Kd.N_mono (ok':=fun k_ => some k_ ≠ (.slice Ao14 y115.length co14 : Value).ownBlock ∧ some k_ ≠ (.slice Ao21 t123.length co21 : Value).ownBlock ∧ some k_ ≠ (.slice Ao22 t130.length co22 : Value).ownBlock ∧ some k_ ≠ (.slice Ao24 t133.length co24 : Value).ownBlock ∧ some k_ ≠ (v142 : Value).ownBlock ∧ k_ ≠ gb118 ∧ k_ ≠ gb155) (Kd.R_N (Kd.R_bound ho0)) (fun k_ hk_ => ⟨(Kd.fresh' (Kd.N_lt (by (with_reducible repeat first|apply nA|apply nN|apply nD);exact HO117.out)) k_ hk_.2.1),(Kd.fresh' (Kd.N_lt (by (with_reducible repeat first|apply nA|apply nN|apply nD);exact HO125.out)) k_ hk_.2.1),(Kd.fresh' (Kd.N_lt (by (with_reducible repeat first|apply nA|apply nN|apply nD);exact HO132.out)) k_ hk_.2.1),(Kd.fresh' (Kd.N_lt (by (with_reducible repeat first|apply nA|apply nN|apply nD);exact HO135.out)) k_ hk_.2.1),(Kd.fresh' (Kd.N_lt (by (with_reducible repeat first|apply nA|apply nN|apply nD);exact HO143.out)) k_ hk_.2.1),(Kd.freshB (g:=gb118) (o := .cells #[.slice Ao24 t133.length co24] 27 (0,0)) (by (with_reducible repeat first|refine bN ?_ _|refine bD ?_|refine bA ?_ _);exact BK118.out) k_ hk_.2.1),(Kd.freshB (g:=gb155) (o := .cells #[.slice none 0 0] 27 (0,0)) (by (with_reducible repeat first|refine bN ?_ _|refine bD ?_|refine bA ?_ _);exact BK155.out) k_ hk_.2.1)⟩)) (below_size (by repeat (first|(with_reducible first|exact HB.out|apply below_alloc|apply pw_below_drewN|apply below_drew1|refine below_set ?_ GE118.out|refine below_set ?_ GE155.out)|exact HB.out))))
     have n6_:=Aside0.mk (blk_below (g:=gb118) (o := .cells #[.slice Ao24 t133.length co24] 27 (0,0)) (by (with_reducible repeat first|refine bN ?_ _|refine bD ?_|refine bA ?_ _);exact BK118.out) hb)
     have n7_:=Aside0.mk (blk_below (g:=gb155) (o := .cells #[.slice none 0 0] 27 (0,0)) (by (with_reducible repeat first|refine bN ?_ _|refine bD ?_|refine bA ?_ _);exact BK155.out) hb)
     have n8_:=Aside0.mk (below_step (by repeat (first|(with_reducible first|exact HB.out|apply below_alloc|apply pw_below_drewN|apply below_drew1|refine below_set ?_ GE118.out|refine below_set ?_ GE155.out)|exact HB.out)) hb)
     clear HO117
     clear HO125
     clear HO132
     clear HO135
     clear HO143
     clear BK118
     clear BK155
     clear HB
     have HO117:=n0_
     have HO125:=n1_
     have HO132:=n2_
     have HO135:=n3_
     have HO143:=n4_
     have HO150:=n5_
     have BK118:=n6_
     have BK155:=n7_
     have HB:=n8_
     clear n0_ n1_ n2_ n3_ n4_ n5_ n6_ n7_ n8_
     (try clear hb)
     (try clear hb2)
     (try clear hk)
     (try clear hi)
     (try clear ho0)
     obtain ⟨Ao31,co31,eo31⟩:=Kd.N_slice HO143.out
     (first|subst eo31|(injection eo31 with f1_ f2_ f3_;have f4_:=f1_.symm;have f5_:=f3_.symm;clear f1_ f2_ f3_;subst f4_;subst f5_))
     obtain ⟨Ao32,co32,eo32⟩:=Kd.N_slice HO150.out
     (first|subst eo32|(injection eo32 with f1_ f2_ f3_;have f4_:=f1_.symm;have f5_:=f3_.symm;clear f1_ f2_ f3_;subst f4_;subst f5_))
     refine hK.out _ _ ((blk_cell BK118.out 0).trans rfl) (fun hHeld => ?_)
     clear hK K
     refine norm_ (a':=?_) ?_ ?_
     rotate_left
     ·show Act.put _ (some 21) _ = _
      simp only [Act.put,List.setIfInBounds_toArray,List.set_cons_zero,List.set_cons_succ,i64_w,i32_w]
      rfl
     refine one_ (i:=3) (N:=some 22) #[true,true,true,true,false,false,false,true,false,false] rfl rfl (one_of HT_.out (by kernel_rfl)) (by decide) (fun K hK => ?_)
     refine goes_ Try.func10 (by kernel_rfl) rfl #[.agg #[.slice Ao24 t133.length co24], .int .i64 0, .agg #[.int .i64 t137, .int .i64 t138, .string t139, .int .i64 t140, .slice Ao31 t141.length co31], .agg #[.int .i64 t144, .int .i64 t145, .string t146, .int .i64 t147, .slice Ao32 t148.length co32]] (by rfl) rfl rfl (by (try simp only [List.map_toArray,List.map_cons,List.map_nil]);first|done|rfl|(simp only [List.length_drop,List.length_take];rfl)|(go_simp;done)|(go_simp;simp;done)) ?_
     with_reducible refine (heap_Put.calls k (fun k_ => (((k_ ≠ gb118 ∧ some k_ ≠ (.slice Ao31 t141.length co31 : Value).ownBlock) ∧ k_ ≠ gb155) ∧ some k_ ≠ (.slice Ao32 t148.length co32 : Value).ownBlock)) _ _ t133 0 t137 t138 t139 t140 (fun k_ => (((some k_ ≠ (.slice Ao14 y115.length co14 : Value).ownBlock ∧ (some k_ ≠ (.slice Ao21 t123.length co21 : Value).ownBlock ∧ (some k_ ≠ (.slice Ao22 t130.length co22 : Value).ownBlock ∧ (some k_ ≠ (.slice Ao24 t133.length co24 : Value).ownBlock ∧ k_ ≠ gb118)))) ∧ k_ ≠ gb155) ∧ some k_ ≠ (.slice Ao32 t148.length co32 : Value).ownBlock)) _ _ t141 t144 t145 t146 t147 (fun k_ => (some k_ ≠ (.slice Ao14 y115.length co14 : Value).ownBlock ∧ (some k_ ≠ (.slice Ao21 t123.length co21 : Value).ownBlock ∧ (some k_ ≠ (.slice Ao22 t130.length co22 : Value).ownBlock ∧ (some k_ ≠ (.slice Ao24 t133.length co24 : Value).ownBlock ∧ (some k_ ≠ (.slice Ao31 t141.length co31 : Value).ownBlock ∧ (k_ ≠ gb118 ∧ k_ ≠ gb155))))))) _ _ t148 t151 t154 _ ?side1 ?side2 ?side3 A7.out).mono ?_
     (case side1 => exact Kd.N_V (HO135.out))
     (case side2 => exact Kd.N_V (HO143.out))
     (case side3 => exact Kd.N_V (HO150.out))
     rintro e w33 ⟨v152,rfl,ho0,hb⟩
     refine ⟨_,rfl,?_⟩
     have n0_:=Aside0.mk (Kd.N_elder' (by (with_reducible repeat first|apply nA|apply nN|apply nD);exact HO117.out) (by first|exact Kd.N_base ho0|exact Kd.R_base ho0) hb)
     have n1_:=Aside0.mk (Kd.N_elder' (by (with_reducible repeat first|apply nA|apply nN|apply nD);exact HO125.out) (by first|exact Kd.N_base ho0|exact Kd.R_base ho0) hb)
     have n2_:=Aside0.mk (Kd.N_elder' (by (with_reducible repeat first|apply nA|apply nN|apply nD);exact HO132.out) (by first|exact Kd.N_base ho0|exact Kd.R_base ho0) hb)
     have n3_:=Aside0.mk (Kd.N_elder' (by (with_reducible repeat first|apply nA|apply nN|apply nD);exact HO135.out) (by first|exact Kd.N_base ho0|exact Kd.R_base ho0) hb)
     have n4_:=Aside0.mk (Kd.N_elder' (by (with_reducible repeat first|apply nA|apply nN|apply nD);exact HO143.out) (by first|exact Kd.N_base ho0|exact Kd.R_base ho0) hb)
     have n5_:=Aside0.mk (Kd.N_elder' (by (with_reducible repeat first|apply nA|apply nN|apply nD);exact HO150.out) (by first|exact Kd.N_base ho0|exact Kd.R_base ho0) hb)
     have n6_:=Aside0.mk (Kd.N_lower (Kd.N_mono (ok':=fun k_ => k_ ≠ gb118 ∧ k_ ≠ gb155) ho0 (fun k_ hk_ => ⟨Or.elim hk_ (fun hs_ => Or.elim hs_ (fun hs_ => hs_.1.1.1) (fun hs_ => Or.elim hs_ (fun hs_ => hs_.1.1.2.2.2.2) (fun hs_ => hs_.2.2.2.2.2.1))) (fun hn_ => (Kd.freshB (g:=gb118) (o := .cells #[.slice Ao24 t133.length co24] 27 (0,0)) (by (with_reducible repeat first|refine bN ?_ _|refine bD ?_|refine bA ?_ _);exact BK118.out) k_ hn_)),Or.elim hk_ (fun hs_ => Or.elim hs_ (fun hs_ => hs_.1.2) (fun hs_ => Or.elim hs_ (fun hs_ => hs_.1.2) (fun hs_ => hs_.2.2.2.2.2.2))) (fun hn_ => (Kd.freshB (g:=gb155) (o := .cells #[.slice none 0 0] 27 (0,0)) (by (with_reducible repeat first|refine bN ?_ _|refine bD ?_|refine bA ?_ _);exact BK155.out) k_ hn_))⟩)) (below_size (by repeat (first|(with_reducible first|exact HB.out|apply below_alloc|apply pw_below_drewN|apply below_drew1|refine below_set ?_ GE118.out|refine below_set ?_ GE155.out)|exact HB.out))))
     have n7_:=Aside0.mk (blk_below (g:=gb118) (o := .cells #[.slice Ao24 t133.length co24] 27 (0,0)) (by (with_reducible repeat first|refine bN ?_ _|refine bD ?_|refine bA ?_ _);exact BK118.out) hb)
     have n8_:=Aside0.mk (blk_below (g:=gb155) (o := .cells #[.slice none 0 0] 27 (0,0)) (by (with_reducible repeat first|refine bN ?_ _|refine bD ?_|refine bA ?_ _);exact BK155.out) hb)
     have n9_:=Aside0.mk (below_step (by repeat (first|(with_reducible first|exact HB.out|apply below_alloc|apply pw_below_drewN|apply below_drew1|refine below_set ?_ GE118.out|refine below_set ?_ GE155.out)|exact HB.out)) hb)
     clear HO117
     clear HO125
     clear HO132
     clear HO135
     clear HO143
     clear HO150
     clear BK118
     clear BK155
     clear HB
     have HO117:=n0_
     have HO125:=n1_
     have HO132:=n2_
     have HO135:=n3_
     have HO143:=n4_
     have HO150:=n5_
     have HO153:=n6_
     have BK118:=n7_
     have BK155:=n8_
     have HB:=n9_
     clear n0_ n1_ n2_ n3_ n4_ n5_ n6_ n7_ n8_ n9_
     (try clear hb)
     (try clear hb2)
     (try clear hk)
     (try clear hi)
     (try clear ho0)
     refine hK.out _ _ ((blk_cell BK118.out 0).trans rfl) (fun hHeld => ?_)
     clear hK K
     refine norm_ (a':=?_) ?_ ?_
     rotate_left
     ·show Act.put _ (some 22) _ = _
      simp only [Act.put,List.setIfInBounds_toArray,List.set_cons_zero,List.set_cons_succ,i64_w,i32_w]
      rfl
     refine pure_ (i:=4) (N:=some 18) (v:=?_) (a':=?_) #[true,true,true,true,true,false,false,true,false,false] rfl rfl (any_of HT_.out (by kernel_rfl)) (fun _ _ _ h => h) (Or.inl ⟨by rfl,?_⟩) ?_ ?_
     rotate_left
     ·intro w'
      go_simp
      with_reducible rfl
     rotate_left
     ·simp only [Act.put,List.setIfInBounds_toArray,List.set_cons_zero,List.set_cons_succ,i64_w,i32_w]
      rfl
     refine pure_ (i:=5) (N:=some 23) (v:=?_) (a':=?_) #[true,true,true,true,true,true,false,true,false,false] rfl rfl (any_of HT_.out (by kernel_rfl)) (fun _ _ _ h => h) (Or.inl ⟨by rfl,?_⟩) ?_ ?_
     rotate_left
     ·intro w'
      go_simp
      with_reducible rfl
     rotate_left
     ·simp only [Act.put,List.setIfInBounds_toArray,List.set_cons_zero,List.set_cons_succ,i64_w,i32_w]
      rfl
     refine pure_ (i:=6) (N:=some 24) (v:=?_) (a':=?_) #[true,true,true,true,true,true,true,true,false,false] rfl rfl (any_of HT_.out (by kernel_rfl)) (fun _ _ _ h => h) (Or.inl ⟨by rfl,?_⟩) ?_ ?_
     rotate_left
     ·intro w'
      go_simp
      with_reducible rfl
     rotate_left
     ·simp only [Act.put,List.setIfInBounds_toArray,List.set_cons_zero,List.set_cons_succ,i64_w,i32_w]
      rfl
     exact norm_ (by simp only [putAll,Act.put,List.setIfInBounds_toArray,List.set_cons_zero,List.set_cons_succ]) (hCont (.slice Ao31 t141.length co31, .slice Ao32 t148.length co32,v152,gb155) _ ⟨hHeld,(by (with_reducible repeat first|apply nA|apply nN|apply nD);exact Kd.N_mono HO117.out (fun _ hk => ⟨hk.1.1.1.1.1,⟨hk.1.1.1.1.2.1,⟨hk.1.1.1.1.2.2.1,⟨hk.1.1.1.2,⟨hk.1.2,⟨hk.2,⟨hk.1.1.1.1.2.2.2,hk.1.1.2⟩⟩⟩⟩⟩⟩⟩)),(by (with_reducible repeat first|apply nA|apply nN|apply nD);exact Kd.N_mono HO125.out (fun _ hk => ⟨hk.1.1.1.1.1,⟨hk.1.1.1.1.2.1,⟨hk.1.1.1.1.2.2.1,⟨hk.1.1.1.2,⟨hk.1.2,⟨hk.2,⟨hk.1.1.1.1.2.2.2,hk.1.1.2⟩⟩⟩⟩⟩⟩⟩)),(by (with_reducible repeat first|apply nA|apply nN|apply nD);exact Kd.N_mono HO132.out (fun _ hk => ⟨hk.1.1.1.1.1,⟨hk.1.1.1.1.2.1,⟨hk.1.1.1.1.2.2.1,⟨hk.1.1.1.2,⟨hk.1.2,⟨hk.2,⟨hk.1.1.1.1.2.2.2,hk.1.1.2⟩⟩⟩⟩⟩⟩⟩)),(by (with_reducible repeat first|apply nA|apply nN|apply nD);exact Kd.N_mono HO135.out (fun _ hk => ⟨hk.1.1.1.2,⟨hk.1.2,⟨hk.2,⟨hk.1.1.1.1,hk.1.1.2⟩⟩⟩⟩)),(by (with_reducible repeat first|apply nA|apply nN|apply nD);exact Kd.N_mono HO143.out (fun _ hk => ⟨hk.1.1.1.1,⟨hk.1.1.1.2.1,⟨hk.1.1.1.2.2.1,⟨hk.1.1.1.2.2.2.1,⟨hk.1.2,⟨hk.2,⟨hk.1.1.1.2.2.2.2,hk.1.1.2⟩⟩⟩⟩⟩⟩⟩)),(by (with_reducible repeat first|apply nA|apply nN|apply nD);exact Kd.N_mono HO150.out (fun _ hk => ⟨hk.1.1,⟨hk.1.2.1,⟨hk.1.2.2.1,⟨hk.1.2.2.2.1,⟨hk.1.2.2.2.2.1,⟨hk.2,⟨hk.1.2.2.2.2.2.1,hk.1.2.2.2.2.2.2⟩⟩⟩⟩⟩⟩⟩)),(by (with_reducible repeat first|apply nA|apply nN|apply nD);exact HO153.out),(by (with_reducible repeat first|refine bN ?_ _|refine bD ?_|refine bA ?_ _);exact BK118.out),(by (with_reducible repeat first|refine bN ?_ _|refine bD ?_|refine bA ?_ _);exact BK155.out),GW155.out,GE155.out,NB118_155.out,NB155_118.out,(by repeat (first|(with_reducible first|exact HB.out|apply below_alloc|apply pw_below_drewN|apply below_drew1|refine below_set ?_ GE118.out|refine below_set ?_ GE155.out)|exact HB.out))⟩)
   ·skip
    refine box_step ?hg (N:=3) ?hd (cs:=#[.slice none 0 0]) (t:=27) ?hr ?_;(case hd => rfl);(case hg => rfl);(case hr => first|(go_simp;done)|(go_simp;rfl))
    intro gb155 hg w28 hbox hb
    have n0_:=Aside0.mk (Kd.N_below (Kd.N_elderB (by (with_reducible repeat first|apply nA|apply nN|apply nD);exact HO117.out) gb155 (Nat.le_of_eq hg.symm)) hb)
    have n1_:=Aside0.mk (Kd.N_below (Kd.N_elderB (by (with_reducible repeat first|apply nA|apply nN|apply nD);exact HO125.out) gb155 (Nat.le_of_eq hg.symm)) hb)
    have n2_:=Aside0.mk (Kd.N_below (Kd.N_elderB (by (with_reducible repeat first|apply nA|apply nN|apply nD);exact HO132.out) gb155 (Nat.le_of_eq hg.symm)) hb)
    have n3_:=Aside0.mk (Kd.N_below (Kd.N_elderB (by (with_reducible repeat first|apply nA|apply nN|apply nD);exact HO135.out) gb155 (Nat.le_of_eq hg.symm)) hb)
    have n4_:=Aside0.mk (blk_below (g:=gb118) (o := .cells #[.slice Ao24 t133.length co24] 27 (0,0)) (by (with_reducible repeat first|refine bN ?_ _|refine bD ?_|refine bA ?_ _);exact BK118.out) hb)
    have n5_:=Aside0.mk (below_step (by repeat (first|(with_reducible first|exact HB.out|apply below_alloc|apply pw_below_drewN|apply below_drew1|refine below_set ?_ GE118.out)|exact HB.out)) hb)
    have n6_:=Aside0.mk (hbox)
    have n7_:=Aside0.mk ((by rw [hg];exact (below_size (by repeat (first|(with_reducible first|exact HB.out|apply below_alloc|apply pw_below_drewN|apply below_drew1|refine below_set ?_ GE118.out)|exact HB.out))) : w.heap.size ≤ gb155))
    have n8_:=Aside0.mk ((by rw [hg];exact (below_size (by repeat (first|(with_reducible first|exact HB.out|apply below_alloc|apply pw_below_drewN|apply below_drew1|refine below_set ?_ GE118.out)|exact HB.out))) : w.heap.size ≤ gb155))
    have n9_:=Aside0.mk ((by rw [hg];exact Nat.ne_of_lt (blk_lt (g:=gb118) (o := .cells #[.slice Ao24 t133.length co24] 27 (0,0)) (by (with_reducible repeat first|refine bN ?_ _|refine bD ?_|refine bA ?_ _);exact BK118.out)) : gb118 ≠ gb155))
    have n10_:=Aside0.mk ((by rw [hg];exact Nat.ne_of_gt (blk_lt (g:=gb118) (o := .cells #[.slice Ao24 t133.length co24] 27 (0,0)) (by (with_reducible repeat first|refine bN ?_ _|refine bD ?_|refine bA ?_ _);exact BK118.out)) : gb155 ≠ gb118))
    clear HO117
    clear HO125
    clear HO132
    clear HO135
    clear BK118
    clear HB
    have HO117:=n0_
    have HO125:=n1_
    have HO132:=n2_
    have HO135:=n3_
    have BK118:=n4_
    have HB:=n5_
    have BK155:=n6_
    have GW155:=n7_
    have GE155:=n8_
    have NB118_155:=n9_
    have NB155_118:=n10_
    clear n0_ n1_ n2_ n3_ n4_ n5_ n6_ n7_ n8_ n9_ n10_
    clear hb hbox hg
    refine hK.out _ _ ((blk_cell BK118.out 0).trans rfl) (fun hHeld => ?_)
    clear hK K
    refine norm_ (a':=?_) ?_ ?_
    rotate_left
    ·show Act.put _ (some 3) _ = _
     simp only [Act.put,List.setIfInBounds_toArray,List.set_cons_zero,List.set_cons_succ,i64_w,i32_w]
     rfl
    refine one_ (i:=1) (N:=some 20) #[true,true,false,false,false,false,false,true,false,false] rfl rfl (one_of HT_.out (by kernel_rfl)) (by decide) (fun K hK => ?_)
    refine goes_ Try.func11 (by kernel_rfl) rfl #[.int .i64 1] (by rfl) rfl rfl (by (try simp only [List.map_toArray,List.map_cons,List.map_nil]);first|done|rfl|(simp only [List.length_drop,List.length_take];rfl)|(go_simp;done)|(go_simp;simp;done)) ?_
    with_reducible refine (windlasslaw4_num.calls 1 t137 t138 t139 t140 t141 _ A5.out).mono ?_
    rintro e w29 ⟨v142,rfl,ho0,hb⟩
    refine ⟨_,rfl,?_⟩
    have n0_:=Aside0.mk (Kd.N_elder' (by (with_reducible repeat first|apply nA|apply nN|apply nD);exact HO117.out) (by first|exact Kd.N_base ho0|exact Kd.R_base ho0) hb)
    have n1_:=Aside0.mk (Kd.N_elder' (by (with_reducible repeat first|apply nA|apply nN|apply nD);exact HO125.out) (by first|exact Kd.N_base ho0|exact Kd.R_base ho0) hb)
    have n2_:=Aside0.mk (Kd.N_elder' (by (with_reducible repeat first|apply nA|apply nN|apply nD);exact HO132.out) (by first|exact Kd.N_base ho0|exact Kd.R_base ho0) hb)
    have n3_:=Aside0.mk (Kd.N_elder' (by (with_reducible repeat first|apply nA|apply nN|apply nD);exact HO135.out) (by first|exact Kd.N_base ho0|exact Kd.R_base ho0) hb)
    have n4_:=Aside0.mk (Kd.N_lower (Kd.N_mono (ok':=fun k_ => some k_ ≠ (.slice Ao14 y115.length co14 : Value).ownBlock ∧ some k_ ≠ (.slice Ao21 t123.length co21 : Value).ownBlock ∧ some k_ ≠ (.slice Ao22 t130.length co22 : Value).ownBlock ∧ some k_ ≠ (.slice Ao24 t133.length co24 : Value).ownBlock ∧ k_ ≠ gb118 ∧ k_ ≠ gb155) (Kd.R_N (Kd.R_bound ho0)) (fun k_ hk_ => ⟨(Kd.fresh' (Kd.N_lt (by (with_reducible repeat first|apply nA|apply nN|apply nD);exact HO117.out)) k_ hk_.2.1),(Kd.fresh' (Kd.N_lt (by (with_reducible repeat first|apply nA|apply nN|apply nD);exact HO125.out)) k_ hk_.2.1),(Kd.fresh' (Kd.N_lt (by (with_reducible repeat first|apply nA|apply nN|apply nD);exact HO132.out)) k_ hk_.2.1),(Kd.fresh' (Kd.N_lt (by (with_reducible repeat first|apply nA|apply nN|apply nD);exact HO135.out)) k_ hk_.2.1),(Kd.freshB (g:=gb118) (o := .cells #[.slice Ao24 t133.length co24] 27 (0,0)) (by (with_reducible repeat first|refine bN ?_ _|refine bD ?_|refine bA ?_ _);exact BK118.out) k_ hk_.2.1),(Kd.freshB (g:=gb155) (o := .cells #[.slice none 0 0] 27 (0,0)) (by (with_reducible repeat first|refine bN ?_ _|refine bD ?_|refine bA ?_ _);exact BK155.out) k_ hk_.2.1)⟩)) (below_size (by repeat (first|(with_reducible first|exact HB.out|apply below_alloc|apply pw_below_drewN|apply below_drew1|refine below_set ?_ GE118.out|refine below_set ?_ GE155.out)|exact HB.out))))
    have n5_:=Aside0.mk (blk_below (g:=gb118) (o := .cells #[.slice Ao24 t133.length co24] 27 (0,0)) (by (with_reducible repeat first|refine bN ?_ _|refine bD ?_|refine bA ?_ _);exact BK118.out) hb)
    have n6_:=Aside0.mk (blk_below (g:=gb155) (o := .cells #[.slice none 0 0] 27 (0,0)) (by (with_reducible repeat first|refine bN ?_ _|refine bD ?_|refine bA ?_ _);exact BK155.out) hb)
    have n7_:=Aside0.mk (below_step (by repeat (first|(with_reducible first|exact HB.out|apply below_alloc|apply pw_below_drewN|apply below_drew1|refine below_set ?_ GE118.out|refine below_set ?_ GE155.out)|exact HB.out)) hb)
    clear HO117
    clear HO125
    clear HO132
    clear HO135
    clear BK118
    clear BK155
    clear HB
    have HO117:=n0_
    have HO125:=n1_
    have HO132:=n2_
    have HO135:=n3_
    have HO143:=n4_
    have BK118:=n5_
    have BK155:=n6_
    have HB:=n7_
    clear n0_ n1_ n2_ n3_ n4_ n5_ n6_ n7_
    (try clear hb)
    (try clear hb2)
    (try clear hk)
    (try clear hi)
    (try clear ho0)
    refine hK.out _ _ ((blk_cell BK118.out 0).trans rfl) (fun hHeld => ?_)
    clear hK K
    refine norm_ (a':=?_) ?_ ?_
    rotate_left
    ·show Act.put _ (some 20) _ = _
     simp only [Act.put,List.setIfInBounds_toArray,List.set_cons_zero,List.set_cons_succ,i64_w,i32_w]
     rfl
    refine one_ (i:=2) (N:=some 21) #[true,true,true,false,false,false,false,true,false,false] rfl rfl (one_of HT_.out (by kernel_rfl)) (by decide) (fun K hK => ?_)
    refine goes_ Try.func11 (by kernel_rfl) rfl #[.int .i64 6] (by rfl) rfl rfl (by (try simp only [List.map_toArray,List.map_cons,List.map_nil]);first|done|rfl|(simp only [List.length_drop,List.length_take];rfl)|(go_simp;done)|(go_simp;simp;done)) ?_
    with_reducible refine (windlasslaw4_num.calls 6 t144 t145 t146 t147 t148 _ A6.out).mono ?_
    rintro e w30 ⟨v149,rfl,ho0,hb⟩
    refine ⟨_,rfl,?_⟩
    have n0_:=Aside0.mk (Kd.N_elder' (by (with_reducible repeat first|apply nA|apply nN|apply nD);exact HO117.out) (by first|exact Kd.N_base ho0|exact Kd.R_base ho0) hb)
    have n1_:=Aside0.mk (Kd.N_elder' (by (with_reducible repeat first|apply nA|apply nN|apply nD);exact HO125.out) (by first|exact Kd.N_base ho0|exact Kd.R_base ho0) hb)
    have n2_:=Aside0.mk (Kd.N_elder' (by (with_reducible repeat first|apply nA|apply nN|apply nD);exact HO132.out) (by first|exact Kd.N_base ho0|exact Kd.R_base ho0) hb)
    have n3_:=Aside0.mk (Kd.N_elder' (by (with_reducible repeat first|apply nA|apply nN|apply nD);exact HO135.out) (by first|exact Kd.N_base ho0|exact Kd.R_base ho0) hb)
    have n4_:=Aside0.mk (Kd.N_elder' (by (with_reducible repeat first|apply nA|apply nN|apply nD);exact HO143.out) (by first|exact Kd.N_base ho0|exact Kd.R_base ho0) hb)
    have n5_:=Aside0.mk (Kd.N_lower (Kd.N_mono (ok':=fun k_ => some k_ ≠ (.slice Ao14 y115.length co14 : Value).ownBlock ∧ some k_ ≠ (.slice Ao21 t123.length co21 : Value).ownBlock ∧ some k_ ≠ (.slice Ao22 t130.length co22 : Value).ownBlock ∧ some k_ ≠ (.slice Ao24 t133.length co24 : Value).ownBlock ∧ some k_ ≠ (v142 : Value).ownBlock ∧ k_ ≠ gb118 ∧ k_ ≠ gb155) (Kd.R_N (Kd.R_bound ho0)) (fun k_ hk_ => ⟨(Kd.fresh' (Kd.N_lt (by (with_reducible repeat first|apply nA|apply nN|apply nD);exact HO117.out)) k_ hk_.2.1),(Kd.fresh' (Kd.N_lt (by (with_reducible repeat first|apply nA|apply nN|apply nD);exact HO125.out)) k_ hk_.2.1),(Kd.fresh' (Kd.N_lt (by (with_reducible repeat first|apply nA|apply nN|apply nD);exact HO132.out)) k_ hk_.2.1),(Kd.fresh' (Kd.N_lt (by (with_reducible repeat first|apply nA|apply nN|apply nD);exact HO135.out)) k_ hk_.2.1),(Kd.fresh' (Kd.N_lt (by (with_reducible repeat first|apply nA|apply nN|apply nD);exact HO143.out)) k_ hk_.2.1),(Kd.freshB (g:=gb118) (o := .cells #[.slice Ao24 t133.length co24] 27 (0,0)) (by (with_reducible repeat first|refine bN ?_ _|refine bD ?_|refine bA ?_ _);exact BK118.out) k_ hk_.2.1),(Kd.freshB (g:=gb155) (o := .cells #[.slice none 0 0] 27 (0,0)) (by (with_reducible repeat first|refine bN ?_ _|refine bD ?_|refine bA ?_ _);exact BK155.out) k_ hk_.2.1)⟩)) (below_size (by repeat (first|(with_reducible first|exact HB.out|apply below_alloc|apply pw_below_drewN|apply below_drew1|refine below_set ?_ GE118.out|refine below_set ?_ GE155.out)|exact HB.out))))
    have n6_:=Aside0.mk (blk_below (g:=gb118) (o := .cells #[.slice Ao24 t133.length co24] 27 (0,0)) (by (with_reducible repeat first|refine bN ?_ _|refine bD ?_|refine bA ?_ _);exact BK118.out) hb)
    have n7_:=Aside0.mk (blk_below (g:=gb155) (o := .cells #[.slice none 0 0] 27 (0,0)) (by (with_reducible repeat first|refine bN ?_ _|refine bD ?_|refine bA ?_ _);exact BK155.out) hb)
    have n8_:=Aside0.mk (below_step (by repeat (first|(with_reducible first|exact HB.out|apply below_alloc|apply pw_below_drewN|apply below_drew1|refine below_set ?_ GE118.out|refine below_set ?_ GE155.out)|exact HB.out)) hb)
    clear HO117
    clear HO125
    clear HO132
    clear HO135
    clear HO143
    clear BK118
    clear BK155
    clear HB
    have HO117:=n0_
    have HO125:=n1_
    have HO132:=n2_
    have HO135:=n3_
    have HO143:=n4_
    have HO150:=n5_
    have BK118:=n6_
    have BK155:=n7_
    have HB:=n8_
    clear n0_ n1_ n2_ n3_ n4_ n5_ n6_ n7_ n8_
    (try clear hb)
    (try clear hb2)
    (try clear hk)
    (try clear hi)
    (try clear ho0)
    obtain ⟨Ao31,co31,eo31⟩:=Kd.N_slice HO143.out
    (first|subst eo31|(injection eo31 with f1_ f2_ f3_;have f4_:=f1_.symm;have f5_:=f3_.symm;clear f1_ f2_ f3_;subst f4_;subst f5_))
    obtain ⟨Ao32,co32,eo32⟩:=Kd.N_slice HO150.out
    (first|subst eo32|(injection eo32 with f1_ f2_ f3_;have f4_:=f1_.symm;have f5_:=f3_.symm;clear f1_ f2_ f3_;subst f4_;subst f5_))
    refine hK.out _ _ ((blk_cell BK118.out 0).trans rfl) (fun hHeld => ?_)
    clear hK K
    refine norm_ (a':=?_) ?_ ?_
    rotate_left
    ·show Act.put _ (some 21) _ = _
     simp only [Act.put,List.setIfInBounds_toArray,List.set_cons_zero,List.set_cons_succ,i64_w,i32_w]
     rfl
    refine one_ (i:=3) (N:=some 22) #[true,true,true,true,false,false,false,true,false,false] rfl rfl (one_of HT_.out (by kernel_rfl)) (by decide) (fun K hK => ?_)
    refine goes_ Try.func10 (by kernel_rfl) rfl #[.agg #[.slice Ao24 t133.length co24], .int .i64 0, .agg #[.int .i64 t137, .int .i64 t138, .string t139, .int .i64 t140, .slice Ao31 t141.length co31], .agg #[.int .i64 t144, .int .i64 t145, .string t146, .int .i64 t147, .slice Ao32 t148.length co32]] (by rfl) rfl rfl (by (try simp only [List.map_toArray,List.map_cons,List.map_nil]);first|done|rfl|(simp only [List.length_drop,List.length_take];rfl)|(go_simp;done)|(go_simp;simp;done)) ?_
    with_reducible refine (heap_Put.calls k (fun k_ => (((k_ ≠ gb118 ∧ k_ ≠ gb155) ∧ some k_ ≠ (.slice Ao31 t141.length co31 : Value).ownBlock) ∧ some k_ ≠ (.slice Ao32 t148.length co32 : Value).ownBlock)) _ _ t133 0 t137 t138 t139 t140 (fun k_ => ((some k_ ≠ (.slice Ao14 y115.length co14 : Value).ownBlock ∧ (some k_ ≠ (.slice Ao21 t123.length co21 : Value).ownBlock ∧ (some k_ ≠ (.slice Ao22 t130.length co22 : Value).ownBlock ∧ (some k_ ≠ (.slice Ao24 t133.length co24 : Value).ownBlock ∧ (k_ ≠ gb118 ∧ k_ ≠ gb155))))) ∧ some k_ ≠ (.slice Ao32 t148.length co32 : Value).ownBlock)) _ _ t141 t144 t145 t146 t147 (fun k_ => (some k_ ≠ (.slice Ao14 y115.length co14 : Value).ownBlock ∧ (some k_ ≠ (.slice Ao21 t123.length co21 : Value).ownBlock ∧ (some k_ ≠ (.slice Ao22 t130.length co22 : Value).ownBlock ∧ (some k_ ≠ (.slice Ao24 t133.length co24 : Value).ownBlock ∧ (some k_ ≠ (.slice Ao31 t141.length co31 : Value).ownBlock ∧ (k_ ≠ gb118 ∧ k_ ≠ gb155))))))) _ _ t148 t151 t154 _ ?side1 ?side2 ?side3 A7.out).mono ?_
    (case side1 => exact Kd.N_V (HO135.out))
    (case side2 => exact Kd.N_V (HO143.out))
    (case side3 => exact Kd.N_V (HO150.out))
    rintro e w33 ⟨v152,rfl,ho0,hb⟩
    refine ⟨_,rfl,?_⟩
    have n0_:=Aside0.mk (Kd.N_elder' (by (with_reducible repeat first|apply nA|apply nN|apply nD);exact HO117.out) (by first|exact Kd.N_base ho0|exact Kd.R_base ho0) hb)
    have n1_:=Aside0.mk (Kd.N_elder' (by (with_reducible repeat first|apply nA|apply nN|apply nD);exact HO125.out) (by first|exact Kd.N_base ho0|exact Kd.R_base ho0) hb)
    have n2_:=Aside0.mk (Kd.N_elder' (by (with_reducible repeat first|apply nA|apply nN|apply nD);exact HO132.out) (by first|exact Kd.N_base ho0|exact Kd.R_base ho0) hb)
    have n3_:=Aside0.mk (Kd.N_elder' (by (with_reducible repeat first|apply nA|apply nN|apply nD);exact HO135.out) (by first|exact Kd.N_base ho0|exact Kd.R_base ho0) hb)
    have n4_:=Aside0.mk (Kd.N_elder' (by (with_reducible repeat first|apply nA|apply nN|apply nD);exact HO143.out) (by first|exact Kd.N_base ho0|exact Kd.R_base ho0) hb)
    have n5_:=Aside0.mk (Kd.N_elder' (by (with_reducible repeat first|apply nA|apply nN|apply nD);exact HO150.out) (by first|exact Kd.N_base ho0|exact Kd.R_base ho0) hb)
    have n6_:=Aside0.mk (Kd.N_lower (Kd.N_mono (ok':=fun k_ => k_ ≠ gb118 ∧ k_ ≠ gb155) ho0 (fun k_ hk_ => ⟨Or.elim hk_ (fun hs_ => Or.elim hs_ (fun hs_ => hs_.1.1.1) (fun hs_ => Or.elim hs_ (fun hs_ => hs_.1.2.2.2.2.1) (fun hs_ => hs_.2.2.2.2.2.1))) (fun hn_ => (Kd.freshB (g:=gb118) (o := .cells #[.slice Ao24 t133.length co24] 27 (0,0)) (by (with_reducible repeat first|refine bN ?_ _|refine bD ?_|refine bA ?_ _);exact BK118.out) k_ hn_)),Or.elim hk_ (fun hs_ => Or.elim hs_ (fun hs_ => hs_.1.1.2) (fun hs_ => Or.elim hs_ (fun hs_ => hs_.1.2.2.2.2.2) (fun hs_ => hs_.2.2.2.2.2.2))) (fun hn_ => (Kd.freshB (g:=gb155) (o := .cells #[.slice none 0 0] 27 (0,0)) (by (with_reducible repeat first|refine bN ?_ _|refine bD ?_|refine bA ?_ _);exact BK155.out) k_ hn_))⟩)) (below_size (by repeat (first|(with_reducible first|exact HB.out|apply below_alloc|apply pw_below_drewN|apply below_drew1|refine below_set ?_ GE118.out|refine below_set ?_ GE155.out)|exact HB.out))))
    have n7_:=Aside0.mk (blk_below (g:=gb118) (o := .cells #[.slice Ao24 t133.length co24] 27 (0,0)) (by (with_reducible repeat first|refine bN ?_ _|refine bD ?_|refine bA ?_ _);exact BK118.out) hb)
    have n8_:=Aside0.mk (blk_below (g:=gb155) (o := .cells #[.slice none 0 0] 27 (0,0)) (by (with_reducible repeat first|refine bN ?_ _|refine bD ?_|refine bA ?_ _);exact BK155.out) hb)
    have n9_:=Aside0.mk (below_step (by repeat (first|(with_reducible first|exact HB.out|apply below_alloc|apply pw_below_drewN|apply below_drew1|refine below_set ?_ GE118.out|refine below_set ?_ GE155.out)|exact HB.out)) hb)
    clear HO117
    clear HO125
    clear HO132
    clear HO135
    clear HO143
    clear HO150
    clear BK118
    clear BK155
    clear HB
    have HO117:=n0_
    have HO125:=n1_
    have HO132:=n2_
    have HO135:=n3_
    have HO143:=n4_
    have HO150:=n5_
    have HO153:=n6_
    have BK118:=n7_
    have BK155:=n8_
    have HB:=n9_
    clear n0_ n1_ n2_ n3_ n4_ n5_ n6_ n7_ n8_ n9_
    (try clear hb)
    (try clear hb2)
    (try clear hk)
    (try clear hi)
    (try clear ho0)
    refine hK.out _ _ ((blk_cell BK118.out 0).trans rfl) (fun hHeld => ?_)
    clear hK K
    refine norm_ (a':=?_) ?_ ?_
    rotate_left
    ·show Act.put _ (some 22) _ = _
     simp only [Act.put,List.setIfInBounds_toArray,List.set_cons_zero,List.set_cons_succ,i64_w,i32_w]
     rfl
    refine pure_ (i:=4) (N:=some 18) (v:=?_) (a':=?_) #[true,true,true,true,true,false,false,true,false,false] rfl rfl (any_of HT_.out (by kernel_rfl)) (fun _ _ _ h => h) (Or.inl ⟨by rfl,?_⟩) ?_ ?_
    rotate_left
    ·intro w'
     go_simp
     with_reducible rfl
    rotate_left
    ·simp only [Act.put,List.setIfInBounds_toArray,List.set_cons_zero,List.set_cons_succ,i64_w,i32_w]
     rfl
    refine pure_ (i:=5) (N:=some 23) (v:=?_) (a':=?_) #[true,true,true,true,true,true,false,true,false,false] rfl rfl (any_of HT_.out (by kernel_rfl)) (fun _ _ _ h => h) (Or.inl ⟨by rfl,?_⟩) ?_ ?_
    rotate_left
    ·intro w'
     go_simp
     with_reducible rfl
    rotate_left
    ·simp only [Act.put,List.setIfInBounds_toArray,List.set_cons_zero,List.set_cons_succ,i64_w,i32_w]
     rfl
    refine pure_ (i:=6) (N:=some 24) (v:=?_) (a':=?_) #[true,true,true,true,true,true,true,true,false,false] rfl rfl (any_of HT_.out (by kernel_rfl)) (fun _ _ _ h => h) (Or.inl ⟨by rfl,?_⟩) ?_ ?_
    rotate_left
    ·intro w'
     go_simp
     with_reducible rfl
    rotate_left
    ·simp only [Act.put,List.setIfInBounds_toArray,List.set_cons_zero,List.set_cons_succ,i64_w,i32_w]
     rfl
    exact norm_ (by simp only [putAll,Act.put,List.setIfInBounds_toArray,List.set_cons_zero,List.set_cons_succ]) (hCont (.slice Ao31 t141.length co31, .slice Ao32 t148.length co32,v152,gb155) _ ⟨hHeld,(by (with_reducible repeat first|apply nA|apply nN|apply nD);exact Kd.N_mono HO117.out (fun _ hk => ⟨hk.1.1.1.1.1,⟨hk.1.1.1.1.2.1,⟨hk.1.1.1.1.2.2.1,⟨hk.1.1.2,⟨hk.1.2,⟨hk.2,⟨hk.1.1.1.1.2.2.2,hk.1.1.1.2⟩⟩⟩⟩⟩⟩⟩)),(by (with_reducible repeat first|apply nA|apply nN|apply nD);exact Kd.N_mono HO125.out (fun _ hk => ⟨hk.1.1.1.1.1,⟨hk.1.1.1.1.2.1,⟨hk.1.1.1.1.2.2.1,⟨hk.1.1.2,⟨hk.1.2,⟨hk.2,⟨hk.1.1.1.1.2.2.2,hk.1.1.1.2⟩⟩⟩⟩⟩⟩⟩)),(by (with_reducible repeat first|apply nA|apply nN|apply nD);exact Kd.N_mono HO132.out (fun _ hk => ⟨hk.1.1.1.1.1,⟨hk.1.1.1.1.2.1,⟨hk.1.1.1.1.2.2.1,⟨hk.1.1.2,⟨hk.1.2,⟨hk.2,⟨hk.1.1.1.1.2.2.2,hk.1.1.1.2⟩⟩⟩⟩⟩⟩⟩)),(by (with_reducible repeat first|apply nA|apply nN|apply nD);exact Kd.N_mono HO135.out (fun _ hk => ⟨hk.1.1.2,⟨hk.1.2,⟨hk.2,⟨hk.1.1.1.1,hk.1.1.1.2⟩⟩⟩⟩)),(by (with_reducible repeat first|apply nA|apply nN|apply nD);exact Kd.N_mono HO143.out (fun _ hk => ⟨hk.1.1.1,⟨hk.1.1.2.1,⟨hk.1.1.2.2.1,⟨hk.1.1.2.2.2.1,⟨hk.1.2,⟨hk.2,⟨hk.1.1.2.2.2.2.1,hk.1.1.2.2.2.2.2⟩⟩⟩⟩⟩⟩⟩)),(by (with_reducible repeat first|apply nA|apply nN|apply nD);exact Kd.N_mono HO150.out (fun _ hk => ⟨hk.1.1,⟨hk.1.2.1,⟨hk.1.2.2.1,⟨hk.1.2.2.2.1,⟨hk.1.2.2.2.2.1,⟨hk.2,⟨hk.1.2.2.2.2.2.1,hk.1.2.2.2.2.2.2⟩⟩⟩⟩⟩⟩⟩)),(by (with_reducible repeat first|apply nA|apply nN|apply nD);exact HO153.out),(by (with_reducible repeat first|refine bN ?_ _|refine bD ?_|refine bA ?_ _);exact BK118.out),(by (with_reducible repeat first|refine bN ?_ _|refine bD ?_|refine bA ?_ _);exact BK155.out),GW155.out,GE155.out,NB118_155.out,NB155_118.out,(by repeat (first|(with_reducible first|exact HB.out|apply below_alloc|apply pw_below_drewN|apply below_drew1|refine below_set ?_ GE118.out|refine below_set ?_ GE155.out)|exact HB.out))⟩)
  rintro ⟨v142,v149,v152,gb155⟩ w34 ⟨hS_,h0_,h1_,h2_,h3_,h4_,h5_,h6_,h7_,h8_,h9_,h10_,h11_,h12_,h13_⟩
  have n0_ : Aside0 (Kd.N (Kd.slice 82 k82) 41 w34 w.heap.size (fun k_ => some k_ ≠ (.slice Ao21 t123.length co21 : Value).ownBlock ∧ some k_ ≠ (.slice Ao22 t130.length co22 : Value).ownBlock ∧ some k_ ≠ (.slice Ao24 t133.length co24 : Value).ownBlock ∧ some k_ ≠ (v142 : Value).ownBlock ∧ some k_ ≠ (v149 : Value).ownBlock ∧ some k_ ≠ (v152 : Value).ownBlock ∧ k_ ≠ gb118 ∧ k_ ≠ gb155) (.slice Ao14 y115.length co14) y115):=⟨h0_⟩
  have n1_ : Aside0 (Kd.N k35 35 w34 w.heap.size (fun k_ => some k_ ≠ (.slice Ao14 y115.length co14 : Value).ownBlock ∧ some k_ ≠ (.slice Ao22 t130.length co22 : Value).ownBlock ∧ some k_ ≠ (.slice Ao24 t133.length co24 : Value).ownBlock ∧ some k_ ≠ (v142 : Value).ownBlock ∧ some k_ ≠ (v149 : Value).ownBlock ∧ some k_ ≠ (v152 : Value).ownBlock ∧ k_ ≠ gb118 ∧ k_ ≠ gb155) (.slice Ao21 t123.length co21) t123):=⟨h1_⟩
  have n2_ : Aside0 (Kd.N k35 35 w34 w.heap.size (fun k_ => some k_ ≠ (.slice Ao14 y115.length co14 : Value).ownBlock ∧ some k_ ≠ (.slice Ao21 t123.length co21 : Value).ownBlock ∧ some k_ ≠ (.slice Ao24 t133.length co24 : Value).ownBlock ∧ some k_ ≠ (v142 : Value).ownBlock ∧ some k_ ≠ (v149 : Value).ownBlock ∧ some k_ ≠ (v152 : Value).ownBlock ∧ k_ ≠ gb118 ∧ k_ ≠ gb155) (.slice Ao22 t130.length co22) t130):=⟨h2_⟩
  have n3_ : Aside0 (Kd.N (Kd.slice 82 k82) 41 w34 w.heap.size (fun k_ => some k_ ≠ (v142 : Value).ownBlock ∧ some k_ ≠ (v149 : Value).ownBlock ∧ some k_ ≠ (v152 : Value).ownBlock ∧ k_ ≠ gb118 ∧ k_ ≠ gb155) (.slice Ao24 t133.length co24) t133):=⟨h3_⟩
  have n4_ : Aside0 (Kd.N k35 35 w34 w.heap.size (fun k_ => some k_ ≠ (.slice Ao14 y115.length co14 : Value).ownBlock ∧ some k_ ≠ (.slice Ao21 t123.length co21 : Value).ownBlock ∧ some k_ ≠ (.slice Ao22 t130.length co22 : Value).ownBlock ∧ some k_ ≠ (.slice Ao24 t133.length co24 : Value).ownBlock ∧ some k_ ≠ (v149 : Value).ownBlock ∧ some k_ ≠ (v152 : Value).ownBlock ∧ k_ ≠ gb118 ∧ k_ ≠ gb155) v142 t141):=⟨h4_⟩
  have n5_ : Aside0 (Kd.N k35 35 w34 w.heap.size (fun k_ => some k_ ≠ (.slice Ao14 y115.length co14 : Value).ownBlock ∧ some k_ ≠ (.slice Ao21 t123.length co21 : Value).ownBlock ∧ some k_ ≠ (.slice Ao22 t130.length co22 : Value).ownBlock ∧ some k_ ≠ (.slice Ao24 t133.length co24 : Value).ownBlock ∧ some k_ ≠ (v142 : Value).ownBlock ∧ some k_ ≠ (v152 : Value).ownBlock ∧ k_ ≠ gb118 ∧ k_ ≠ gb155) v149 t148):=⟨h5_⟩
  have n6_ : Aside0 (Kd.N (Kd.slice 82 k82) 41 w34 w.heap.size (fun k_ => k_ ≠ gb118 ∧ k_ ≠ gb155) v152 t151):=⟨h6_⟩
  have n7_ : Aside0 (w34.heap[gb118]? = some (.cells #[.slice Ao24 t133.length co24] 27 (0,0))):=⟨h7_⟩
  have n8_ : Aside0 (w34.heap[gb155]? = some (.cells #[.slice none 0 0] 27 (0,0))):=⟨h8_⟩
  have n9_ : Aside0 (w.heap.size ≤ gb155):=⟨h9_⟩
  have n10_ : Aside0 (w.heap.size ≤ gb155):=⟨h10_⟩
  have n11_ : Aside0 (gb118 ≠ gb155):=⟨h11_⟩
  have n12_ : Aside0 (gb155 ≠ gb118):=⟨h12_⟩
  have n13_ : Aside0 (Below w.heap.size w w34):=⟨h13_⟩
  clear HO117
  clear HO125
  clear HO132
  clear HO135
  clear BK118
  clear HB
  clear h0_ h1_ h2_ h3_ h4_ h5_ h6_ h7_ h8_ h9_ h10_ h11_ h12_ h13_
  have HO117:=n0_
  have HO125:=n1_
  have HO132:=n2_
  have HO135:=n3_
  have HO143:=n4_
  have HO150:=n5_
  have HO153:=n6_
  have BK118:=n7_
  have BK155:=n8_
  have GW155:=n9_
  have GE155:=n10_
  have NB118_155:=n11_
  have NB155_118:=n12_
  have HB:=n13_
  clear n0_ n1_ n2_ n3_ n4_ n5_ n6_ n7_ n8_ n9_ n10_ n11_ n12_ n13_
  have hHeld : w34.cell? ⟨gb118,0,none⟩ = some (.slice Ao24 t133.length co24):=hS_
  obtain ⟨Ao35,co35,eo35⟩:=Kd.N_slice HO153.out
  (first|subst eo35|(injection eo35 with f1_ f2_ f3_;have f4_:=f1_.symm;have f5_:=f3_.symm;clear f1_ f2_ f3_;subst f4_;subst f5_))
  refine norm_ (a':=?_) ?_ ?_
  rotate_left
  ·simp only [putAll,Act.put,List.setIfInBounds_toArray,List.set_cons_zero,List.set_cons_succ]
   rfl
  refine one_ (i:=8) (N:=none) #[true,true,true,true,true,true,true,true,true,false] rfl rfl (one_of HT_.out (by kernel_rfl)) (by decide) (fun K hK => ?_)
  have hs36 : w34.cell? ⟨gb155,0,none⟩ = some (.slice none 0 0):=(blk_cell BK155.out 0).trans rfl
  have hfs36:=blk_frozen BK155.out 0
  have hns36_0:=NB118_155.out
  have hms36_0:=NB155_118.out
  refine skip_ (w1:=?_) (by rfl) rfl ?_ ?_
  rotate_left
  ·go_simp
   rfl
  refine hK.out _ _ (((cell_far (p:=⟨gb155,_,none⟩) NB118_155.out _).trans (hHeld))) (fun hHeld => ?_)
  clear hK K
  refine pure_ (i:=9) (N:=some 4) (v:=?_) (a':=?_) #[true,true,true,true,true,true,true,true,true,true] rfl rfl (any_of HT_.out (by kernel_rfl)) (fun _ _ _ h => h) (Or.inl ⟨by rfl,?_⟩) ?_ ?_
  rotate_left
  ·intro w'
   go_simp
   with_reducible rfl
  rotate_left
  ·simp only [Act.put,List.setIfInBounds_toArray,List.set_cons_zero,List.set_cons_succ,i64_w,i32_w]
   rfl
  refine done_ (done_of HT_.out (by kernel_rfl)) ?_
  have n0_ : Aside0 (Kd.N (Kd.slice 82 k82) 41 (w34.setCell ⟨gb155,0,none⟩ (.slice Ao35 t151.length co35)) w.heap.size (fun k_ => some k_ ≠ (.slice Ao21 t123.length co21 : Value).ownBlock ∧ some k_ ≠ (.slice Ao22 t130.length co22 : Value).ownBlock ∧ some k_ ≠ (.slice Ao24 t133.length co24 : Value).ownBlock ∧ some k_ ≠ (v142 : Value).ownBlock ∧ some k_ ≠ (v149 : Value).ownBlock ∧ some k_ ≠ (.slice Ao35 t151.length co35 : Value).ownBlock ∧ k_ ≠ gb118 ∧ k_ ≠ gb155) (.slice Ao14 y115.length co14) y115):=⟨by (with_reducible repeat first|apply nA|apply nN|apply nD);exact Kd.N_mono (Kd.N_far (p:=⟨gb155,0,none⟩) (Kd.N_mono HO117.out (fun k_ hk => (⟨hk,hk.2.2.2.2.2.2.2⟩ : _ ∧ k_ ≠ gb155))) (fun _ hk => hk.2) (.slice Ao35 t151.length co35)) (fun _ hk => ⟨hk.1.1,⟨hk.1.2.1,⟨hk.1.2.2.1,⟨hk.1.2.2.2.1,⟨hk.1.2.2.2.2.1,⟨hk.1.2.2.2.2.2.1,⟨hk.1.2.2.2.2.2.2.1,hk.1.2.2.2.2.2.2.2⟩⟩⟩⟩⟩⟩⟩)⟩
  have n1_ : Aside0 (Kd.N k35 35 (w34.setCell ⟨gb155,0,none⟩ (.slice Ao35 t151.length co35)) w.heap.size (fun k_ => some k_ ≠ (.slice Ao14 y115.length co14 : Value).ownBlock ∧ some k_ ≠ (.slice Ao22 t130.length co22 : Value).ownBlock ∧ some k_ ≠ (.slice Ao24 t133.length co24 : Value).ownBlock ∧ some k_ ≠ (v142 : Value).ownBlock ∧ some k_ ≠ (v149 : Value).ownBlock ∧ some k_ ≠ (.slice Ao35 t151.length co35 : Value).ownBlock ∧ k_ ≠ gb118 ∧ k_ ≠ gb155) (.slice Ao21 t123.length co21) t123):=⟨by (with_reducible repeat first|apply nA|apply nN|apply nD);exact Kd.N_mono (Kd.N_far (p:=⟨gb155,0,none⟩) (Kd.N_mono HO125.out (fun k_ hk => (⟨hk,hk.2.2.2.2.2.2.2⟩ : _ ∧ k_ ≠ gb155))) (fun _ hk => hk.2) (.slice Ao35 t151.length co35)) (fun _ hk => ⟨hk.1.1,⟨hk.1.2.1,⟨hk.1.2.2.1,⟨hk.1.2.2.2.1,⟨hk.1.2.2.2.2.1,⟨hk.1.2.2.2.2.2.1,⟨hk.1.2.2.2.2.2.2.1,hk.1.2.2.2.2.2.2.2⟩⟩⟩⟩⟩⟩⟩)⟩
  have n2_ : Aside0 (Kd.N k35 35 (w34.setCell ⟨gb155,0,none⟩ (.slice Ao35 t151.length co35)) w.heap.size (fun k_ => some k_ ≠ (.slice Ao14 y115.length co14 : Value).ownBlock ∧ some k_ ≠ (.slice Ao21 t123.length co21 : Value).ownBlock ∧ some k_ ≠ (.slice Ao24 t133.length co24 : Value).ownBlock ∧ some k_ ≠ (v142 : Value).ownBlock ∧ some k_ ≠ (v149 : Value).ownBlock ∧ some k_ ≠ (.slice Ao35 t151.length co35 : Value).ownBlock ∧ k_ ≠ gb118 ∧ k_ ≠ gb155) (.slice Ao22 t130.length co22) t130):=⟨by (with_reducible repeat first|apply nA|apply nN|apply nD);exact Kd.N_mono (Kd.N_far (p:=⟨gb155,0,none⟩) (Kd.N_mono HO132.out (fun k_ hk => (⟨hk,hk.2.2.2.2.2.2.2⟩ : _ ∧ k_ ≠ gb155))) (fun _ hk => hk.2) (.slice Ao35 t151.length co35)) (fun _ hk => ⟨hk.1.1,⟨hk.1.2.1,⟨hk.1.2.2.1,⟨hk.1.2.2.2.1,⟨hk.1.2.2.2.2.1,⟨hk.1.2.2.2.2.2.1,⟨hk.1.2.2.2.2.2.2.1,hk.1.2.2.2.2.2.2.2⟩⟩⟩⟩⟩⟩⟩)⟩
  have n3_ : Aside0 (Kd.N (Kd.slice 82 k82) 41 (w34.setCell ⟨gb155,0,none⟩ (.slice Ao35 t151.length co35)) w.heap.size (fun k_ => some k_ ≠ (v142 : Value).ownBlock ∧ some k_ ≠ (v149 : Value).ownBlock ∧ some k_ ≠ (.slice Ao35 t151.length co35 : Value).ownBlock ∧ k_ ≠ gb118 ∧ k_ ≠ gb155) (.slice Ao24 t133.length co24) t133):=⟨by (with_reducible repeat first|apply nA|apply nN|apply nD);exact Kd.N_mono (Kd.N_far (p:=⟨gb155,0,none⟩) (Kd.N_mono HO135.out (fun k_ hk => (⟨hk,hk.2.2.2.2⟩ : _ ∧ k_ ≠ gb155))) (fun _ hk => hk.2) (.slice Ao35 t151.length co35)) (fun _ hk => ⟨hk.1.1,⟨hk.1.2.1,⟨hk.1.2.2.1,⟨hk.1.2.2.2.1,hk.1.2.2.2.2⟩⟩⟩⟩)⟩
  have n4_ : Aside0 (Kd.N k35 35 (w34.setCell ⟨gb155,0,none⟩ (.slice Ao35 t151.length co35)) w.heap.size (fun k_ => some k_ ≠ (.slice Ao14 y115.length co14 : Value).ownBlock ∧ some k_ ≠ (.slice Ao21 t123.length co21 : Value).ownBlock ∧ some k_ ≠ (.slice Ao22 t130.length co22 : Value).ownBlock ∧ some k_ ≠ (.slice Ao24 t133.length co24 : Value).ownBlock ∧ some k_ ≠ (v149 : Value).ownBlock ∧ some k_ ≠ (.slice Ao35 t151.length co35 : Value).ownBlock ∧ k_ ≠ gb118 ∧ k_ ≠ gb155) v142 t141):=⟨by (with_reducible repeat first|apply nA|apply nN|apply nD);exact Kd.N_mono (Kd.N_far (p:=⟨gb155,0,none⟩) (Kd.N_mono HO143.out (fun k_ hk => (⟨hk,hk.2.2.2.2.2.2.2⟩ : _ ∧ k_ ≠ gb155))) (fun _ hk => hk.2) (.slice Ao35 t151.length co35)) (fun _ hk => ⟨hk.1.1,⟨hk.1.2.1,⟨hk.1.2.2.1,⟨hk.1.2.2.2.1,⟨hk.1.2.2.2.2.1,⟨hk.1.2.2.2.2.2.1,⟨hk.1.2.2.2.2.2.2.1,hk.1.2.2.2.2.2.2.2⟩⟩⟩⟩⟩⟩⟩)⟩
  have n5_ : Aside0 (Kd.N k35 35 (w34.setCell ⟨gb155,0,none⟩ (.slice Ao35 t151.length co35)) w.heap.size (fun k_ => some k_ ≠ (.slice Ao14 y115.length co14 : Value).ownBlock ∧ some k_ ≠ (.slice Ao21 t123.length co21 : Value).ownBlock ∧ some k_ ≠ (.slice Ao22 t130.length co22 : Value).ownBlock ∧ some k_ ≠ (.slice Ao24 t133.length co24 : Value).ownBlock ∧ some k_ ≠ (v142 : Value).ownBlock ∧ some k_ ≠ (.slice Ao35 t151.length co35 : Value).ownBlock ∧ k_ ≠ gb118 ∧ k_ ≠ gb155) v149 t148):=⟨by (with_reducible repeat first|apply nA|apply nN|apply nD);exact Kd.N_mono (Kd.N_far (p:=⟨gb155,0,none⟩) (Kd.N_mono HO150.out (fun k_ hk => (⟨hk,hk.2.2.2.2.2.2.2⟩ : _ ∧ k_ ≠ gb155))) (fun _ hk => hk.2) (.slice Ao35 t151.length co35)) (fun _ hk => ⟨hk.1.1,⟨hk.1.2.1,⟨hk.1.2.2.1,⟨hk.1.2.2.2.1,⟨hk.1.2.2.2.2.1,⟨hk.1.2.2.2.2.2.1,⟨hk.1.2.2.2.2.2.2.1,hk.1.2.2.2.2.2.2.2⟩⟩⟩⟩⟩⟩⟩)⟩
  have n6_ : Aside0 (Kd.N (Kd.slice 82 k82) 41 (w34.setCell ⟨gb155,0,none⟩ (.slice Ao35 t151.length co35)) w.heap.size (fun k_ => k_ ≠ gb118 ∧ k_ ≠ gb155) (.slice Ao35 t151.length co35) t151):=⟨by (with_reducible repeat first|apply nA|apply nN|apply nD);exact Kd.N_mono (Kd.N_far (p:=⟨gb155,0,none⟩) (Kd.N_mono HO153.out (fun k_ hk => (⟨hk,hk.2⟩ : _ ∧ k_ ≠ gb155))) (fun _ hk => hk.2) (.slice Ao35 t151.length co35)) (fun _ hk => ⟨hk.1.1,hk.1.2⟩)⟩
  have n7_ : Aside0 ((w34.setCell ⟨gb155,0,none⟩ (.slice Ao35 t151.length co35)).heap[gb118]? = some (.cells #[.slice Ao24 t133.length co24] 27 (0,0))):=⟨by (with_reducible repeat first|refine bN ?_ _|refine bD ?_|refine bA ?_ _);refine blk_far ?_ NB118_155.out _;(with_reducible repeat first|refine bN ?_ _|refine bD ?_|refine bA ?_ _);exact BK118.out⟩
  have n8_ : Aside0 ((w34.setCell ⟨gb155,0,none⟩ (.slice Ao35 t151.length co35)).heap[gb155]? = some (.cells #[.slice Ao35 t151.length co35] 27 (0,0))):=⟨by (with_reducible repeat first|refine bN ?_ _|refine bD ?_|refine bA ?_ _);refine blk_put (cs:=#[.slice none 0 0]) ?_ 0 _ rfl;(with_reducible repeat first|refine bN ?_ _|refine bD ?_|refine bA ?_ _);exact BK155.out⟩
  have n9_ : Aside0 (Below w.heap.size w (w34.setCell ⟨gb155,0,none⟩ (.slice Ao35 t151.length co35))):=⟨by repeat (first|(with_reducible first|exact HB.out|apply below_alloc|apply pw_below_drewN|apply below_drew1|refine below_set ?_ GE118.out|refine below_set ?_ GE155.out)|exact HB.out)⟩
  (try clear HO117)
  (try clear HO125)
  (try clear HO132)
  (try clear HO135)
  (try clear HO143)
  (try clear HO150)
  (try clear HO153)
  (try clear BK118)
  (try clear BK155)
  (try clear HB)
  generalize (w34.setCell ⟨gb155,0,none⟩ (.slice Ao35 t151.length co35)) = w37 at n0_ n1_ n2_ n3_ n4_ n5_ n6_ n7_ n8_ n9_ ⊢
  have HO117:=n0_
  have HO125:=n1_
  have HO132:=n2_
  have HO135:=n3_
  have HO143:=n4_
  have HO150:=n5_
  have HO153:=n6_
  have BK118:=n7_
  have BK155:=n8_
  have HB:=n9_
  clear n0_ n1_ n2_ n3_ n4_ n5_ n6_ n7_ n8_ n9_
  have hnb38:=NB155_118.out
  have hnc38:=NB118_155.out
  have hcz39_0 : w37.cell? ⟨gb155,0,none⟩ = some (.slice Ao35 t151.length co35):=(blk_cell BK155.out 0).trans rfl
  have hfz39_0:=blk_frozen BK155.out 0
  try go_wp2_with (first|((with_reducible refine gate_callee (f:=13) rfl ?_);refine goesL_ (some 27) rfl rfl Try.func13 (by kernel_rfl) rfl #[.agg #[.slice Ao35 t151.length co35], .int .i64 0] rfl (by (try simp only [List.map_toArray,List.map_cons,List.map_nil]);first|done|rfl|(simp only [List.length_drop,List.length_take];rfl)|(go_simp;done)|(go_simp;simp;done)) ?_;(with_reducible refine (heap_First.calls (fun k_ => (k_ ≠ gb118 ∧ k_ ≠ gb155)) _ _ t151 0 t156 t157 t158 t159 t160 t163 _ ?side1 A8.out).mono ?_);(case side1 => exact Kd.N_V (HO153.out));rintro e w40 ⟨v161,rfl,ho0,hb⟩;refine ⟨_,rfl,?_⟩;have n0_:=Aside0.mk (Kd.N_below (by (with_reducible repeat first|apply nA|apply nN|apply nD);exact HO117.out) hb);have n1_:=Aside0.mk (Kd.N_below (by (with_reducible repeat first|apply nA|apply nN|apply nD);exact HO125.out) hb);have n2_:=Aside0.mk (Kd.N_below (by (with_reducible repeat first|apply nA|apply nN|apply nD);exact HO132.out) hb);have n3_:=Aside0.mk (Kd.N_below (by (with_reducible repeat first|apply nA|apply nN|apply nD);exact HO135.out) hb);have n4_:=Aside0.mk (Kd.N_below (by (with_reducible repeat first|apply nA|apply nN|apply nD);exact HO143.out) hb);have n5_:=Aside0.mk (Kd.N_below (by (with_reducible repeat first|apply nA|apply nN|apply nD);exact HO150.out) hb);have n6_:=Aside0.mk (Kd.N_below (by (with_reducible repeat first|apply nA|apply nN|apply nD);exact HO153.out) hb);have n7_:=Aside0.mk (Kd.V_lower (Kd.V_mono (ok':=fun k_ => k_ ≠ gb118 ∧ k_ ≠ gb155) ho0 (fun k_ hk_ => ⟨Or.elim hk_ (fun hs_ => hs_.1) (fun hn_ => (Kd.freshB (g:=gb118) (o := .cells #[.slice Ao24 t133.length co24] 27 (0,0)) (by (with_reducible repeat first|refine bN ?_ _|refine bD ?_|refine bA ?_ _);exact BK118.out) k_ hn_)),Or.elim hk_ (fun hs_ => hs_.2) (fun hn_ => (Kd.freshB (g:=gb155) (o := .cells #[.slice Ao35 t151.length co35] 27 (0,0)) (by (with_reducible repeat first|refine bN ?_ _|refine bD ?_|refine bA ?_ _);exact BK155.out) k_ hn_))⟩)) (below_size (by repeat (first|(with_reducible first|exact HB.out|apply below_alloc|apply pw_below_drewN|apply below_drew1|refine below_set ?_ GE118.out|refine below_set ?_ GE155.out)|exact HB.out))));have n8_:=Aside0.mk (blk_below (g:=gb118) (o := .cells #[.slice Ao24 t133.length co24] 27 (0,0)) (by (with_reducible repeat first|refine bN ?_ _|refine bD ?_|refine bA ?_ _);exact BK118.out) hb);have n9_:=Aside0.mk (blk_below (g:=gb155) (o := .cells #[.slice Ao35 t151.length co35] 27 (0,0)) (by (with_reducible repeat first|refine bN ?_ _|refine bD ?_|refine bA ?_ _);exact BK155.out) hb);have n10_:=Aside0.mk (below_step (by repeat (first|(with_reducible first|exact HB.out|apply below_alloc|apply pw_below_drewN|apply below_drew1|refine below_set ?_ GE118.out|refine below_set ?_ GE155.out)|exact HB.out)) hb);clear HO117;clear HO125;clear HO132;clear HO135;clear HO143;clear HO150;clear HO153;clear BK118;clear BK155;clear HB;have HO117:=n0_;have HO125:=n1_;have HO132:=n2_;have HO135:=n3_;have HO143:=n4_;have HO150:=n5_;have HO153:=n6_;have HO162:=n7_;have BK118:=n8_;have BK155:=n9_;have HB:=n10_;clear n0_ n1_ n2_ n3_ n4_ n5_ n6_ n7_ n8_ n9_ n10_;(try clear hb);(try clear hb2);(try clear hk);(try clear hi);(try clear ho0))|((with_reducible refine gate_dst (N:=5) rfl ?_);(try (refine gate_guard (by rfl) ?_;dsimp only));refine box_event ?hg (N:=5) ?hd (cs:=#[.int .i64 0, .int .i64 0, .string (⟨#[]⟩ : ByteArray), .int .i64 0, .slice none 0 0]) (t:=35) ?hr ?_;(case hd => rfl);(case hg => rfl);(case hr => first|(go_simp;done)|(go_simp;rfl));intro gb164 hg w41 hbox hb;have n0_:=Aside0.mk (Kd.N_below (Kd.N_elderB (by (with_reducible repeat first|apply nA|apply nN|apply nD);exact HO117.out) gb164 (Nat.le_of_eq hg.symm)) hb);have n1_:=Aside0.mk (Kd.N_below (Kd.N_elderB (by (with_reducible repeat first|apply nA|apply nN|apply nD);exact HO125.out) gb164 (Nat.le_of_eq hg.symm)) hb);have n2_:=Aside0.mk (Kd.N_below (Kd.N_elderB (by (with_reducible repeat first|apply nA|apply nN|apply nD);exact HO132.out) gb164 (Nat.le_of_eq hg.symm)) hb);have n3_:=Aside0.mk (Kd.N_below (Kd.N_elderB (by (with_reducible repeat first|apply nA|apply nN|apply nD);exact HO135.out) gb164 (Nat.le_of_eq hg.symm)) hb);have n4_:=Aside0.mk (Kd.N_below (Kd.N_elderB (by (with_reducible repeat first|apply nA|apply nN|apply nD);exact HO143.out) gb164 (Nat.le_of_eq hg.symm)) hb);have n5_:=Aside0.mk (Kd.N_below (Kd.N_elderB (by (with_reducible repeat first|apply nA|apply nN|apply nD);exact HO150.out) gb164 (Nat.le_of_eq hg.symm)) hb);have n6_:=Aside0.mk (Kd.N_below (Kd.N_elderB (by (with_reducible repeat first|apply nA|apply nN|apply nD);exact HO153.out) gb164 (Nat.le_of_eq hg.symm)) hb);have n7_:=Aside0.mk (Kd.V_below (Kd.V_elderB (by (with_reducible repeat (first|apply Kd.V_alloc|apply Kd.V_drewN|apply Kd.V_drew));exact HO162.out) gb164 (Nat.le_of_eq hg.symm)) hb);have n8_:=Aside0.mk (blk_below (g:=gb118) (o := .cells #[.slice Ao24 t133.length co24] 27 (0,0)) (by (with_reducible repeat first|refine bN ?_ _|refine bD ?_|refine bA ?_ _);exact BK118.out) hb);have n9_:=Aside0.mk (blk_below (g:=gb155) (o := .cells #[.slice Ao35 t151.length co35] 27 (0,0)) (by (with_reducible repeat first|refine bN ?_ _|refine bD ?_|refine bA ?_ _);exact BK155.out) hb);have n10_:=Aside0.mk (below_step (by repeat (first|(with_reducible first|exact HB.out|apply below_alloc|apply pw_below_drewN|apply below_drew1|refine below_set ?_ GE118.out|refine below_set ?_ GE155.out)|exact HB.out)) hb);have n11_:=Aside0.mk (hbox);have n12_:=Aside0.mk ((by rw [hg];exact (below_size (by repeat (first|(with_reducible first|exact HB.out|apply below_alloc|apply pw_below_drewN|apply below_drew1|refine below_set ?_ GE118.out|refine below_set ?_ GE155.out)|exact HB.out))) : w.heap.size ≤ gb164));have n13_:=Aside0.mk ((by rw [hg];exact (below_size (by repeat (first|(with_reducible first|exact HB.out|apply below_alloc|apply pw_below_drewN|apply below_drew1|refine below_set ?_ GE118.out|refine below_set ?_ GE155.out)|exact HB.out))) : w.heap.size ≤ gb164));have n14_:=Aside0.mk ((by rw [hg];exact Nat.ne_of_lt (blk_lt (g:=gb118) (o := .cells #[.slice Ao24 t133.length co24] 27 (0,0)) (by (with_reducible repeat first|refine bN ?_ _|refine bD ?_|refine bA ?_ _);exact BK118.out)) : gb118 ≠ gb164));have n15_:=Aside0.mk ((by rw [hg];exact Nat.ne_of_gt (blk_lt (g:=gb118) (o := .cells #[.slice Ao24 t133.length co24] 27 (0,0)) (by (with_reducible repeat first|refine bN ?_ _|refine bD ?_|refine bA ?_ _);exact BK118.out)) : gb164 ≠ gb118));have n16_:=Aside0.mk ((by rw [hg];exact Nat.ne_of_lt (blk_lt (g:=gb155) (o := .cells #[.slice Ao35 t151.length co35] 27 (0,0)) (by (with_reducible repeat first|refine bN ?_ _|refine bD ?_|refine bA ?_ _);exact BK155.out)) : gb155 ≠ gb164));have n17_:=Aside0.mk ((by rw [hg];exact Nat.ne_of_gt (blk_lt (g:=gb155) (o := .cells #[.slice Ao35 t151.length co35] 27 (0,0)) (by (with_reducible repeat first|refine bN ?_ _|refine bD ?_|refine bA ?_ _);exact BK155.out)) : gb164 ≠ gb155));clear HO117;clear HO125;clear HO132;clear HO135;clear HO143;clear HO150;clear HO153;clear HO162;clear BK118;clear BK155;clear HB;have HO117:=n0_;have HO125:=n1_;have HO132:=n2_;have HO135:=n3_;have HO143:=n4_;have HO150:=n5_;have HO153:=n6_;have HO162:=n7_;have BK118:=n8_;have BK155:=n9_;have HB:=n10_;have BK164:=n11_;have GW164:=n12_;have GE164:=n13_;have NB118_164:=n14_;have NB164_118:=n15_;have NB155_164:=n16_;have NB164_155:=n17_;clear n0_ n1_ n2_ n3_ n4_ n5_ n6_ n7_ n8_ n9_ n10_ n11_ n12_ n13_ n14_ n15_ n16_ n17_;clear hb hbox hg;have hnb42:=NB164_118.out;have hnc42:=NB118_164.out;have hnb43:=NB164_155.out;have hnc43:=NB155_164.out;have hcz44_0 : w41.cell? ⟨gb164,0,none⟩ = some (.int .i64 0):=(blk_cell BK164.out 0).trans rfl;have hcz44_1 : w41.cell? ⟨gb164,1,none⟩ = some (.int .i64 0):=(blk_cell BK164.out 1).trans rfl;have hcz44_2 : w41.cell? ⟨gb164,2,none⟩ = some (.string (⟨#[]⟩ : ByteArray)):=(blk_cell BK164.out 2).trans rfl;have hcz44_3 : w41.cell? ⟨gb164,3,none⟩ = some (.int .i64 0):=(blk_cell BK164.out 3).trans rfl;have hcz44_4 : w41.cell? ⟨gb164,4,none⟩ = some (.slice none 0 0):=(blk_cell BK164.out 4).trans rfl;have hfz44_0:=blk_frozen BK164.out 0;have hfz44_1:=blk_frozen BK164.out 1;have hfz44_2:=blk_frozen BK164.out 2;have hfz44_3:=blk_frozen BK164.out 3;have hfz44_4:=blk_frozen BK164.out 4;obtain ⟨Ao45,co45,eo45⟩:=Kd.V_slice HO162.out;subst eo45))
  have n0_ : Aside0 (Kd.N (Kd.slice 82 k82) 41 (((((w41.setCell ⟨gb164,0,none⟩ (.int .i64 t156)).setCell ⟨gb164,1,none⟩ (.int .i64 t157)).setCell ⟨gb164,2,none⟩ (.string t158)).setCell ⟨gb164,3,none⟩ (.int .i64 t159)).setCell ⟨gb164,4,none⟩ (.slice Ao45 t160.length co45)) w.heap.size (fun k_ => some k_ ≠ (.slice Ao21 t123.length co21 : Value).ownBlock ∧ some k_ ≠ (.slice Ao22 t130.length co22 : Value).ownBlock ∧ some k_ ≠ (.slice Ao24 t133.length co24 : Value).ownBlock ∧ some k_ ≠ (v142 : Value).ownBlock ∧ some k_ ≠ (v149 : Value).ownBlock ∧ some k_ ≠ (.slice Ao35 t151.length co35 : Value).ownBlock ∧ k_ ≠ gb118 ∧ k_ ≠ gb155 ∧ k_ ≠ gb164) (.slice Ao14 y115.length co14) y115):=⟨by (with_reducible repeat first|apply nA|apply nN|apply nD);exact Kd.N_mono (Kd.N_far (p:=⟨gb164,4,none⟩) (Kd.N_far (p:=⟨gb164,3,none⟩) (Kd.N_far (p:=⟨gb164,2,none⟩) (Kd.N_far (p:=⟨gb164,1,none⟩) (Kd.N_far (p:=⟨gb164,0,none⟩) (Kd.N_mono HO117.out (fun k_ hk => (⟨hk,hk.2⟩ : _ ∧ k_ ≠ gb164))) (fun _ hk => hk.2) (.int .i64 t156)) (fun _ hk => hk.2) (.int .i64 t157)) (fun _ hk => hk.2) (.string t158)) (fun _ hk => hk.2) (.int .i64 t159)) (fun _ hk => hk.2) (.slice Ao45 t160.length co45)) (fun _ hk => ⟨hk.1.1.1,⟨hk.1.1.2.1,⟨hk.1.1.2.2.1,⟨hk.1.1.2.2.2.1,⟨hk.1.1.2.2.2.2.1,⟨hk.1.1.2.2.2.2.2.1,⟨hk.1.1.2.2.2.2.2.2.1,⟨hk.1.1.2.2.2.2.2.2.2,hk.1.2⟩⟩⟩⟩⟩⟩⟩⟩)⟩
  have n1_ : Aside0 (Kd.N k35 35 (((((w41.setCell ⟨gb164,0,none⟩ (.int .i64 t156)).setCell ⟨gb164,1,none⟩ (.int .i64 t157)).setCell ⟨gb164,2,none⟩ (.string t158)).setCell ⟨gb164,3,none⟩ (.int .i64 t159)).setCell ⟨gb164,4,none⟩ (.slice Ao45 t160.length co45)) w.heap.size (fun k_ => some k_ ≠ (.slice Ao14 y115.length co14 : Value).ownBlock ∧ some k_ ≠ (.slice Ao22 t130.length co22 : Value).ownBlock ∧ some k_ ≠ (.slice Ao24 t133.length co24 : Value).ownBlock ∧ some k_ ≠ (v142 : Value).ownBlock ∧ some k_ ≠ (v149 : Value).ownBlock ∧ some k_ ≠ (.slice Ao35 t151.length co35 : Value).ownBlock ∧ k_ ≠ gb118 ∧ k_ ≠ gb155 ∧ k_ ≠ gb164) (.slice Ao21 t123.length co21) t123):=⟨by (with_reducible repeat first|apply nA|apply nN|apply nD);exact Kd.N_mono (Kd.N_far (p:=⟨gb164,4,none⟩) (Kd.N_far (p:=⟨gb164,3,none⟩) (Kd.N_far (p:=⟨gb164,2,none⟩) (Kd.N_far (p:=⟨gb164,1,none⟩) (Kd.N_far (p:=⟨gb164,0,none⟩) (Kd.N_mono HO125.out (fun k_ hk => (⟨hk,hk.2⟩ : _ ∧ k_ ≠ gb164))) (fun _ hk => hk.2) (.int .i64 t156)) (fun _ hk => hk.2) (.int .i64 t157)) (fun _ hk => hk.2) (.string t158)) (fun _ hk => hk.2) (.int .i64 t159)) (fun _ hk => hk.2) (.slice Ao45 t160.length co45)) (fun _ hk => ⟨hk.1.1.1,⟨hk.1.1.2.1,⟨hk.1.1.2.2.1,⟨hk.1.1.2.2.2.1,⟨hk.1.1.2.2.2.2.1,⟨hk.1.1.2.2.2.2.2.1,⟨hk.1.1.2.2.2.2.2.2.1,⟨hk.1.1.2.2.2.2.2.2.2,hk.1.2⟩⟩⟩⟩⟩⟩⟩⟩)⟩
  have n2_ : Aside0 (Kd.N k35 35 (((((w41.setCell ⟨gb164,0,none⟩ (.int .i64 t156)).setCell ⟨gb164,1,none⟩ (.int .i64 t157)).setCell ⟨gb164,2,none⟩ (.string t158)).setCell ⟨gb164,3,none⟩ (.int .i64 t159)).setCell ⟨gb164,4,none⟩ (.slice Ao45 t160.length co45)) w.heap.size (fun k_ => some k_ ≠ (.slice Ao14 y115.length co14 : Value).ownBlock ∧ some k_ ≠ (.slice Ao21 t123.length co21 : Value).ownBlock ∧ some k_ ≠ (.slice Ao24 t133.length co24 : Value).ownBlock ∧ some k_ ≠ (v142 : Value).ownBlock ∧ some k_ ≠ (v149 : Value).ownBlock ∧ some k_ ≠ (.slice Ao35 t151.length co35 : Value).ownBlock ∧ k_ ≠ gb118 ∧ k_ ≠ gb155 ∧ k_ ≠ gb164) (.slice Ao22 t130.length co22) t130):=⟨by (with_reducible repeat first|apply nA|apply nN|apply nD);exact Kd.N_mono (Kd.N_far (p:=⟨gb164,4,none⟩) (Kd.N_far (p:=⟨gb164,3,none⟩) (Kd.N_far (p:=⟨gb164,2,none⟩) (Kd.N_far (p:=⟨gb164,1,none⟩) (Kd.N_far (p:=⟨gb164,0,none⟩) (Kd.N_mono HO132.out (fun k_ hk => (⟨hk,hk.2⟩ : _ ∧ k_ ≠ gb164))) (fun _ hk => hk.2) (.int .i64 t156)) (fun _ hk => hk.2) (.int .i64 t157)) (fun _ hk => hk.2) (.string t158)) (fun _ hk => hk.2) (.int .i64 t159)) (fun _ hk => hk.2) (.slice Ao45 t160.length co45)) (fun _ hk => ⟨hk.1.1.1,⟨hk.1.1.2.1,⟨hk.1.1.2.2.1,⟨hk.1.1.2.2.2.1,⟨hk.1.1.2.2.2.2.1,⟨hk.1.1.2.2.2.2.2.1,⟨hk.1.1.2.2.2.2.2.2.1,⟨hk.1.1.2.2.2.2.2.2.2,hk.1.2⟩⟩⟩⟩⟩⟩⟩⟩)⟩
  have n3_ : Aside0 (Kd.N (Kd.slice 82 k82) 41 (((((w41.setCell ⟨gb164,0,none⟩ (.int .i64 t156)).setCell ⟨gb164,1,none⟩ (.int .i64 t157)).setCell ⟨gb164,2,none⟩ (.string t158)).setCell ⟨gb164,3,none⟩ (.int .i64 t159)).setCell ⟨gb164,4,none⟩ (.slice Ao45 t160.length co45)) w.heap.size (fun k_ => some k_ ≠ (v142 : Value).ownBlock ∧ some k_ ≠ (v149 : Value).ownBlock ∧ some k_ ≠ (.slice Ao35 t151.length co35 : Value).ownBlock ∧ k_ ≠ gb118 ∧ k_ ≠ gb155 ∧ k_ ≠ gb164) (.slice Ao24 t133.length co24) t133):=⟨by (with_reducible repeat first|apply nA|apply nN|apply nD);exact Kd.N_mono (Kd.N_far (p:=⟨gb164,4,none⟩) (Kd.N_far (p:=⟨gb164,3,none⟩) (Kd.N_far (p:=⟨gb164,2,none⟩) (Kd.N_far (p:=⟨gb164,1,none⟩) (Kd.N_far (p:=⟨gb164,0,none⟩) (Kd.N_mono HO135.out (fun k_ hk => (⟨hk,hk.2⟩ : _ ∧ k_ ≠ gb164))) (fun _ hk => hk.2) (.int .i64 t156)) (fun _ hk => hk.2) (.int .i64 t157)) (fun _ hk => hk.2) (.string t158)) (fun _ hk => hk.2) (.int .i64 t159)) (fun _ hk => hk.2) (.slice Ao45 t160.length co45)) (fun _ hk => ⟨hk.1.1.1,⟨hk.1.1.2.1,⟨hk.1.1.2.2.1,⟨hk.1.1.2.2.2.1,⟨hk.1.1.2.2.2.2,hk.1.2⟩⟩⟩⟩⟩)⟩
  have n4_ : Aside0 (Kd.N k35 35 (((((w41.setCell ⟨gb164,0,none⟩ (.int .i64 t156)).setCell ⟨gb164,1,none⟩ (.int .i64 t157)).setCell ⟨gb164,2,none⟩ (.string t158)).setCell ⟨gb164,3,none⟩ (.int .i64 t159)).setCell ⟨gb164,4,none⟩ (.slice Ao45 t160.length co45)) w.heap.size (fun k_ => some k_ ≠ (.slice Ao14 y115.length co14 : Value).ownBlock ∧ some k_ ≠ (.slice Ao21 t123.length co21 : Value).ownBlock ∧ some k_ ≠ (.slice Ao22 t130.length co22 : Value).ownBlock ∧ some k_ ≠ (.slice Ao24 t133.length co24 : Value).ownBlock ∧ some k_ ≠ (v149 : Value).ownBlock ∧ some k_ ≠ (.slice Ao35 t151.length co35 : Value).ownBlock ∧ k_ ≠ gb118 ∧ k_ ≠ gb155 ∧ k_ ≠ gb164) v142 t141):=⟨by (with_reducible repeat first|apply nA|apply nN|apply nD);exact Kd.N_mono (Kd.N_far (p:=⟨gb164,4,none⟩) (Kd.N_far (p:=⟨gb164,3,none⟩) (Kd.N_far (p:=⟨gb164,2,none⟩) (Kd.N_far (p:=⟨gb164,1,none⟩) (Kd.N_far (p:=⟨gb164,0,none⟩) (Kd.N_mono HO143.out (fun k_ hk => (⟨hk,hk.2⟩ : _ ∧ k_ ≠ gb164))) (fun _ hk => hk.2) (.int .i64 t156)) (fun _ hk => hk.2) (.int .i64 t157)) (fun _ hk => hk.2) (.string t158)) (fun _ hk => hk.2) (.int .i64 t159)) (fun _ hk => hk.2) (.slice Ao45 t160.length co45)) (fun _ hk => ⟨hk.1.1.1,⟨hk.1.1.2.1,⟨hk.1.1.2.2.1,⟨hk.1.1.2.2.2.1,⟨hk.1.1.2.2.2.2.1,⟨hk.1.1.2.2.2.2.2.1,⟨hk.1.1.2.2.2.2.2.2.1,⟨hk.1.1.2.2.2.2.2.2.2,hk.1.2⟩⟩⟩⟩⟩⟩⟩⟩)⟩
  have n5_ : Aside0 (Kd.N k35 35 (((((w41.setCell ⟨gb164,0,none⟩ (.int .i64 t156)).setCell ⟨gb164,1,none⟩ (.int .i64 t157)).setCell ⟨gb164,2,none⟩ (.string t158)).setCell ⟨gb164,3,none⟩ (.int .i64 t159)).setCell ⟨gb164,4,none⟩ (.slice Ao45 t160.length co45)) w.heap.size (fun k_ => some k_ ≠ (.slice Ao14 y115.length co14 : Value).ownBlock ∧ some k_ ≠ (.slice Ao21 t123.length co21 : Value).ownBlock ∧ some k_ ≠ (.slice Ao22 t130.length co22 : Value).ownBlock ∧ some k_ ≠ (.slice Ao24 t133.length co24 : Value).ownBlock ∧ some k_ ≠ (v142 : Value).ownBlock ∧ some k_ ≠ (.slice Ao35 t151.length co35 : Value).ownBlock ∧ k_ ≠ gb118 ∧ k_ ≠ gb155 ∧ k_ ≠ gb164) v149 t148):=⟨by (with_reducible repeat first|apply nA|apply nN|apply nD);exact Kd.N_mono (Kd.N_far (p:=⟨gb164,4,none⟩) (Kd.N_far (p:=⟨gb164,3,none⟩) (Kd.N_far (p:=⟨gb164,2,none⟩) (Kd.N_far (p:=⟨gb164,1,none⟩) (Kd.N_far (p:=⟨gb164,0,none⟩) (Kd.N_mono HO150.out (fun k_ hk => (⟨hk,hk.2⟩ : _ ∧ k_ ≠ gb164))) (fun _ hk => hk.2) (.int .i64 t156)) (fun _ hk => hk.2) (.int .i64 t157)) (fun _ hk => hk.2) (.string t158)) (fun _ hk => hk.2) (.int .i64 t159)) (fun _ hk => hk.2) (.slice Ao45 t160.length co45)) (fun _ hk => ⟨hk.1.1.1,⟨hk.1.1.2.1,⟨hk.1.1.2.2.1,⟨hk.1.1.2.2.2.1,⟨hk.1.1.2.2.2.2.1,⟨hk.1.1.2.2.2.2.2.1,⟨hk.1.1.2.2.2.2.2.2.1,⟨hk.1.1.2.2.2.2.2.2.2,hk.1.2⟩⟩⟩⟩⟩⟩⟩⟩)⟩
  have n6_ : Aside0 (Kd.N (Kd.slice 82 k82) 41 (((((w41.setCell ⟨gb164,0,none⟩ (.int .i64 t156)).setCell ⟨gb164,1,none⟩ (.int .i64 t157)).setCell ⟨gb164,2,none⟩ (.string t158)).setCell ⟨gb164,3,none⟩ (.int .i64 t159)).setCell ⟨gb164,4,none⟩ (.slice Ao45 t160.length co45)) w.heap.size (fun k_ => k_ ≠ gb118 ∧ k_ ≠ gb155 ∧ k_ ≠ gb164) (.slice Ao35 t151.length co35) t151):=⟨by (with_reducible repeat first|apply nA|apply nN|apply nD);exact Kd.N_mono (Kd.N_far (p:=⟨gb164,4,none⟩) (Kd.N_far (p:=⟨gb164,3,none⟩) (Kd.N_far (p:=⟨gb164,2,none⟩) (Kd.N_far (p:=⟨gb164,1,none⟩) (Kd.N_far (p:=⟨gb164,0,none⟩) (Kd.N_mono HO153.out (fun k_ hk => (⟨hk,hk.2⟩ : _ ∧ k_ ≠ gb164))) (fun _ hk => hk.2) (.int .i64 t156)) (fun _ hk => hk.2) (.int .i64 t157)) (fun _ hk => hk.2) (.string t158)) (fun _ hk => hk.2) (.int .i64 t159)) (fun _ hk => hk.2) (.slice Ao45 t160.length co45)) (fun _ hk => ⟨hk.1.1.1,⟨hk.1.1.2,hk.1.2⟩⟩)⟩
  have n7_ : Aside0 (Kd.V k35 35 (((((w41.setCell ⟨gb164,0,none⟩ (.int .i64 t156)).setCell ⟨gb164,1,none⟩ (.int .i64 t157)).setCell ⟨gb164,2,none⟩ (.string t158)).setCell ⟨gb164,3,none⟩ (.int .i64 t159)).setCell ⟨gb164,4,none⟩ (.slice Ao45 t160.length co45)) w.heap.size (fun k_ => k_ ≠ gb118 ∧ k_ ≠ gb155 ∧ k_ ≠ gb164) (.slice Ao45 t160.length co45) t160):=⟨by (with_reducible repeat (first|apply Kd.V_alloc|apply Kd.V_drewN|apply Kd.V_drew));exact Kd.V_mono (Kd.V_far (p:=⟨gb164,4,none⟩) (Kd.V_far (p:=⟨gb164,3,none⟩) (Kd.V_far (p:=⟨gb164,2,none⟩) (Kd.V_far (p:=⟨gb164,1,none⟩) (Kd.V_far (p:=⟨gb164,0,none⟩) (Kd.V_mono HO162.out (fun k_ hk => (⟨hk,hk.2⟩ : _ ∧ k_ ≠ gb164))) (fun _ hk => hk.2) (.int .i64 t156)) (fun _ hk => hk.2) (.int .i64 t157)) (fun _ hk => hk.2) (.string t158)) (fun _ hk => hk.2) (.int .i64 t159)) (fun _ hk => hk.2) (.slice Ao45 t160.length co45)) (fun _ hk => ⟨hk.1.1.1,⟨hk.1.1.2,hk.1.2⟩⟩)⟩
  have n8_ : Aside0 ((((((w41.setCell ⟨gb164,0,none⟩ (.int .i64 t156)).setCell ⟨gb164,1,none⟩ (.int .i64 t157)).setCell ⟨gb164,2,none⟩ (.string t158)).setCell ⟨gb164,3,none⟩ (.int .i64 t159)).setCell ⟨gb164,4,none⟩ (.slice Ao45 t160.length co45)).heap[gb118]? = some (.cells #[.slice Ao24 t133.length co24] 27 (0,0))):=⟨by (with_reducible repeat first|refine bN ?_ _|refine bD ?_|refine bA ?_ _);refine blk_far ?_ NB118_164.out _;(with_reducible repeat first|refine bN ?_ _|refine bD ?_|refine bA ?_ _);refine blk_far ?_ NB118_164.out _;(with_reducible repeat first|refine bN ?_ _|refine bD ?_|refine bA ?_ _);refine blk_far ?_ NB118_164.out _;(with_reducible repeat first|refine bN ?_ _|refine bD ?_|refine bA ?_ _);refine blk_far ?_ NB118_164.out _;(with_reducible repeat first|refine bN ?_ _|refine bD ?_|refine bA ?_ _);refine blk_far ?_ NB118_164.out _;(with_reducible repeat first|refine bN ?_ _|refine bD ?_|refine bA ?_ _);exact BK118.out⟩
  have n9_ : Aside0 ((((((w41.setCell ⟨gb164,0,none⟩ (.int .i64 t156)).setCell ⟨gb164,1,none⟩ (.int .i64 t157)).setCell ⟨gb164,2,none⟩ (.string t158)).setCell ⟨gb164,3,none⟩ (.int .i64 t159)).setCell ⟨gb164,4,none⟩ (.slice Ao45 t160.length co45)).heap[gb155]? = some (.cells #[.slice Ao35 t151.length co35] 27 (0,0))):=⟨by (with_reducible repeat first|refine bN ?_ _|refine bD ?_|refine bA ?_ _);refine blk_far ?_ NB155_164.out _;(with_reducible repeat first|refine bN ?_ _|refine bD ?_|refine bA ?_ _);refine blk_far ?_ NB155_164.out _;(with_reducible repeat first|refine bN ?_ _|refine bD ?_|refine bA ?_ _);refine blk_far ?_ NB155_164.out _;(with_reducible repeat first|refine bN ?_ _|refine bD ?_|refine bA ?_ _);refine blk_far ?_ NB155_164.out _;(with_reducible repeat first|refine bN ?_ _|refine bD ?_|refine bA ?_ _);refine blk_far ?_ NB155_164.out _;(with_reducible repeat first|refine bN ?_ _|refine bD ?_|refine bA ?_ _);exact BK155.out⟩
  have n10_ : Aside0 ((((((w41.setCell ⟨gb164,0,none⟩ (.int .i64 t156)).setCell ⟨gb164,1,none⟩ (.int .i64 t157)).setCell ⟨gb164,2,none⟩ (.string t158)).setCell ⟨gb164,3,none⟩ (.int .i64 t159)).setCell ⟨gb164,4,none⟩ (.slice Ao45 t160.length co45)).heap[gb164]? = some (.cells #[.int .i64 t156, .int .i64 t157, .string t158, .int .i64 t159, .slice Ao45 t160.length co45] 35 (0,0))):=⟨by (with_reducible repeat first|refine bN ?_ _|refine bD ?_|refine bA ?_ _);refine blk_put (cs:=#[.int .i64 t156, .int .i64 t157, .string t158, .int .i64 t159, .slice none 0 0]) ?_ 4 _ rfl;(with_reducible repeat first|refine bN ?_ _|refine bD ?_|refine bA ?_ _);refine blk_put (cs:=#[.int .i64 t156, .int .i64 t157, .string t158, .int .i64 0, .slice none 0 0]) ?_ 3 _ rfl;(with_reducible repeat first|refine bN ?_ _|refine bD ?_|refine bA ?_ _);refine blk_put (cs:=#[.int .i64 t156, .int .i64 t157, .string (⟨#[]⟩ : ByteArray), .int .i64 0, .slice none 0 0]) ?_ 2 _ rfl;(with_reducible repeat first|refine bN ?_ _|refine bD ?_|refine bA ?_ _);refine blk_put (cs:=#[.int .i64 t156, .int .i64 0, .string (⟨#[]⟩ : ByteArray), .int .i64 0, .slice none 0 0]) ?_ 1 _ rfl;(with_reducible repeat first|refine bN ?_ _|refine bD ?_|refine bA ?_ _);refine blk_put (cs:=#[.int .i64 0, .int .i64 0, .string (⟨#[]⟩ : ByteArray), .int .i64 0, .slice none 0 0]) ?_ 0 _ rfl;(with_reducible repeat first|refine bN ?_ _|refine bD ?_|refine bA ?_ _);exact BK164.out⟩
  have n11_ : Aside0 (Below w.heap.size w (((((w41.setCell ⟨gb164,0,none⟩ (.int .i64 t156)).setCell ⟨gb164,1,none⟩ (.int .i64 t157)).setCell ⟨gb164,2,none⟩ (.string t158)).setCell ⟨gb164,3,none⟩ (.int .i64 t159)).setCell ⟨gb164,4,none⟩ (.slice Ao45 t160.length co45))):=⟨by repeat (first|(with_reducible first|exact HB.out|apply below_alloc|apply pw_below_drewN|apply below_drew1|refine below_set ?_ GE118.out|refine below_set ?_ GE155.out|refine below_set ?_ GE164.out)|exact HB.out)⟩
  (try clear HO117)
  (try clear HO125)
  (try clear HO132)
  (try clear HO135)
  (try clear HO143)
  (try clear HO150)
  (try clear HO153)
  (try clear HO162)
  (try clear BK118)
  (try clear BK155)
  (try clear BK164)
  (try clear HB)
  generalize (((((w41.setCell ⟨gb164,0,none⟩ (.int .i64 t156)).setCell ⟨gb164,1,none⟩ (.int .i64 t157)).setCell ⟨gb164,2,none⟩ (.string t158)).setCell ⟨gb164,3,none⟩ (.int .i64 t159)).setCell ⟨gb164,4,none⟩ (.slice Ao45 t160.length co45)) = w46 at n0_ n1_ n2_ n3_ n4_ n5_ n6_ n7_ n8_ n9_ n10_ n11_ ⊢
  have HO117:=n0_
  have HO125:=n1_
  have HO132:=n2_
  have HO135:=n3_
  have HO143:=n4_
  have HO150:=n5_
  have HO153:=n6_
  have HO162:=n7_
  have BK118:=n8_
  have BK155:=n9_
  have BK164:=n10_
  have HB:=n11_
  clear n0_ n1_ n2_ n3_ n4_ n5_ n6_ n7_ n8_ n9_ n10_ n11_
  have n0_:=Aside0.mk (Kd.N_drew HO117.out)
  have n1_:=Aside0.mk (Kd.N_drew HO125.out)
  have n2_:=Aside0.mk (Kd.N_drew HO132.out)
  have n3_:=Aside0.mk (Kd.N_drew HO135.out)
  have n4_:=Aside0.mk (Kd.N_drew HO143.out)
  have n5_:=Aside0.mk (Kd.N_drew HO150.out)
  have n6_:=Aside0.mk (Kd.N_drew HO153.out)
  have n7_:=Aside0.mk (Kd.V_drew HO162.out)
  have n8_:=Aside0.mk (blk_drew BK118.out)
  have n9_:=Aside0.mk (blk_drew BK155.out)
  have n10_:=Aside0.mk (blk_drew BK164.out)
  have n11_:=Aside0.mk (below_drew1 HB.out)
  clear HO117
  clear HO125
  clear HO132
  clear HO135
  clear HO143
  clear HO150
  clear HO153
  clear HO162
  clear BK118
  clear BK155
  clear BK164
  clear HB
  have HO117:=n0_
  have HO125:=n1_
  have HO132:=n2_
  have HO135:=n3_
  have HO143:=n4_
  have HO150:=n5_
  have HO153:=n6_
  have HO162:=n7_
  have BK118:=n8_
  have BK155:=n9_
  have BK164:=n10_
  have HB:=n11_
  clear n0_ n1_ n2_ n3_ n4_ n5_ n6_ n7_ n8_ n9_ n10_ n11_
  refine start_ (n:=9) (S:=fun w' => w'.cell? ⟨gb155,0,none⟩ = some (.slice Ao35 t151.length co35)) (ds:=[]) #[false,false,false,false,false,false,false,false,false] (by kernel_rfl) rfl rfl ((blk_cell BK155.out 0).trans rfl) (fun hHeld => ?_);refine with_tabW windlasslaw4_known.tab5 windlasslaw4_known.bits5 (fun HT_ HW_ => ?_)
  generalize w46.drew = w47 at HO117 HO125 HO132 HO135 HO143 HO150 HO153 HO162 BK118 BK155 BK164 HB hHeld ⊢
  refine take_ (i:=0) (N:=some 31) (v:=?_) (a':=?_) #[true,false,false,false,false,false,false,false,false] rfl rfl (take_ofW HT_.out HW_.out (by kernel_rfl)) (fun _ _ _ h => h) (Or.inl ⟨by rfl,?_⟩) hHeld ?_ ?_
  rotate_left
  ·intro w' s0
   go_simp
   with_reducible rfl
  rotate_left
  ·simp only [Act.put,List.setIfInBounds_toArray,List.set_cons_zero,List.set_cons_succ,i64_w,i32_w]
   rfl
  refine join_ (σ:=Value × Value × Nat) 2 #[true,true,true,true,true,true,true,false,false] (fun s_ => [(32, .agg #[.int .i64 t165, .int .i64 t166, .string t167, .int .i64 t168,s_.1]),(33, .tuple #[.agg #[.int .i64 t172, .int .i64 t173, .string t174, .int .i64 t175,s_.2.1], .bool t179]),(7, .pointer (some ⟨s_.2.2,0,none⟩)),(30, .tuple #[.agg #[.int .i64 t172, .int .i64 t173, .string t174, .int .i64 t175,s_.2.1], .bool t179]),(34, .agg #[.int .i64 t172, .int .i64 t173, .string t174, .int .i64 t175,s_.2.1]),(35, .bool t179)]) (fun s_ w' => (w'.cell? ⟨gb155,0,none⟩ = some (.slice Ao35 t151.length co35)) ∧ (Kd.N (Kd.slice 82 k82) 41 w' w.heap.size (fun k_ => some k_ ≠ (.slice Ao21 t123.length co21 : Value).ownBlock ∧ some k_ ≠ (.slice Ao22 t130.length co22 : Value).ownBlock ∧ some k_ ≠ (.slice Ao24 t133.length co24 : Value).ownBlock ∧ some k_ ≠ (v142 : Value).ownBlock ∧ some k_ ≠ (v149 : Value).ownBlock ∧ some k_ ≠ (.slice Ao35 t151.length co35 : Value).ownBlock ∧ some k_ ≠ (s_.1 : Value).ownBlock ∧ k_ ≠ gb118 ∧ k_ ≠ gb155 ∧ k_ ≠ gb164 ∧ k_ ≠ s_.2.2) (.slice Ao14 y115.length co14) y115) ∧ (Kd.N k35 35 w' w.heap.size (fun k_ => some k_ ≠ (.slice Ao14 y115.length co14 : Value).ownBlock ∧ some k_ ≠ (.slice Ao22 t130.length co22 : Value).ownBlock ∧ some k_ ≠ (.slice Ao24 t133.length co24 : Value).ownBlock ∧ some k_ ≠ (v142 : Value).ownBlock ∧ some k_ ≠ (v149 : Value).ownBlock ∧ some k_ ≠ (.slice Ao35 t151.length co35 : Value).ownBlock ∧ some k_ ≠ (s_.1 : Value).ownBlock ∧ k_ ≠ gb118 ∧ k_ ≠ gb155 ∧ k_ ≠ gb164 ∧ k_ ≠ s_.2.2) (.slice Ao21 t123.length co21) t123) ∧ (Kd.N k35 35 w' w.heap.size (fun k_ => some k_ ≠ (.slice Ao14 y115.length co14 : Value).ownBlock ∧ some k_ ≠ (.slice Ao21 t123.length co21 : Value).ownBlock ∧ some k_ ≠ (.slice Ao24 t133.length co24 : Value).ownBlock ∧ some k_ ≠ (v142 : Value).ownBlock ∧ some k_ ≠ (v149 : Value).ownBlock ∧ some k_ ≠ (.slice Ao35 t151.length co35 : Value).ownBlock ∧ some k_ ≠ (s_.1 : Value).ownBlock ∧ k_ ≠ gb118 ∧ k_ ≠ gb155 ∧ k_ ≠ gb164 ∧ k_ ≠ s_.2.2) (.slice Ao22 t130.length co22) t130) ∧ (Kd.N (Kd.slice 82 k82) 41 w' w.heap.size (fun k_ => some k_ ≠ (v142 : Value).ownBlock ∧ some k_ ≠ (v149 : Value).ownBlock ∧ some k_ ≠ (.slice Ao35 t151.length co35 : Value).ownBlock ∧ some k_ ≠ (s_.1 : Value).ownBlock ∧ k_ ≠ gb118 ∧ k_ ≠ gb155 ∧ k_ ≠ gb164 ∧ k_ ≠ s_.2.2) (.slice Ao24 t133.length co24) t133) ∧ (Kd.N k35 35 w' w.heap.size (fun k_ => some k_ ≠ (.slice Ao14 y115.length co14 : Value).ownBlock ∧ some k_ ≠ (.slice Ao21 t123.length co21 : Value).ownBlock ∧ some k_ ≠ (.slice Ao22 t130.length co22 : Value).ownBlock ∧ some k_ ≠ (.slice Ao24 t133.length co24 : Value).ownBlock ∧ some k_ ≠ (v149 : Value).ownBlock ∧ some k_ ≠ (.slice Ao35 t151.length co35 : Value).ownBlock ∧ some k_ ≠ (s_.1 : Value).ownBlock ∧ k_ ≠ gb118 ∧ k_ ≠ gb155 ∧ k_ ≠ gb164 ∧ k_ ≠ s_.2.2) v142 t141) ∧ (Kd.N k35 35 w' w.heap.size (fun k_ => some k_ ≠ (.slice Ao14 y115.length co14 : Value).ownBlock ∧ some k_ ≠ (.slice Ao21 t123.length co21 : Value).ownBlock ∧ some k_ ≠ (.slice Ao22 t130.length co22 : Value).ownBlock ∧ some k_ ≠ (.slice Ao24 t133.length co24 : Value).ownBlock ∧ some k_ ≠ (v142 : Value).ownBlock ∧ some k_ ≠ (.slice Ao35 t151.length co35 : Value).ownBlock ∧ some k_ ≠ (s_.1 : Value).ownBlock ∧ k_ ≠ gb118 ∧ k_ ≠ gb155 ∧ k_ ≠ gb164 ∧ k_ ≠ s_.2.2) v149 t148) ∧ (Kd.N (Kd.slice 82 k82) 41 w' w.heap.size (fun k_ => some k_ ≠ (s_.1 : Value).ownBlock ∧ k_ ≠ gb118 ∧ k_ ≠ gb155 ∧ k_ ≠ gb164 ∧ k_ ≠ s_.2.2) (.slice Ao35 t151.length co35) t151) ∧ (Kd.V k35 35 w' w.heap.size (fun k_ => some k_ ≠ (s_.1 : Value).ownBlock ∧ k_ ≠ gb118 ∧ k_ ≠ gb155 ∧ k_ ≠ gb164 ∧ k_ ≠ s_.2.2) (.slice Ao45 t160.length co45) t160) ∧ (Kd.N k35 35 w' w.heap.size (fun k_ => some k_ ≠ (.slice Ao14 y115.length co14 : Value).ownBlock ∧ some k_ ≠ (.slice Ao21 t123.length co21 : Value).ownBlock ∧ some k_ ≠ (.slice Ao22 t130.length co22 : Value).ownBlock ∧ some k_ ≠ (.slice Ao24 t133.length co24 : Value).ownBlock ∧ some k_ ≠ (v142 : Value).ownBlock ∧ some k_ ≠ (v149 : Value).ownBlock ∧ some k_ ≠ (.slice Ao35 t151.length co35 : Value).ownBlock ∧ k_ ≠ gb118 ∧ k_ ≠ gb155 ∧ k_ ≠ gb164 ∧ k_ ≠ s_.2.2) s_.1 t169) ∧ (Kd.V k35 35 w' w.heap.size (fun k_ => some k_ ≠ (s_.1 : Value).ownBlock ∧ k_ ≠ gb118 ∧ k_ ≠ gb155 ∧ k_ ≠ gb164 ∧ k_ ≠ s_.2.2) s_.2.1 t176) ∧ (w'.heap[gb118]? = some (.cells #[.slice Ao24 t133.length co24] 27 (0,0))) ∧ (w'.heap[gb155]? = some (.cells #[.slice Ao35 t151.length co35] 27 (0,0))) ∧ (w'.heap[gb164]? = some (.cells #[.int .i64 t156, .int .i64 t157, .string t158, .int .i64 t159, .slice Ao45 t160.length co45] 35 (0,0))) ∧ (w'.heap[s_.2.2]? = some (.cells #[.int .i64 0, .int .i64 0, .string (⟨#[]⟩ : ByteArray), .int .i64 0, .slice none 0 0] 35 (0,0))) ∧ (w.heap.size ≤ s_.2.2) ∧ (w.heap.size ≤ s_.2.2) ∧ (gb118 ≠ s_.2.2) ∧ (s_.2.2 ≠ gb118) ∧ (gb155 ≠ s_.2.2) ∧ (s_.2.2 ≠ gb155) ∧ (gb164 ≠ s_.2.2) ∧ (s_.2.2 ≠ gb164) ∧ (Below w.heap.size w w')) ?_ ?_
  rotate_left
  ·intro hCont
   refine two_ (i:=1) (j:=6) (Ni:=some 32) (Nj:=some 7) #[true,true,false,false,false,false,false,false,false] #[true,false,false,false,false,false,true,false,false] rfl rfl rfl rfl (two_of HT_.out (by kernel_rfl)) (by decide) (by decide) (fun K hK => ?_) (fun K hK => ?_)
   ·skip
    refine goes_ Try.func11 (by kernel_rfl) rfl #[.int .i64 1] (by rfl) rfl rfl (by (try simp only [List.map_toArray,List.map_cons,List.map_nil]);first|done|rfl|(simp only [List.length_drop,List.length_take];rfl)|(go_simp;done)|(go_simp;simp;done)) ?_
    with_reducible refine (windlasslaw4_num.calls 1 t165 t166 t167 t168 t169 _ A9.out).mono ?_
    rintro e w48 ⟨v170,rfl,ho0,hb⟩
    refine ⟨_,rfl,?_⟩
    have n0_:=Aside0.mk (Kd.N_elder' (by (with_reducible repeat first|apply nA|apply nN|apply nD);exact HO117.out) (by first|exact Kd.N_base ho0|exact Kd.R_base ho0) hb)
    have n1_:=Aside0.mk (Kd.N_elder' (by (with_reducible repeat first|apply nA|apply nN|apply nD);exact HO125.out) (by first|exact Kd.N_base ho0|exact Kd.R_base ho0) hb)
    have n2_:=Aside0.mk (Kd.N_elder' (by (with_reducible repeat first|apply nA|apply nN|apply nD);exact HO132.out) (by first|exact Kd.N_base ho0|exact Kd.R_base ho0) hb)
    have n3_:=Aside0.mk (Kd.N_elder' (by (with_reducible repeat first|apply nA|apply nN|apply nD);exact HO135.out) (by first|exact Kd.N_base ho0|exact Kd.R_base ho0) hb)
    have n4_:=Aside0.mk (Kd.N_elder' (by (with_reducible repeat first|apply nA|apply nN|apply nD);exact HO143.out) (by first|exact Kd.N_base ho0|exact Kd.R_base ho0) hb)
    have n5_:=Aside0.mk (Kd.N_elder' (by (with_reducible repeat first|apply nA|apply nN|apply nD);exact HO150.out) (by first|exact Kd.N_base ho0|exact Kd.R_base ho0) hb)
    have n6_:=Aside0.mk (Kd.N_elder' (by (with_reducible repeat first|apply nA|apply nN|apply nD);exact HO153.out) (by first|exact Kd.N_base ho0|exact Kd.R_base ho0) hb)
    have n7_:=Aside0.mk (Kd.V_elder' (by (with_reducible repeat (first|apply Kd.V_alloc|apply Kd.V_drewN|apply Kd.V_drew));exact HO162.out) (by first|exact Kd.N_base ho0|exact Kd.R_base ho0) hb)
    have n8_:=Aside0.mk (Kd.N_lower (Kd.N_mono (ok':=fun k_ => some k_ ≠ (.slice Ao14 y115.length co14 : Value).ownBlock ∧ some k_ ≠ (.slice Ao21 t123.length co21 : Value).ownBlock ∧ some k_ ≠ (.slice Ao22 t130.length co22 : Value).ownBlock ∧ some k_ ≠ (.slice Ao24 t133.length co24 : Value).ownBlock ∧ some k_ ≠ (v142 : Value).ownBlock ∧ some k_ ≠ (v149 : Value).ownBlock ∧ some k_ ≠ (.slice Ao35 t151.length co35 : Value).ownBlock ∧ k_ ≠ gb118 ∧ k_ ≠ gb155 ∧ k_ ≠ gb164) (Kd.R_N (Kd.R_bound ho0)) (fun k_ hk_ => ⟨(Kd.fresh' (Kd.N_lt (by (with_reducible repeat first|apply nA|apply nN|apply nD);exact HO117.out)) k_ hk_.2.1),(Kd.fresh' (Kd.N_lt (by (with_reducible repeat first|apply nA|apply nN|apply nD);exact HO125.out)) k_ hk_.2.1),(Kd.fresh' (Kd.N_lt (by (with_reducible repeat first|apply nA|apply nN|apply nD);exact HO132.out)) k_ hk_.2.1),(Kd.fresh' (Kd.N_lt (by (with_reducible repeat first|apply nA|apply nN|apply nD);exact HO135.out)) k_ hk_.2.1),(Kd.fresh' (Kd.N_lt (by (with_reducible repeat first|apply nA|apply nN|apply nD);exact HO143.out)) k_ hk_.2.1),(Kd.fresh' (Kd.N_lt (by (with_reducible repeat first|apply nA|apply nN|apply nD);exact HO150.out)) k_ hk_.2.1),(Kd.fresh' (Kd.N_lt (by (with_reducible repeat first|apply nA|apply nN|apply nD);exact HO153.out)) k_ hk_.2.1),(Kd.freshB (g:=gb118) (o := .cells #[.slice Ao24 t133.length co24] 27 (0,0)) (by (with_reducible repeat first|refine bN ?_ _|refine bD ?_|refine bA ?_ _);exact BK118.out) k_ hk_.2.1),(Kd.freshB (g:=gb155) (o := .cells #[.slice Ao35 t151.length co35] 27 (0,0)) (by (with_reducible repeat first|refine bN ?_ _|refine bD ?_|refine bA ?_ _);exact BK155.out) k_ hk_.2.1),(Kd.freshB (g:=gb164) (o := .cells #[.int .i64 t156, .int .i64 t157, .string t158, .int .i64 t159, .slice Ao45 t160.length co45] 35 (0,0)) (by (with_reducible repeat first|refine bN ?_ _|refine bD ?_|refine bA ?_ _);exact BK164.out) k_ hk_.2.1)⟩)) (below_size (by repeat (first|(with_reducible first|exact HB.out|apply below_alloc|apply pw_below_drewN|apply below_drew1|refine below_set ?_ GE118.out|refine below_set ?_ GE155.out|refine below_set ?_ GE164.out)|exact HB.out))))
    have n9_:=Aside0.mk (blk_below (g:=gb118) (o := .cells #[.slice Ao24 t133.length co24] 27 (0,0)) (by (with_reducible repeat first|refine bN ?_ _|refine bD ?_|refine bA ?_ _);exact BK118.out) hb)
    have n10_:=Aside0.mk (blk_below (g:=gb155) (o := .cells #[.slice Ao35 t151.length co35] 27 (0,0)) (by (with_reducible repeat first|refine bN ?_ _|refine bD ?_|refine bA ?_ _);exact BK155.out) hb)
    have n11_:=Aside0.mk (blk_below (g:=gb164) (o := .cells #[.int .i64 t156, .int .i64 t157, .string t158, .int .i64 t159, .slice Ao45 t160.length co45] 35 (0,0)) (by (with_reducible repeat first|refine bN ?_ _|refine bD ?_|refine bA ?_ _);exact BK164.out) hb)
    have n12_:=Aside0.mk (below_step (by repeat (first|(with_reducible first|exact HB.out|apply below_alloc|apply pw_below_drewN|apply below_drew1|refine below_set ?_ GE118.out|refine below_set ?_ GE155.out|refine below_set ?_ GE164.out)|exact HB.out)) hb)
    clear HO117
    clear HO125
    clear HO132
    clear HO135
    clear HO143
    clear HO150
    clear HO153
    clear HO162
    clear BK118
    clear BK155
    clear BK164
    clear HB
    have HO117:=n0_
    have HO125:=n1_
    have HO132:=n2_
    have HO135:=n3_
    have HO143:=n4_
    have HO150:=n5_
    have HO153:=n6_
    have HO162:=n7_
    have HO171:=n8_
    have BK118:=n9_
    have BK155:=n10_
    have BK164:=n11_
    have HB:=n12_
    clear n0_ n1_ n2_ n3_ n4_ n5_ n6_ n7_ n8_ n9_ n10_ n11_ n12_
    (try clear hb)
    (try clear hb2)
    (try clear hk)
    (try clear hi)
    (try clear ho0)
    obtain ⟨Ao49,co49,eo49⟩:=Kd.N_slice HO171.out
    (first|subst eo49|(injection eo49 with f1_ f2_ f3_;have f4_:=f1_.symm;have f5_:=f3_.symm;clear f1_ f2_ f3_;subst f4_;subst f5_))
    refine hK.out _ _ ((blk_cell BK155.out 0).trans rfl) (fun hHeld => ?_)
    clear hK K
    refine norm_ (a':=?_) ?_ ?_
    rotate_left
    ·show Act.put _ (some 32) _ = _
     simp only [Act.put,List.setIfInBounds_toArray,List.set_cons_zero,List.set_cons_succ,i64_w,i32_w]
     rfl
    refine two_ (i:=2) (j:=6) (Ni:=some 33) (Nj:=some 7) #[true,true,true,false,false,false,false,false,false] #[true,true,false,false,false,false,true,false,false] rfl rfl rfl rfl (two_of HT_.out (by kernel_rfl)) (by decide) (by decide) (fun K hK => ?_) (fun K hK => ?_)
    ·skip
     refine goes_ Try.func15 (by kernel_rfl) rfl #[.agg #[.slice Ao35 t151.length co35], .int .i64 0, .agg #[.int .i64 t165, .int .i64 t166, .string t167, .int .i64 t168, .slice Ao49 t169.length co49]] (by rfl) rfl rfl (by (try simp only [List.map_toArray,List.map_cons,List.map_nil]);first|done|rfl|(simp only [List.length_drop,List.length_take];rfl)|(go_simp;done)|(go_simp;simp;done)) ?_
     with_reducible refine (heap_Next.calls k (fun k_ => ((k_ ≠ gb118 ∧ (k_ ≠ gb155 ∧ k_ ≠ gb164)) ∧ some k_ ≠ (.slice Ao49 t169.length co49 : Value).ownBlock)) _ _ t151 0 t165 t166 t167 t168 _ _ t169 t172 t173 t174 t175 t176 t179 _ ?side1 ?side2 ?side3 A10.out).mono ?_
     (case side1 => exact Kd.N_V (HO153.out))
     (case side2 => repeat (first|exact (Kd.N_reads' HO171.out).2.2|(with_reducible refine Kd.C_alloc ?_ _)|(with_reducible refine Kd.C_drewN ?_ _)|(with_reducible refine Kd.C_drew ?_)))
     (case side3 => exact (Kd.N_reads' HO171.out).2.1)
     rintro e w50 ⟨v177,rfl,ho0,hb⟩
     refine ⟨_,rfl,?_⟩
     have n0_:=Aside0.mk (Kd.N_below (by (with_reducible repeat first|apply nA|apply nN|apply nD);exact HO117.out) hb)
     have n1_:=Aside0.mk (Kd.N_below (by (with_reducible repeat first|apply nA|apply nN|apply nD);exact HO125.out) hb)
     have n2_:=Aside0.mk (Kd.N_below (by (with_reducible repeat first|apply nA|apply nN|apply nD);exact HO132.out) hb)
     have n3_:=Aside0.mk (Kd.N_below (by (with_reducible repeat first|apply nA|apply nN|apply nD);exact HO135.out) hb)
     have n4_:=Aside0.mk (Kd.N_below (by (with_reducible repeat first|apply nA|apply nN|apply nD);exact HO143.out) hb)
     have n5_:=Aside0.mk (Kd.N_below (by (with_reducible repeat first|apply nA|apply nN|apply nD);exact HO150.out) hb)
     have n6_:=Aside0.mk (Kd.N_below (by (with_reducible repeat first|apply nA|apply nN|apply nD);exact HO153.out) hb)
     have n7_:=Aside0.mk (Kd.V_below (by (with_reducible repeat (first|apply Kd.V_alloc|apply Kd.V_drewN|apply Kd.V_drew));exact HO162.out) hb)
     have n8_:=Aside0.mk (Kd.N_below (by (with_reducible repeat first|apply nA|apply nN|apply nD);exact HO171.out) hb)
     have n9_:=Aside0.mk (Kd.V_lower (Kd.V_mono (ok':=fun k_ => some k_ ≠ (.slice Ao49 t169.length co49 : Value).ownBlock ∧ k_ ≠ gb118 ∧ k_ ≠ gb155 ∧ k_ ≠ gb164) ho0 (fun k_ hk_ => ⟨Or.elim hk_ (fun hs_ => hs_.2) (fun hn_ => (Kd.fresh' (Kd.N_lt (by (with_reducible repeat first|apply nA|apply nN|apply nD);exact HO171.out)) k_ hn_)),Or.elim hk_ (fun hs_ => hs_.1.1) (fun hn_ => (Kd.freshB (g:=gb118) (o := .cells #[.slice Ao24 t133.length co24] 27 (0,0)) (by (with_reducible repeat first|refine bN ?_ _|refine bD ?_|refine bA ?_ _);exact BK118.out) k_ hn_)),Or.elim hk_ (fun hs_ => hs_.1.2.1) (fun hn_ => (Kd.freshB (g:=gb155) (o := .cells #[.slice Ao35 t151.length co35] 27 (0,0)) (by (with_reducible repeat first|refine bN ?_ _|refine bD ?_|refine bA ?_ _);exact BK155.out) k_ hn_)),Or.elim hk_ (fun hs_ => hs_.1.2.2) (fun hn_ => (Kd.freshB (g:=gb164) (o := .cells #[.int .i64 t156, .int .i64 t157, .string t158, .int .i64 t159, .slice Ao45 t160.length co45] 35 (0,0)) (by (with_reducible repeat first|refine bN ?_ _|refine bD ?_|refine bA ?_ _);exact BK164.out) k_ hn_))⟩)) (below_size (by repeat (first|(with_reducible first|exact HB.out|apply below_alloc|apply pw_below_drewN|apply below_drew1|refine below_set ?_ GE118.out|refine below_set ?_ GE155.out|refine below_set ?_ GE164.out)|exact HB.out))))
     have n10_:=Aside0.mk (blk_below (g:=gb118) (o := .cells #[.slice Ao24 t133.length co24] 27 (0,0)) (by (with_reducible repeat first|refine bN ?_ _|refine bD ?_|refine bA ?_ _);exact BK118.out) hb)
     have n11_:=Aside0.mk (blk_below (g:=gb155) (o := .cells #[.slice Ao35 t151.length co35] 27 (0,0)) (by (with_reducible repeat first|refine bN ?_ _|refine bD ?_|refine bA ?_ _);exact BK155.out) hb)
     have n12_:=Aside0.mk (blk_below (g:=gb164) (o := .cells #[.int .i64 t156, .int .i64 t157, .string t158, .int .i64 t159, .slice Ao45 t160.length co45] 35 (0,0)) (by (with_reducible repeat first|refine bN ?_ _|refine bD ?_|refine bA ?_ _);exact BK164.out) hb)
     have n13_:=Aside0.mk (below_step (by repeat (first|(with_reducible first|exact HB.out|apply below_alloc|apply pw_below_drewN|apply below_drew1|refine below_set ?_ GE118.out|refine below_set ?_ GE155.out|refine below_set ?_ GE164.out)|exact HB.out)) hb)
     clear HO117
     clear HO125
     clear HO132
     clear HO135
     clear HO143
     clear HO150
     clear HO153
     clear HO162
     clear HO171
     clear BK118
     clear BK155
     clear BK164
     clear HB
     have HO117:=n0_
     have HO125:=n1_
     have HO132:=n2_
     have HO135:=n3_
     have HO143:=n4_
     have HO150:=n5_
     have HO153:=n6_
     have HO162:=n7_
     have HO171:=n8_
     have HO178:=n9_
     have BK118:=n10_
     have BK155:=n11_
     have BK164:=n12_
     have HB:=n13_
     clear n0_ n1_ n2_ n3_ n4_ n5_ n6_ n7_ n8_ n9_ n10_ n11_ n12_ n13_
     (try clear hb)
     (try clear hb2)
     (try clear hk)
     (try clear hi)
     (try clear ho0)
     refine hK.out _ _ ((blk_cell BK155.out 0).trans rfl) (fun hHeld => ?_)
     clear hK K
     refine norm_ (a':=?_) ?_ ?_
     rotate_left
     ·show Act.put _ (some 33) _ = _
      simp only [Act.put,List.setIfInBounds_toArray,List.set_cons_zero,List.set_cons_succ,i64_w,i32_w]
      rfl
     refine pure_ (i:=3) (N:=some 30) (v:=?_) (a':=?_) #[true,true,true,true,false,false,false,false,false] rfl rfl (any_of HT_.out (by kernel_rfl)) (fun _ _ _ h => h) (Or.inl ⟨by rfl,?_⟩) ?_ ?_
     rotate_left
     ·intro w'
      go_simp
      with_reducible rfl
     rotate_left
     ·simp only [Act.put,List.setIfInBounds_toArray,List.set_cons_zero,List.set_cons_succ,i64_w,i32_w]
      rfl
     refine pure_ (i:=4) (N:=some 34) (v:=?_) (a':=?_) #[true,true,true,true,true,false,false,false,false] rfl rfl (any_of HT_.out (by kernel_rfl)) (fun _ _ _ h => h) (Or.inl ⟨by rfl,?_⟩) ?_ ?_
     rotate_left
     ·intro w'
      go_simp
      with_reducible rfl
     rotate_left
     ·simp only [Act.put,List.setIfInBounds_toArray,List.set_cons_zero,List.set_cons_succ,i64_w,i32_w]
      rfl
     refine pure_ (i:=5) (N:=some 35) (v:=?_) (a':=?_) #[true,true,true,true,true,true,false,false,false] rfl rfl (any_of HT_.out (by kernel_rfl)) (fun _ _ _ h => h) (Or.inl ⟨by rfl,?_⟩) ?_ ?_
     rotate_left
     ·intro w'
      go_simp
      with_reducible rfl
     rotate_left
     ·simp only [Act.put,List.setIfInBounds_toArray,List.set_cons_zero,List.set_cons_succ,i64_w,i32_w]
      rfl
     refine one_ (i:=6) (N:=some 7) #[true,true,true,true,true,true,true,false,false] rfl rfl (one_of HT_.out (by kernel_rfl)) (by decide) (fun K hK => ?_)
     refine box_step ?hg (N:=7) ?hd (cs:=#[.int .i64 0, .int .i64 0, .string (⟨#[]⟩ : ByteArray), .int .i64 0, .slice none 0 0]) (t:=35) ?hr ?_;(case hd => rfl);(case hg => rfl);(case hr => first|(go_simp;done)|(go_simp;rfl))
     intro gb180 hg w51 hbox hb
     have n0_:=Aside0.mk (Kd.N_below (Kd.N_elderB (by (with_reducible repeat first|apply nA|apply nN|apply nD);exact HO117.out) gb180 (Nat.le_of_eq hg.symm)) hb)
     have n1_:=Aside0.mk (Kd.N_below (Kd.N_elderB (by (with_reducible repeat first|apply nA|apply nN|apply nD);exact HO125.out) gb180 (Nat.le_of_eq hg.symm)) hb)
     have n2_:=Aside0.mk (Kd.N_below (Kd.N_elderB (by (with_reducible repeat first|apply nA|apply nN|apply nD);exact HO132.out) gb180 (Nat.le_of_eq hg.symm)) hb)
     have n3_:=Aside0.mk (Kd.N_below (Kd.N_elderB (by (with_reducible repeat first|apply nA|apply nN|apply nD);exact HO135.out) gb180 (Nat.le_of_eq hg.symm)) hb)
     have n4_:=Aside0.mk (Kd.N_below (Kd.N_elderB (by (with_reducible repeat first|apply nA|apply nN|apply nD);exact HO143.out) gb180 (Nat.le_of_eq hg.symm)) hb)
     have n5_:=Aside0.mk (Kd.N_below (Kd.N_elderB (by (with_reducible repeat first|apply nA|apply nN|apply nD);exact HO150.out) gb180 (Nat.le_of_eq hg.symm)) hb)
     have n6_:=Aside0.mk (Kd.N_below (Kd.N_elderB (by (with_reducible repeat first|apply nA|apply nN|apply nD);exact HO153.out) gb180 (Nat.le_of_eq hg.symm)) hb)
     have n7_:=Aside0.mk (Kd.V_below (Kd.V_elderB (by (with_reducible repeat (first|apply Kd.V_alloc|apply Kd.V_drewN|apply Kd.V_drew));exact HO162.out) gb180 (Nat.le_of_eq hg.symm)) hb)
     have n8_:=Aside0.mk (Kd.N_below (Kd.N_elderB (by (with_reducible repeat first|apply nA|apply nN|apply nD);exact HO171.out) gb180 (Nat.le_of_eq hg.symm)) hb)
     have n9_:=Aside0.mk (Kd.V_below (Kd.V_elderB (by (with_reducible repeat (first|apply Kd.V_alloc|apply Kd.V_drewN|apply Kd.V_drew));exact HO178.out) gb180 (Nat.le_of_eq hg.symm)) hb)
     have n10_:=Aside0.mk (blk_below (g:=gb118) (o := .cells #[.slice Ao24 t133.length co24] 27 (0,0)) (by (with_reducible repeat first|refine bN ?_ _|refine bD ?_|refine bA ?_ _);exact BK118.out) hb)
     have n11_:=Aside0.mk (blk_below (g:=gb155) (o := .cells #[.slice Ao35 t151.length co35] 27 (0,0)) (by (with_reducible repeat first|refine bN ?_ _|refine bD ?_|refine bA ?_ _);exact BK155.out) hb)
     have n12_:=Aside0.mk (blk_below (g:=gb164) (o := .cells #[.int .i64 t156, .int .i64 t157, .string t158, .int .i64 t159, .slice Ao45 t160.length co45] 35 (0,0)) (by (with_reducible repeat first|refine bN ?_ _|refine bD ?_|refine bA ?_ _);exact BK164.out) hb)
     have n13_:=Aside0.mk (below_step (by repeat (first|(with_reducible first|exact HB.out|apply below_alloc|apply pw_below_drewN|apply below_drew1|refine below_set ?_ GE118.out|refine below_set ?_ GE155.out|refine below_set ?_ GE164.out)|exact HB.out)) hb)
     have n14_:=Aside0.mk (hbox)
     have n15_:=Aside0.mk ((by rw [hg];exact (below_size (by repeat (first|(with_reducible first|exact HB.out|apply below_alloc|apply pw_below_drewN|apply below_drew1|refine below_set ?_ GE118.out|refine below_set ?_ GE155.out|refine below_set ?_ GE164.out)|exact HB.out))) : w.heap.size ≤ gb180))
     have n16_:=Aside0.mk ((by rw [hg];exact (below_size (by repeat (first|(with_reducible first|exact HB.out|apply below_alloc|apply pw_below_drewN|apply below_drew1|refine below_set ?_ GE118.out|refine below_set ?_ GE155.out|refine below_set ?_ GE164.out)|exact HB.out))) : w.heap.size ≤ gb180))
     have n17_:=Aside0.mk ((by rw [hg];exact Nat.ne_of_lt (blk_lt (g:=gb118) (o := .cells #[.slice Ao24 t133.length co24] 27 (0,0)) (by (with_reducible repeat first|refine bN ?_ _|refine bD ?_|refine bA ?_ _);exact BK118.out)) : gb118 ≠ gb180))
     have n18_:=Aside0.mk ((by rw [hg];exact Nat.ne_of_gt (blk_lt (g:=gb118) (o := .cells #[.slice Ao24 t133.length co24] 27 (0,0)) (by (with_reducible repeat first|refine bN ?_ _|refine bD ?_|refine bA ?_ _);exact BK118.out)) : gb180 ≠ gb118))
     have n19_:=Aside0.mk ((by rw [hg];exact Nat.ne_of_lt (blk_lt (g:=gb155) (o := .cells #[.slice Ao35 t151.length co35] 27 (0,0)) (by (with_reducible repeat first|refine bN ?_ _|refine bD ?_|refine bA ?_ _);exact BK155.out)) : gb155 ≠ gb180))
     have n20_:=Aside0.mk ((by rw [hg];exact Nat.ne_of_gt (blk_lt (g:=gb155) (o := .cells #[.slice Ao35 t151.length co35] 27 (0,0)) (by (with_reducible repeat first|refine bN ?_ _|refine bD ?_|refine bA ?_ _);exact BK155.out)) : gb180 ≠ gb155))
     have n21_:=Aside0.mk ((by rw [hg];exact Nat.ne_of_lt (blk_lt (g:=gb164) (o := .cells #[.int .i64 t156, .int .i64 t157, .string t158, .int .i64 t159, .slice Ao45 t160.length co45] 35 (0,0)) (by (with_reducible repeat first|refine bN ?_ _|refine bD ?_|refine bA ?_ _);exact BK164.out)) : gb164 ≠ gb180))
     have n22_:=Aside0.mk ((by rw [hg];exact Nat.ne_of_gt (blk_lt (g:=gb164) (o := .cells #[.int .i64 t156, .int .i64 t157, .string t158, .int .i64 t159, .slice Ao45 t160.length co45] 35 (0,0)) (by (with_reducible repeat first|refine bN ?_ _|refine bD ?_|refine bA ?_ _);exact BK164.out)) : gb180 ≠ gb164))
     clear HO117
     clear HO125
     clear HO132
     clear HO135
     clear HO143
     clear HO150
     clear HO153
     clear HO162
     clear HO171
     clear HO178
     clear BK118
     clear BK155
     clear BK164
     clear HB
     have HO117:=n0_
     have HO125:=n1_
     have HO132:=n2_
     have HO135:=n3_
     have HO143:=n4_
     have HO150:=n5_
     have HO153:=n6_
     have HO162:=n7_
     have HO171:=n8_
     have HO178:=n9_
     have BK118:=n10_
     have BK155:=n11_
     have BK164:=n12_
     have HB:=n13_
     have BK180:=n14_
     have GW180:=n15_
     have GE180:=n16_
     have NB118_180:=n17_
     have NB180_118:=n18_
     have NB155_180:=n19_
     have NB180_155:=n20_
     have NB164_180:=n21_
     have NB180_164:=n22_
     clear n0_ n1_ n2_ n3_ n4_ n5_ n6_ n7_ n8_ n9_ n10_ n11_ n12_ n13_ n14_ n15_ n16_ n17_ n18_ n19_ n20_ n21_ n22_
     clear hb hbox hg
     refine hK.out _ _ ((blk_cell BK155.out 0).trans rfl) (fun hHeld => ?_)
     clear hK K
     refine norm_ (a':=?_) ?_ ?_
     rotate_left
     ·show Act.put _ (some 7) _ = _
      simp only [Act.put,List.setIfInBounds_toArray,List.set_cons_zero,List.set_cons_succ,i64_w,i32_w]
      rfl
     exact norm_ (by simp only [putAll,Act.put,List.setIfInBounds_toArray,List.set_cons_zero,List.set_cons_succ]) (hCont (.slice Ao49 t169.length co49,v177,gb180) _ ⟨hHeld,(by (with_reducible repeat first|apply nA|apply nN|apply nD);exact Kd.N_mono HO117.out (fun _ hk => ⟨hk.1.1.1,⟨hk.1.1.2.1,⟨hk.1.1.2.2.1,⟨hk.1.1.2.2.2.1,⟨hk.1.1.2.2.2.2.1,⟨hk.1.1.2.2.2.2.2.1,⟨hk.1.2,⟨hk.1.1.2.2.2.2.2.2.1,⟨hk.1.1.2.2.2.2.2.2.2.1,⟨hk.1.1.2.2.2.2.2.2.2.2,hk.2⟩⟩⟩⟩⟩⟩⟩⟩⟩⟩)),(by (with_reducible repeat first|apply nA|apply nN|apply nD);exact Kd.N_mono HO125.out (fun _ hk => ⟨hk.1.1.1,⟨hk.1.1.2.1,⟨hk.1.1.2.2.1,⟨hk.1.1.2.2.2.1,⟨hk.1.1.2.2.2.2.1,⟨hk.1.1.2.2.2.2.2.1,⟨hk.1.2,⟨hk.1.1.2.2.2.2.2.2.1,⟨hk.1.1.2.2.2.2.2.2.2.1,⟨hk.1.1.2.2.2.2.2.2.2.2,hk.2⟩⟩⟩⟩⟩⟩⟩⟩⟩⟩)),(by (with_reducible repeat first|apply nA|apply nN|apply nD);exact Kd.N_mono HO132.out (fun _ hk => ⟨hk.1.1.1,⟨hk.1.1.2.1,⟨hk.1.1.2.2.1,⟨hk.1.1.2.2.2.1,⟨hk.1.1.2.2.2.2.1,⟨hk.1.1.2.2.2.2.2.1,⟨hk.1.2,⟨hk.1.1.2.2.2.2.2.2.1,⟨hk.1.1.2.2.2.2.2.2.2.1,⟨hk.1.1.2.2.2.2.2.2.2.2,hk.2⟩⟩⟩⟩⟩⟩⟩⟩⟩⟩)),(by (with_reducible repeat first|apply nA|apply nN|apply nD);exact Kd.N_mono HO135.out (fun _ hk => ⟨hk.1.1.1,⟨hk.1.1.2.1,⟨hk.1.1.2.2.1,⟨hk.1.2,⟨hk.1.1.2.2.2.1,⟨hk.1.1.2.2.2.2.1,⟨hk.1.1.2.2.2.2.2,hk.2⟩⟩⟩⟩⟩⟩⟩)),(by (with_reducible repeat first|apply nA|apply nN|apply nD);exact Kd.N_mono HO143.out (fun _ hk => ⟨hk.1.1.1,⟨hk.1.1.2.1,⟨hk.1.1.2.2.1,⟨hk.1.1.2.2.2.1,⟨hk.1.1.2.2.2.2.1,⟨hk.1.1.2.2.2.2.2.1,⟨hk.1.2,⟨hk.1.1.2.2.2.2.2.2.1,⟨hk.1.1.2.2.2.2.2.2.2.1,⟨hk.1.1.2.2.2.2.2.2.2.2,hk.2⟩⟩⟩⟩⟩⟩⟩⟩⟩⟩)),(by (with_reducible repeat first|apply nA|apply nN|apply nD);exact Kd.N_mono HO150.out (fun _ hk => ⟨hk.1.1.1,⟨hk.1.1.2.1,⟨hk.1.1.2.2.1,⟨hk.1.1.2.2.2.1,⟨hk.1.1.2.2.2.2.1,⟨hk.1.1.2.2.2.2.2.1,⟨hk.1.2,⟨hk.1.1.2.2.2.2.2.2.1,⟨hk.1.1.2.2.2.2.2.2.2.1,⟨hk.1.1.2.2.2.2.2.2.2.2,hk.2⟩⟩⟩⟩⟩⟩⟩⟩⟩⟩)),(by (with_reducible repeat first|apply nA|apply nN|apply nD);exact Kd.N_mono HO153.out (fun _ hk => ⟨hk.1.2,⟨hk.1.1.1,⟨hk.1.1.2.1,⟨hk.1.1.2.2,hk.2⟩⟩⟩⟩)),(by (with_reducible repeat (first|apply Kd.V_alloc|apply Kd.V_drewN|apply Kd.V_drew));exact Kd.V_mono HO162.out (fun _ hk => ⟨hk.1.2,⟨hk.1.1.1,⟨hk.1.1.2.1,⟨hk.1.1.2.2,hk.2⟩⟩⟩⟩)),(by (with_reducible repeat first|apply nA|apply nN|apply nD);exact Kd.N_mono HO171.out (fun _ hk => ⟨hk.1.1,⟨hk.1.2.1,⟨hk.1.2.2.1,⟨hk.1.2.2.2.1,⟨hk.1.2.2.2.2.1,⟨hk.1.2.2.2.2.2.1,⟨hk.1.2.2.2.2.2.2.1,⟨hk.1.2.2.2.2.2.2.2.1,⟨hk.1.2.2.2.2.2.2.2.2.1,⟨hk.1.2.2.2.2.2.2.2.2.2,hk.2⟩⟩⟩⟩⟩⟩⟩⟩⟩⟩)),(by (with_reducible repeat (first|apply Kd.V_alloc|apply Kd.V_drewN|apply Kd.V_drew));exact Kd.V_mono HO178.out (fun _ hk => ⟨hk.1.1,⟨hk.1.2.1,⟨hk.1.2.2.1,⟨hk.1.2.2.2,hk.2⟩⟩⟩⟩)),(by (with_reducible repeat first|refine bN ?_ _|refine bD ?_|refine bA ?_ _);exact BK118.out),(by (with_reducible repeat first|refine bN ?_ _|refine bD ?_|refine bA ?_ _);exact BK155.out),(by (with_reducible repeat first|refine bN ?_ _|refine bD ?_|refine bA ?_ _);exact BK164.out),(by (with_reducible repeat first|refine bN ?_ _|refine bD ?_|refine bA ?_ _);exact BK180.out),GW180.out,GE180.out,NB118_180.out,NB180_118.out,NB155_180.out,NB180_155.out,NB164_180.out,NB180_164.out,(by repeat (first|(with_reducible first|exact HB.out|apply below_alloc|apply pw_below_drewN|apply below_drew1|refine below_set ?_ GE118.out|refine below_set ?_ GE155.out|refine below_set ?_ GE164.out|refine below_set ?_ GE180.out)|exact HB.out))⟩)
    ·skip
     refine box_step ?hg (N:=7) ?hd (cs:=#[.int .i64 0, .int .i64 0, .string (⟨#[]⟩ : ByteArray), .int .i64 0, .slice none 0 0]) (t:=35) ?hr ?_;(case hd => rfl);(case hg => rfl);(case hr => first|(go_simp;done)|(go_simp;rfl))
     intro gb180 hg w49 hbox hb
     have n0_:=Aside0.mk (Kd.N_below (Kd.N_elderB (by (with_reducible repeat first|apply nA|apply nN|apply nD);exact HO117.out) gb180 (Nat.le_of_eq hg.symm)) hb)
     have n1_:=Aside0.mk (Kd.N_below (Kd.N_elderB (by (with_reducible repeat first|apply nA|apply nN|apply nD);exact HO125.out) gb180 (Nat.le_of_eq hg.symm)) hb)
     have n2_:=Aside0.mk (Kd.N_below (Kd.N_elderB (by (with_reducible repeat first|apply nA|apply nN|apply nD);exact HO132.out) gb180 (Nat.le_of_eq hg.symm)) hb)
     have n3_:=Aside0.mk (Kd.N_below (Kd.N_elderB (by (with_reducible repeat first|apply nA|apply nN|apply nD);exact HO135.out) gb180 (Nat.le_of_eq hg.symm)) hb)
     have n4_:=Aside0.mk (Kd.N_below (Kd.N_elderB (by (with_reducible repeat first|apply nA|apply nN|apply nD);exact HO143.out) gb180 (Nat.le_of_eq hg.symm)) hb)
     have n5_:=Aside0.mk (Kd.N_below (Kd.N_elderB (by (with_reducible repeat first|apply nA|apply nN|apply nD);exact HO150.out) gb180 (Nat.le_of_eq hg.symm)) hb)
     have n6_:=Aside0.mk (Kd.N_below (Kd.N_elderB (by (with_reducible repeat first|apply nA|apply nN|apply nD);exact HO153.out) gb180 (Nat.le_of_eq hg.symm)) hb)
     have n7_:=Aside0.mk (Kd.V_below (Kd.V_elderB (by (with_reducible repeat (first|apply Kd.V_alloc|apply Kd.V_drewN|apply Kd.V_drew));exact HO162.out) gb180 (Nat.le_of_eq hg.symm)) hb)
     have n8_:=Aside0.mk (Kd.N_below (Kd.N_elderB (by (with_reducible repeat first|apply nA|apply nN|apply nD);exact HO171.out) gb180 (Nat.le_of_eq hg.symm)) hb)
     have n9_:=Aside0.mk (blk_below (g:=gb118) (o := .cells #[.slice Ao24 t133.length co24] 27 (0,0)) (by (with_reducible repeat first|refine bN ?_ _|refine bD ?_|refine bA ?_ _);exact BK118.out) hb)
     have n10_:=Aside0.mk (blk_below (g:=gb155) (o := .cells #[.slice Ao35 t151.length co35] 27 (0,0)) (by (with_reducible repeat first|refine bN ?_ _|refine bD ?_|refine bA ?_ _);exact BK155.out) hb)
     have n11_:=Aside0.mk (blk_below (g:=gb164) (o := .cells #[.int .i64 t156, .int .i64 t157, .string t158, .int .i64 t159, .slice Ao45 t160.length co45] 35 (0,0)) (by (with_reducible repeat first|refine bN ?_ _|refine bD ?_|refine bA ?_ _);exact BK164.out) hb)
     have n12_:=Aside0.mk (below_step (by repeat (first|(with_reducible first|exact HB.out|apply below_alloc|apply pw_below_drewN|apply below_drew1|refine below_set ?_ GE118.out|refine below_set ?_ GE155.out|refine below_set ?_ GE164.out)|exact HB.out)) hb)
     have n13_:=Aside0.mk (hbox)
     have n14_:=Aside0.mk ((by rw [hg];exact (below_size (by repeat (first|(with_reducible first|exact HB.out|apply below_alloc|apply pw_below_drewN|apply below_drew1|refine below_set ?_ GE118.out|refine below_set ?_ GE155.out|refine below_set ?_ GE164.out)|exact HB.out))) : w.heap.size ≤ gb180))
     have n15_:=Aside0.mk ((by rw [hg];exact (below_size (by repeat (first|(with_reducible first|exact HB.out|apply below_alloc|apply pw_below_drewN|apply below_drew1|refine below_set ?_ GE118.out|refine below_set ?_ GE155.out|refine below_set ?_ GE164.out)|exact HB.out))) : w.heap.size ≤ gb180))
     have n16_:=Aside0.mk ((by rw [hg];exact Nat.ne_of_lt (blk_lt (g:=gb118) (o := .cells #[.slice Ao24 t133.length co24] 27 (0,0)) (by (with_reducible repeat first|refine bN ?_ _|refine bD ?_|refine bA ?_ _);exact BK118.out)) : gb118 ≠ gb180))
     have n17_:=Aside0.mk ((by rw [hg];exact Nat.ne_of_gt (blk_lt (g:=gb118) (o := .cells #[.slice Ao24 t133.length co24] 27 (0,0)) (by (with_reducible repeat first|refine bN ?_ _|refine bD ?_|refine bA ?_ _);exact BK118.out)) : gb180 ≠ gb118))
     have n18_:=Aside0.mk ((by rw [hg];exact Nat.ne_of_lt (blk_lt (g:=gb155) (o := .cells #[.slice Ao35 t151.length co35] 27 (0,0)) (by (with_reducible repeat first|refine bN ?_ _|refine bD ?_|refine bA ?_ _);exact BK155.out)) : gb155 ≠ gb180))
     have n19_:=Aside0.mk ((by rw [hg];exact Nat.ne_of_gt (blk_lt (g:=gb155) (o := .cells #[.slice Ao35 t151.length co35] 27 (0,0)) (by (with_reducible repeat first|refine bN ?_ _|refine bD ?_|refine bA ?_ _);exact BK155.out)) : gb180 ≠ gb155))
     have n20_:=Aside0.mk ((by rw [hg];exact Nat.ne_of_lt (blk_lt (g:=gb164) (o := .cells #[.int .i64 t156, .int .i64 t157, .string t158, .int .i64 t159, .slice Ao45 t160.length co45] 35 (0,0)) (by (with_reducible repeat first|refine bN ?_ _|refine bD ?_|refine bA ?_ _);exact BK164.out)) : gb164 ≠ gb180))
     have n21_:=Aside0.mk ((by rw [hg];exact Nat.ne_of_gt (blk_lt (g:=gb164) (o := .cells #[.int .i64 t156, .int .i64 t157, .string t158, .int .i64 t159, .slice Ao45 t160.length co45] 35 (0,0)) (by (with_reducible repeat first|refine bN ?_ _|refine bD ?_|refine bA ?_ _);exact BK164.out)) : gb180 ≠ gb164))
     clear HO117
     clear HO125
     clear HO132
     clear HO135
     clear HO143
     clear HO150
     clear HO153
     clear HO162
     clear HO171
     clear BK118
     clear BK155
     clear BK164
     clear HB
     have HO117:=n0_
     have HO125:=n1_
     have HO132:=n2_
     have HO135:=n3_
     have HO143:=n4_
     have HO150:=n5_
     have HO153:=n6_
     have HO162:=n7_
     have HO171:=n8_
     have BK118:=n9_
     have BK155:=n10_
     have BK164:=n11_
     have HB:=n12_
     have BK180:=n13_
     have GW180:=n14_
     have GE180:=n15_
     have NB118_180:=n16_
     have NB180_118:=n17_
     have NB155_180:=n18_
     have NB180_155:=n19_
     have NB164_180:=n20_
     have NB180_164:=n21_
     clear n0_ n1_ n2_ n3_ n4_ n5_ n6_ n7_ n8_ n9_ n10_ n11_ n12_ n13_ n14_ n15_ n16_ n17_ n18_ n19_ n20_ n21_
     clear hb hbox hg
     obtain ⟨Ao50,co50,eo50⟩:=Kd.N_slice HO171.out
     (first|subst eo50|(injection eo50 with f1_ f2_ f3_;have f4_:=f1_.symm;have f5_:=f3_.symm;clear f1_ f2_ f3_;subst f4_;subst f5_))
     refine hK.out _ _ ((blk_cell BK155.out 0).trans rfl) (fun hHeld => ?_)
     clear hK K
     refine norm_ (a':=?_) ?_ ?_
     rotate_left
     ·show Act.put _ (some 7) _ = _
      simp only [Act.put,List.setIfInBounds_toArray,List.set_cons_zero,List.set_cons_succ,i64_w,i32_w]
      rfl
     refine one_ (i:=2) (N:=some 33) #[true,true,true,false,false,false,true,false,false] rfl rfl (one_of HT_.out (by kernel_rfl)) (by decide) (fun K hK => ?_)
     refine goes_ Try.func15 (by kernel_rfl) rfl #[.agg #[.slice Ao35 t151.length co35], .int .i64 0, .agg #[.int .i64 t165, .int .i64 t166, .string t167, .int .i64 t168, .slice Ao50 t169.length co50]] (by rfl) rfl rfl (by (try simp only [List.map_toArray,List.map_cons,List.map_nil]);first|done|rfl|(simp only [List.length_drop,List.length_take];rfl)|(go_simp;done)|(go_simp;simp;done)) ?_
     with_reducible refine (heap_Next.calls k (fun k_ => (((k_ ≠ gb118 ∧ (k_ ≠ gb155 ∧ k_ ≠ gb164)) ∧ some k_ ≠ (.slice Ao50 t169.length co50 : Value).ownBlock) ∧ k_ ≠ gb180)) _ _ t151 0 t165 t166 t167 t168 _ _ t169 t172 t173 t174 t175 t176 t179 _ ?side1 ?side2 ?side3 A10.out).mono ?_
     (case side1 => exact Kd.N_V (HO153.out))
     (case side2 => repeat (first|exact (Kd.N_reads' HO171.out).2.2|(with_reducible refine Kd.C_alloc ?_ _)|(with_reducible refine Kd.C_drewN ?_ _)|(with_reducible refine Kd.C_drew ?_)))
     (case side3 => exact (Kd.N_reads' HO171.out).2.1)
     rintro e w51 ⟨v177,rfl,ho0,hb⟩
     refine ⟨_,rfl,?_⟩
     have n0_:=Aside0.mk (Kd.N_below (by (with_reducible repeat first|apply nA|apply nN|apply nD);exact HO117.out) hb)
     have n1_:=Aside0.mk (Kd.N_below (by (with_reducible repeat first|apply nA|apply nN|apply nD);exact HO125.out) hb)
     have n2_:=Aside0.mk (Kd.N_below (by (with_reducible repeat first|apply nA|apply nN|apply nD);exact HO132.out) hb)
     have n3_:=Aside0.mk (Kd.N_below (by (with_reducible repeat first|apply nA|apply nN|apply nD);exact HO135.out) hb)
     have n4_:=Aside0.mk (Kd.N_below (by (with_reducible repeat first|apply nA|apply nN|apply nD);exact HO143.out) hb)
     have n5_:=Aside0.mk (Kd.N_below (by (with_reducible repeat first|apply nA|apply nN|apply nD);exact HO150.out) hb)
     have n6_:=Aside0.mk (Kd.N_below (by (with_reducible repeat first|apply nA|apply nN|apply nD);exact HO153.out) hb)
     have n7_:=Aside0.mk (Kd.V_below (by (with_reducible repeat (first|apply Kd.V_alloc|apply Kd.V_drewN|apply Kd.V_drew));exact HO162.out) hb)
     have n8_:=Aside0.mk (Kd.N_below (by (with_reducible repeat first|apply nA|apply nN|apply nD);exact HO171.out) hb)
     have n9_:=Aside0.mk (Kd.V_lower (Kd.V_mono (ok':=fun k_ => some k_ ≠ (.slice Ao50 t169.length co50 : Value).ownBlock ∧ k_ ≠ gb118 ∧ k_ ≠ gb155 ∧ k_ ≠ gb164 ∧ k_ ≠ gb180) ho0 (fun k_ hk_ => ⟨Or.elim hk_ (fun hs_ => hs_.1.2) (fun hn_ => (Kd.fresh' (Kd.N_lt (by (with_reducible repeat first|apply nA|apply nN|apply nD);exact HO171.out)) k_ hn_)),Or.elim hk_ (fun hs_ => hs_.1.1.1) (fun hn_ => (Kd.freshB (g:=gb118) (o := .cells #[.slice Ao24 t133.length co24] 27 (0,0)) (by (with_reducible repeat first|refine bN ?_ _|refine bD ?_|refine bA ?_ _);exact BK118.out) k_ hn_)),Or.elim hk_ (fun hs_ => hs_.1.1.2.1) (fun hn_ => (Kd.freshB (g:=gb155) (o := .cells #[.slice Ao35 t151.length co35] 27 (0,0)) (by (with_reducible repeat first|refine bN ?_ _|refine bD ?_|refine bA ?_ _);exact BK155.out) k_ hn_)),Or.elim hk_ (fun hs_ => hs_.1.1.2.2) (fun hn_ => (Kd.freshB (g:=gb164) (o := .cells #[.int .i64 t156, .int .i64 t157, .string t158, .int .i64 t159, .slice Ao45 t160.length co45] 35 (0,0)) (by (with_reducible repeat first|refine bN ?_ _|refine bD ?_|refine bA ?_ _);exact BK164.out) k_ hn_)),Or.elim hk_ (fun hs_ => hs_.2) (fun hn_ => (Kd.freshB (g:=gb180) (o := .cells #[.int .i64 0, .int .i64 0, .string (⟨#[]⟩ : ByteArray), .int .i64 0, .slice none 0 0] 35 (0,0)) (by (with_reducible repeat first|refine bN ?_ _|refine bD ?_|refine bA ?_ _);exact BK180.out) k_ hn_))⟩)) (below_size (by repeat (first|(with_reducible first|exact HB.out|apply below_alloc|apply pw_below_drewN|apply below_drew1|refine below_set ?_ GE118.out|refine below_set ?_ GE155.out|refine below_set ?_ GE164.out|refine below_set ?_ GE180.out)|exact HB.out))))
     have n10_:=Aside0.mk (blk_below (g:=gb118) (o := .cells #[.slice Ao24 t133.length co24] 27 (0,0)) (by (with_reducible repeat first|refine bN ?_ _|refine bD ?_|refine bA ?_ _);exact BK118.out) hb)
     have n11_:=Aside0.mk (blk_below (g:=gb155) (o := .cells #[.slice Ao35 t151.length co35] 27 (0,0)) (by (with_reducible repeat first|refine bN ?_ _|refine bD ?_|refine bA ?_ _);exact BK155.out) hb)
     have n12_:=Aside0.mk (blk_below (g:=gb164) (o := .cells #[.int .i64 t156, .int .i64 t157, .string t158, .int .i64 t159, .slice Ao45 t160.length co45] 35 (0,0)) (by (with_reducible repeat first|refine bN ?_ _|refine bD ?_|refine bA ?_ _);exact BK164.out) hb)
     have n13_:=Aside0.mk (blk_below (g:=gb180) (o := .cells #[.int .i64 0, .int .i64 0, .string (⟨#[]⟩ : ByteArray), .int .i64 0, .slice none 0 0] 35 (0,0)) (by (with_reducible repeat first|refine bN ?_ _|refine bD ?_|refine bA ?_ _);exact BK180.out) hb)
     have n14_:=Aside0.mk (below_step (by repeat (first|(with_reducible first|exact HB.out|apply below_alloc|apply pw_below_drewN|apply below_drew1|refine below_set ?_ GE118.out|refine below_set ?_ GE155.out|refine below_set ?_ GE164.out|refine below_set ?_ GE180.out)|exact HB.out)) hb)
     clear HO117
     clear HO125
     clear HO132
     clear HO135
     clear HO143
     clear HO150
     clear HO153
     clear HO162
     clear HO171
     clear BK118
     clear BK155
     clear BK164
     clear BK180
     clear HB
     have HO117:=n0_
     have HO125:=n1_
     have HO132:=n2_
     have HO135:=n3_
     have HO143:=n4_
     have HO150:=n5_
     have HO153:=n6_
     have HO162:=n7_
     have HO171:=n8_
     have HO178:=n9_
     have BK118:=n10_
     have BK155:=n11_
     have BK164:=n12_
     have BK180:=n13_
     have HB:=n14_
     clear n0_ n1_ n2_ n3_ n4_ n5_ n6_ n7_ n8_ n9_ n10_ n11_ n12_ n13_ n14_
     (try clear hb)
     (try clear hb2)
     (try clear hk)
     (try clear hi)
     (try clear ho0)
     refine hK.out _ _ ((blk_cell BK155.out 0).trans rfl) (fun hHeld => ?_)
     clear hK K
     refine norm_ (a':=?_) ?_ ?_
     rotate_left
     ·show Act.put _ (some 33) _ = _
      simp only [Act.put,List.setIfInBounds_toArray,List.set_cons_zero,List.set_cons_succ,i64_w,i32_w]
      rfl
     refine pure_ (i:=3) (N:=some 30) (v:=?_) (a':=?_) #[true,true,true,true,false,false,true,false,false] rfl rfl (any_of HT_.out (by kernel_rfl)) (fun _ _ _ h => h) (Or.inl ⟨by rfl,?_⟩) ?_ ?_
     rotate_left
     ·intro w'
      go_simp
      with_reducible rfl
     rotate_left
     ·simp only [Act.put,List.setIfInBounds_toArray,List.set_cons_zero,List.set_cons_succ,i64_w,i32_w]
      rfl
     refine pure_ (i:=4) (N:=some 34) (v:=?_) (a':=?_) #[true,true,true,true,true,false,true,false,false] rfl rfl (any_of HT_.out (by kernel_rfl)) (fun _ _ _ h => h) (Or.inl ⟨by rfl,?_⟩) ?_ ?_
     rotate_left
     ·intro w'
      go_simp
      with_reducible rfl
     rotate_left
     ·simp only [Act.put,List.setIfInBounds_toArray,List.set_cons_zero,List.set_cons_succ,i64_w,i32_w]
      rfl
     refine pure_ (i:=5) (N:=some 35) (v:=?_) (a':=?_) #[true,true,true,true,true,true,true,false,false] rfl rfl (any_of HT_.out (by kernel_rfl)) (fun _ _ _ h => h) (Or.inl ⟨by rfl,?_⟩) ?_ ?_
     rotate_left
     ·intro w'
      go_simp
      with_reducible rfl
     rotate_left
     ·simp only [Act.put,List.setIfInBounds_toArray,List.set_cons_zero,List.set_cons_succ,i64_w,i32_w]
      rfl
     exact norm_ (by simp only [putAll,Act.put,List.setIfInBounds_toArray,List.set_cons_zero,List.set_cons_succ]) (hCont (.slice Ao50 t169.length co50,v177,gb180) _ ⟨hHeld,(by (with_reducible repeat first|apply nA|apply nN|apply nD);exact Kd.N_mono HO117.out (fun _ hk => ⟨hk.1.1.1,⟨hk.1.1.2.1,⟨hk.1.1.2.2.1,⟨hk.1.1.2.2.2.1,⟨hk.1.1.2.2.2.2.1,⟨hk.1.1.2.2.2.2.2.1,⟨hk.1.2,⟨hk.1.1.2.2.2.2.2.2.1,⟨hk.1.1.2.2.2.2.2.2.2.1,⟨hk.1.1.2.2.2.2.2.2.2.2,hk.2⟩⟩⟩⟩⟩⟩⟩⟩⟩⟩)),(by (with_reducible repeat first|apply nA|apply nN|apply nD);exact Kd.N_mono HO125.out (fun _ hk => ⟨hk.1.1.1,⟨hk.1.1.2.1,⟨hk.1.1.2.2.1,⟨hk.1.1.2.2.2.1,⟨hk.1.1.2.2.2.2.1,⟨hk.1.1.2.2.2.2.2.1,⟨hk.1.2,⟨hk.1.1.2.2.2.2.2.2.1,⟨hk.1.1.2.2.2.2.2.2.2.1,⟨hk.1.1.2.2.2.2.2.2.2.2,hk.2⟩⟩⟩⟩⟩⟩⟩⟩⟩⟩)),(by (with_reducible repeat first|apply nA|apply nN|apply nD);exact Kd.N_mono HO132.out (fun _ hk => ⟨hk.1.1.1,⟨hk.1.1.2.1,⟨hk.1.1.2.2.1,⟨hk.1.1.2.2.2.1,⟨hk.1.1.2.2.2.2.1,⟨hk.1.1.2.2.2.2.2.1,⟨hk.1.2,⟨hk.1.1.2.2.2.2.2.2.1,⟨hk.1.1.2.2.2.2.2.2.2.1,⟨hk.1.1.2.2.2.2.2.2.2.2,hk.2⟩⟩⟩⟩⟩⟩⟩⟩⟩⟩)),(by (with_reducible repeat first|apply nA|apply nN|apply nD);exact Kd.N_mono HO135.out (fun _ hk => ⟨hk.1.1.1,⟨hk.1.1.2.1,⟨hk.1.1.2.2.1,⟨hk.1.2,⟨hk.1.1.2.2.2.1,⟨hk.1.1.2.2.2.2.1,⟨hk.1.1.2.2.2.2.2,hk.2⟩⟩⟩⟩⟩⟩⟩)),(by (with_reducible repeat first|apply nA|apply nN|apply nD);exact Kd.N_mono HO143.out (fun _ hk => ⟨hk.1.1.1,⟨hk.1.1.2.1,⟨hk.1.1.2.2.1,⟨hk.1.1.2.2.2.1,⟨hk.1.1.2.2.2.2.1,⟨hk.1.1.2.2.2.2.2.1,⟨hk.1.2,⟨hk.1.1.2.2.2.2.2.2.1,⟨hk.1.1.2.2.2.2.2.2.2.1,⟨hk.1.1.2.2.2.2.2.2.2.2,hk.2⟩⟩⟩⟩⟩⟩⟩⟩⟩⟩)),(by (with_reducible repeat first|apply nA|apply nN|apply nD);exact Kd.N_mono HO150.out (fun _ hk => ⟨hk.1.1.1,⟨hk.1.1.2.1,⟨hk.1.1.2.2.1,⟨hk.1.1.2.2.2.1,⟨hk.1.1.2.2.2.2.1,⟨hk.1.1.2.2.2.2.2.1,⟨hk.1.2,⟨hk.1.1.2.2.2.2.2.2.1,⟨hk.1.1.2.2.2.2.2.2.2.1,⟨hk.1.1.2.2.2.2.2.2.2.2,hk.2⟩⟩⟩⟩⟩⟩⟩⟩⟩⟩)),(by (with_reducible repeat first|apply nA|apply nN|apply nD);exact Kd.N_mono HO153.out (fun _ hk => ⟨hk.1.2,⟨hk.1.1.1,⟨hk.1.1.2.1,⟨hk.1.1.2.2,hk.2⟩⟩⟩⟩)),(by (with_reducible repeat (first|apply Kd.V_alloc|apply Kd.V_drewN|apply Kd.V_drew));exact Kd.V_mono HO162.out (fun _ hk => ⟨hk.1.2,⟨hk.1.1.1,⟨hk.1.1.2.1,⟨hk.1.1.2.2,hk.2⟩⟩⟩⟩)),(by (with_reducible repeat first|apply nA|apply nN|apply nD);exact Kd.N_mono HO171.out (fun _ hk => ⟨hk.1.1,⟨hk.1.2.1,⟨hk.1.2.2.1,⟨hk.1.2.2.2.1,⟨hk.1.2.2.2.2.1,⟨hk.1.2.2.2.2.2.1,⟨hk.1.2.2.2.2.2.2.1,⟨hk.1.2.2.2.2.2.2.2.1,⟨hk.1.2.2.2.2.2.2.2.2.1,⟨hk.1.2.2.2.2.2.2.2.2.2,hk.2⟩⟩⟩⟩⟩⟩⟩⟩⟩⟩)),(by (with_reducible repeat (first|apply Kd.V_alloc|apply Kd.V_drewN|apply Kd.V_drew));exact HO178.out),(by (with_reducible repeat first|refine bN ?_ _|refine bD ?_|refine bA ?_ _);exact BK118.out),(by (with_reducible repeat first|refine bN ?_ _|refine bD ?_|refine bA ?_ _);exact BK155.out),(by (with_reducible repeat first|refine bN ?_ _|refine bD ?_|refine bA ?_ _);exact BK164.out),(by (with_reducible repeat first|refine bN ?_ _|refine bD ?_|refine bA ?_ _);exact BK180.out),GW180.out,GE180.out,NB118_180.out,NB180_118.out,NB155_180.out,NB180_155.out,NB164_180.out,NB180_164.out,(by repeat (first|(with_reducible first|exact HB.out|apply below_alloc|apply pw_below_drewN|apply below_drew1|refine below_set ?_ GE118.out|refine below_set ?_ GE155.out|refine below_set ?_ GE164.out|refine below_set ?_ GE180.out)|exact HB.out))⟩)
   ·skip
    refine box_step ?hg (N:=7) ?hd (cs:=#[.int .i64 0, .int .i64 0, .string (⟨#[]⟩ : ByteArray), .int .i64 0, .slice none 0 0]) (t:=35) ?hr ?_;(case hd => rfl);(case hg => rfl);(case hr => first|(go_simp;done)|(go_simp;rfl))
    intro gb180 hg w48 hbox hb
    have n0_:=Aside0.mk (Kd.N_below (Kd.N_elderB (by (with_reducible repeat first|apply nA|apply nN|apply nD);exact HO117.out) gb180 (Nat.le_of_eq hg.symm)) hb)
    have n1_:=Aside0.mk (Kd.N_below (Kd.N_elderB (by (with_reducible repeat first|apply nA|apply nN|apply nD);exact HO125.out) gb180 (Nat.le_of_eq hg.symm)) hb)
    have n2_:=Aside0.mk (Kd.N_below (Kd.N_elderB (by (with_reducible repeat first|apply nA|apply nN|apply nD);exact HO132.out) gb180 (Nat.le_of_eq hg.symm)) hb)
    have n3_:=Aside0.mk (Kd.N_below (Kd.N_elderB (by (with_reducible repeat first|apply nA|apply nN|apply nD);exact HO135.out) gb180 (Nat.le_of_eq hg.symm)) hb)
    have n4_:=Aside0.mk (Kd.N_below (Kd.N_elderB (by (with_reducible repeat first|apply nA|apply nN|apply nD);exact HO143.out) gb180 (Nat.le_of_eq hg.symm)) hb)
    have n5_:=Aside0.mk (Kd.N_below (Kd.N_elderB (by (with_reducible repeat first|apply nA|apply nN|apply nD);exact HO150.out) gb180 (Nat.le_of_eq hg.symm)) hb)
    have n6_:=Aside0.mk (Kd.N_below (Kd.N_elderB (by (with_reducible repeat first|apply nA|apply nN|apply nD);exact HO153.out) gb180 (Nat.le_of_eq hg.symm)) hb)
    have n7_:=Aside0.mk (Kd.V_below (Kd.V_elderB (by (with_reducible repeat (first|apply Kd.V_alloc|apply Kd.V_drewN|apply Kd.V_drew));exact HO162.out) gb180 (Nat.le_of_eq hg.symm)) hb)
    have n8_:=Aside0.mk (blk_below (g:=gb118) (o := .cells #[.slice Ao24 t133.length co24] 27 (0,0)) (by (with_reducible repeat first|refine bN ?_ _|refine bD ?_|refine bA ?_ _);exact BK118.out) hb)
    have n9_:=Aside0.mk (blk_below (g:=gb155) (o := .cells #[.slice Ao35 t151.length co35] 27 (0,0)) (by (with_reducible repeat first|refine bN ?_ _|refine bD ?_|refine bA ?_ _);exact BK155.out) hb)
    have n10_:=Aside0.mk (blk_below (g:=gb164) (o := .cells #[.int .i64 t156, .int .i64 t157, .string t158, .int .i64 t159, .slice Ao45 t160.length co45] 35 (0,0)) (by (with_reducible repeat first|refine bN ?_ _|refine bD ?_|refine bA ?_ _);exact BK164.out) hb)
    have n11_:=Aside0.mk (below_step (by repeat (first|(with_reducible first|exact HB.out|apply below_alloc|apply pw_below_drewN|apply below_drew1|refine below_set ?_ GE118.out|refine below_set ?_ GE155.out|refine below_set ?_ GE164.out)|exact HB.out)) hb)
    have n12_:=Aside0.mk (hbox)
    have n13_:=Aside0.mk ((by rw [hg];exact (below_size (by repeat (first|(with_reducible first|exact HB.out|apply below_alloc|apply pw_below_drewN|apply below_drew1|refine below_set ?_ GE118.out|refine below_set ?_ GE155.out|refine below_set ?_ GE164.out)|exact HB.out))) : w.heap.size ≤ gb180))
    have n14_:=Aside0.mk ((by rw [hg];exact (below_size (by repeat (first|(with_reducible first|exact HB.out|apply below_alloc|apply pw_below_drewN|apply below_drew1|refine below_set ?_ GE118.out|refine below_set ?_ GE155.out|refine below_set ?_ GE164.out)|exact HB.out))) : w.heap.size ≤ gb180))
    have n15_:=Aside0.mk ((by rw [hg];exact Nat.ne_of_lt (blk_lt (g:=gb118) (o := .cells #[.slice Ao24 t133.length co24] 27 (0,0)) (by (with_reducible repeat first|refine bN ?_ _|refine bD ?_|refine bA ?_ _);exact BK118.out)) : gb118 ≠ gb180))
    have n16_:=Aside0.mk ((by rw [hg];exact Nat.ne_of_gt (blk_lt (g:=gb118) (o := .cells #[.slice Ao24 t133.length co24] 27 (0,0)) (by (with_reducible repeat first|refine bN ?_ _|refine bD ?_|refine bA ?_ _);exact BK118.out)) : gb180 ≠ gb118))
    have n17_:=Aside0.mk ((by rw [hg];exact Nat.ne_of_lt (blk_lt (g:=gb155) (o := .cells #[.slice Ao35 t151.length co35] 27 (0,0)) (by (with_reducible repeat first|refine bN ?_ _|refine bD ?_|refine bA ?_ _);exact BK155.out)) : gb155 ≠ gb180))
    have n18_:=Aside0.mk ((by rw [hg];exact Nat.ne_of_gt (blk_lt (g:=gb155) (o := .cells #[.slice Ao35 t151.length co35] 27 (0,0)) (by (with_reducible repeat first|refine bN ?_ _|refine bD ?_|refine bA ?_ _);exact BK155.out)) : gb180 ≠ gb155))
    have n19_:=Aside0.mk ((by rw [hg];exact Nat.ne_of_lt (blk_lt (g:=gb164) (o := .cells #[.int .i64 t156, .int .i64 t157, .string t158, .int .i64 t159, .slice Ao45 t160.length co45] 35 (0,0)) (by (with_reducible repeat first|refine bN ?_ _|refine bD ?_|refine bA ?_ _);exact BK164.out)) : gb164 ≠ gb180))
    have n20_:=Aside0.mk ((by rw [hg];exact Nat.ne_of_gt (blk_lt (g:=gb164) (o := .cells #[.int .i64 t156, .int .i64 t157, .string t158, .int .i64 t159, .slice Ao45 t160.length co45] 35 (0,0)) (by (with_reducible repeat first|refine bN ?_ _|refine bD ?_|refine bA ?_ _);exact BK164.out)) : gb180 ≠ gb164))
    clear HO117
    clear HO125
    clear HO132
    clear HO135
    clear HO143
    clear HO150
    clear HO153
    clear HO162
    clear BK118
    clear BK155
    clear BK164
    clear HB
    have HO117:=n0_
    have HO125:=n1_
    have HO132:=n2_
    have HO135:=n3_
    have HO143:=n4_
    have HO150:=n5_
    have HO153:=n6_
    have HO162:=n7_
    have BK118:=n8_
    have BK155:=n9_
    have BK164:=n10_
    have HB:=n11_
    have BK180:=n12_
    have GW180:=n13_
    have GE180:=n14_
    have NB118_180:=n15_
    have NB180_118:=n16_
    have NB155_180:=n17_
    have NB180_155:=n18_
    have NB164_180:=n19_
    have NB180_164:=n20_
    clear n0_ n1_ n2_ n3_ n4_ n5_ n6_ n7_ n8_ n9_ n10_ n11_ n12_ n13_ n14_ n15_ n16_ n17_ n18_ n19_ n20_
    clear hb hbox hg
    refine hK.out _ _ ((blk_cell BK155.out 0).trans rfl) (fun hHeld => ?_)
    clear hK K
    refine norm_ (a':=?_) ?_ ?_
    rotate_left
    ·show Act.put _ (some 7) _ = _
     simp only [Act.put,List.setIfInBounds_toArray,List.set_cons_zero,List.set_cons_succ,i64_w,i32_w]
     rfl
    refine one_ (i:=1) (N:=some 32) #[true,true,false,false,false,false,true,false,false] rfl rfl (one_of HT_.out (by kernel_rfl)) (by decide) (fun K hK => ?_)
    refine goes_ Try.func11 (by kernel_rfl) rfl #[.int .i64 1] (by rfl) rfl rfl (by (try simp only [List.map_toArray,List.map_cons,List.map_nil]);first|done|rfl|(simp only [List.length_drop,List.length_take];rfl)|(go_simp;done)|(go_simp;simp;done)) ?_
    with_reducible refine (windlasslaw4_num.calls 1 t165 t166 t167 t168 t169 _ A9.out).mono ?_
    rintro e w49 ⟨v170,rfl,ho0,hb⟩
    refine ⟨_,rfl,?_⟩
    have n0_:=Aside0.mk (Kd.N_elder' (by (with_reducible repeat first|apply nA|apply nN|apply nD);exact HO117.out) (by first|exact Kd.N_base ho0|exact Kd.R_base ho0) hb)
    have n1_:=Aside0.mk (Kd.N_elder' (by (with_reducible repeat first|apply nA|apply nN|apply nD);exact HO125.out) (by first|exact Kd.N_base ho0|exact Kd.R_base ho0) hb)
    have n2_:=Aside0.mk (Kd.N_elder' (by (with_reducible repeat first|apply nA|apply nN|apply nD);exact HO132.out) (by first|exact Kd.N_base ho0|exact Kd.R_base ho0) hb)
    have n3_:=Aside0.mk (Kd.N_elder' (by (with_reducible repeat first|apply nA|apply nN|apply nD);exact HO135.out) (by first|exact Kd.N_base ho0|exact Kd.R_base ho0) hb)
    have n4_:=Aside0.mk (Kd.N_elder' (by (with_reducible repeat first|apply nA|apply nN|apply nD);exact HO143.out) (by first|exact Kd.N_base ho0|exact Kd.R_base ho0) hb)
    have n5_:=Aside0.mk (Kd.N_elder' (by (with_reducible repeat first|apply nA|apply nN|apply nD);exact HO150.out) (by first|exact Kd.N_base ho0|exact Kd.R_base ho0) hb)
    have n6_:=Aside0.mk (Kd.N_elder' (by (with_reducible repeat first|apply nA|apply nN|apply nD);exact HO153.out) (by first|exact Kd.N_base ho0|exact Kd.R_base ho0) hb)
    have n7_:=Aside0.mk (Kd.V_elder' (by (with_reducible repeat (first|apply Kd.V_alloc|apply Kd.V_drewN|apply Kd.V_drew));exact HO162.out) (by first|exact Kd.N_base ho0|exact Kd.R_base ho0) hb)
    have n8_:=Aside0.mk (Kd.N_lower (Kd.N_mono (ok':=fun k_ => some k_ ≠ (.slice Ao14 y115.length co14 : Value).ownBlock ∧ some k_ ≠ (.slice Ao21 t123.length co21 : Value).ownBlock ∧ some k_ ≠ (.slice Ao22 t130.length co22 : Value).ownBlock ∧ some k_ ≠ (.slice Ao24 t133.length co24 : Value).ownBlock ∧ some k_ ≠ (v142 : Value).ownBlock ∧ some k_ ≠ (v149 : Value).ownBlock ∧ some k_ ≠ (.slice Ao35 t151.length co35 : Value).ownBlock ∧ k_ ≠ gb118 ∧ k_ ≠ gb155 ∧ k_ ≠ gb164 ∧ k_ ≠ gb180) (Kd.R_N (Kd.R_bound ho0)) (fun k_ hk_ => ⟨(Kd.fresh' (Kd.N_lt (by (with_reducible repeat first|apply nA|apply nN|apply nD);exact HO117.out)) k_ hk_.2.1),(Kd.fresh' (Kd.N_lt (by (with_reducible repeat first|apply nA|apply nN|apply nD);exact HO125.out)) k_ hk_.2.1),(Kd.fresh' (Kd.N_lt (by (with_reducible repeat first|apply nA|apply nN|apply nD);exact HO132.out)) k_ hk_.2.1),(Kd.fresh' (Kd.N_lt (by (with_reducible repeat first|apply nA|apply nN|apply nD);exact HO135.out)) k_ hk_.2.1),(Kd.fresh' (Kd.N_lt (by (with_reducible repeat first|apply nA|apply nN|apply nD);exact HO143.out)) k_ hk_.2.1),(Kd.fresh' (Kd.N_lt (by (with_reducible repeat first|apply nA|apply nN|apply nD);exact HO150.out)) k_ hk_.2.1),(Kd.fresh' (Kd.N_lt (by (with_reducible repeat first|apply nA|apply nN|apply nD);exact HO153.out)) k_ hk_.2.1),(Kd.freshB (g:=gb118) (o := .cells #[.slice Ao24 t133.length co24] 27 (0,0)) (by (with_reducible repeat first|refine bN ?_ _|refine bD ?_|refine bA ?_ _);exact BK118.out) k_ hk_.2.1),(Kd.freshB (g:=gb155) (o := .cells #[.slice Ao35 t151.length co35] 27 (0,0)) (by (with_reducible repeat first|refine bN ?_ _|refine bD ?_|refine bA ?_ _);exact BK155.out) k_ hk_.2.1),(Kd.freshB (g:=gb164) (o := .cells #[.int .i64 t156, .int .i64 t157, .string t158, .int .i64 t159, .slice Ao45 t160.length co45] 35 (0,0)) (by (with_reducible repeat first|refine bN ?_ _|refine bD ?_|refine bA ?_ _);exact BK164.out) k_ hk_.2.1),(Kd.freshB (g:=gb180) (o := .cells #[.int .i64 0, .int .i64 0, .string (⟨#[]⟩ : ByteArray), .int .i64 0, .slice none 0 0] 35 (0,0)) (by (with_reducible repeat first|refine bN ?_ _|refine bD ?_|refine bA ?_ _);exact BK180.out) k_ hk_.2.1)⟩)) (below_size (by repeat (first|(with_reducible first|exact HB.out|apply below_alloc|apply pw_below_drewN|apply below_drew1|refine below_set ?_ GE118.out|refine below_set ?_ GE155.out|refine below_set ?_ GE164.out|refine below_set ?_ GE180.out)|exact HB.out))))
    have n9_:=Aside0.mk (blk_below (g:=gb118) (o := .cells #[.slice Ao24 t133.length co24] 27 (0,0)) (by (with_reducible repeat first|refine bN ?_ _|refine bD ?_|refine bA ?_ _);exact BK118.out) hb)
    have n10_:=Aside0.mk (blk_below (g:=gb155) (o := .cells #[.slice Ao35 t151.length co35] 27 (0,0)) (by (with_reducible repeat first|refine bN ?_ _|refine bD ?_|refine bA ?_ _);exact BK155.out) hb)
    have n11_:=Aside0.mk (blk_below (g:=gb164) (o := .cells #[.int .i64 t156, .int .i64 t157, .string t158, .int .i64 t159, .slice Ao45 t160.length co45] 35 (0,0)) (by (with_reducible repeat first|refine bN ?_ _|refine bD ?_|refine bA ?_ _);exact BK164.out) hb)
    have n12_:=Aside0.mk (blk_below (g:=gb180) (o := .cells #[.int .i64 0, .int .i64 0, .string (⟨#[]⟩ : ByteArray), .int .i64 0, .slice none 0 0] 35 (0,0)) (by (with_reducible repeat first|refine bN ?_ _|refine bD ?_|refine bA ?_ _);exact BK180.out) hb)
    have n13_:=Aside0.mk (below_step (by repeat (first|(with_reducible first|exact HB.out|apply below_alloc|apply pw_below_drewN|apply below_drew1|refine below_set ?_ GE118.out|refine below_set ?_ GE155.out|refine below_set ?_ GE164.out|refine below_set ?_ GE180.out)|exact HB.out)) hb)
    clear HO117
    clear HO125
    clear HO132
    clear HO135
    clear HO143
    clear HO150
    clear HO153
    clear HO162
    clear BK118
    clear BK155
    clear BK164
    clear BK180
    clear HB
    have HO117:=n0_
    have HO125:=n1_
    have HO132:=n2_
    have HO135:=n3_
    have HO143:=n4_
    have HO150:=n5_
    have HO153:=n6_
    have HO162:=n7_
    have HO171:=n8_
    have BK118:=n9_
    have BK155:=n10_
    have BK164:=n11_
    have BK180:=n12_
    have HB:=n13_
    clear n0_ n1_ n2_ n3_ n4_ n5_ n6_ n7_ n8_ n9_ n10_ n11_ n12_ n13_
    (try clear hb)
    (try clear hb2)
    (try clear hk)
    (try clear hi)
    (try clear ho0)
    obtain ⟨Ao50,co50,eo50⟩:=Kd.N_slice HO171.out
    (first|subst eo50|(injection eo50 with f1_ f2_ f3_;have f4_:=f1_.symm;have f5_:=f3_.symm;clear f1_ f2_ f3_;subst f4_;subst f5_))
    refine hK.out _ _ ((blk_cell BK155.out 0).trans rfl) (fun hHeld => ?_)
    clear hK K
    refine norm_ (a':=?_) ?_ ?_
    rotate_left
    ·show Act.put _ (some 32) _ = _
     simp only [Act.put,List.setIfInBounds_toArray,List.set_cons_zero,List.set_cons_succ,i64_w,i32_w]
     rfl
    refine one_ (i:=2) (N:=some 33) #[true,true,true,false,false,false,true,false,false] rfl rfl (one_of HT_.out (by kernel_rfl)) (by decide) (fun K hK => ?_)
    refine goes_ Try.func15 (by kernel_rfl) rfl #[.agg #[.slice Ao35 t151.length co35], .int .i64 0, .agg #[.int .i64 t165, .int .i64 t166, .string t167, .int .i64 t168, .slice Ao50 t169.length co50]] (by rfl) rfl rfl (by (try simp only [List.map_toArray,List.map_cons,List.map_nil]);first|done|rfl|(simp only [List.length_drop,List.length_take];rfl)|(go_simp;done)|(go_simp;simp;done)) ?_
    with_reducible refine (heap_Next.calls k (fun k_ => (((k_ ≠ gb118 ∧ (k_ ≠ gb155 ∧ k_ ≠ gb164)) ∧ k_ ≠ gb180) ∧ some k_ ≠ (.slice Ao50 t169.length co50 : Value).ownBlock)) _ _ t151 0 t165 t166 t167 t168 _ _ t169 t172 t173 t174 t175 t176 t179 _ ?side1 ?side2 ?side3 A10.out).mono ?_
    (case side1 => exact Kd.N_V (HO153.out))
    (case side2 => repeat (first|exact (Kd.N_reads' HO171.out).2.2|(with_reducible refine Kd.C_alloc ?_ _)|(with_reducible refine Kd.C_drewN ?_ _)|(with_reducible refine Kd.C_drew ?_)))
    (case side3 => exact (Kd.N_reads' HO171.out).2.1)
    rintro e w51 ⟨v177,rfl,ho0,hb⟩
    refine ⟨_,rfl,?_⟩
    have n0_:=Aside0.mk (Kd.N_below (by (with_reducible repeat first|apply nA|apply nN|apply nD);exact HO117.out) hb)
    have n1_:=Aside0.mk (Kd.N_below (by (with_reducible repeat first|apply nA|apply nN|apply nD);exact HO125.out) hb)
    have n2_:=Aside0.mk (Kd.N_below (by (with_reducible repeat first|apply nA|apply nN|apply nD);exact HO132.out) hb)
    have n3_:=Aside0.mk (Kd.N_below (by (with_reducible repeat first|apply nA|apply nN|apply nD);exact HO135.out) hb)
    have n4_:=Aside0.mk (Kd.N_below (by (with_reducible repeat first|apply nA|apply nN|apply nD);exact HO143.out) hb)
    have n5_:=Aside0.mk (Kd.N_below (by (with_reducible repeat first|apply nA|apply nN|apply nD);exact HO150.out) hb)
    have n6_:=Aside0.mk (Kd.N_below (by (with_reducible repeat first|apply nA|apply nN|apply nD);exact HO153.out) hb)
    have n7_:=Aside0.mk (Kd.V_below (by (with_reducible repeat (first|apply Kd.V_alloc|apply Kd.V_drewN|apply Kd.V_drew));exact HO162.out) hb)
    have n8_:=Aside0.mk (Kd.N_below (by (with_reducible repeat first|apply nA|apply nN|apply nD);exact HO171.out) hb)
    have n9_:=Aside0.mk (Kd.V_lower (Kd.V_mono (ok':=fun k_ => some k_ ≠ (.slice Ao50 t169.length co50 : Value).ownBlock ∧ k_ ≠ gb118 ∧ k_ ≠ gb155 ∧ k_ ≠ gb164 ∧ k_ ≠ gb180) ho0 (fun k_ hk_ => ⟨Or.elim hk_ (fun hs_ => hs_.2) (fun hn_ => (Kd.fresh' (Kd.N_lt (by (with_reducible repeat first|apply nA|apply nN|apply nD);exact HO171.out)) k_ hn_)),Or.elim hk_ (fun hs_ => hs_.1.1.1) (fun hn_ => (Kd.freshB (g:=gb118) (o := .cells #[.slice Ao24 t133.length co24] 27 (0,0)) (by (with_reducible repeat first|refine bN ?_ _|refine bD ?_|refine bA ?_ _);exact BK118.out) k_ hn_)),Or.elim hk_ (fun hs_ => hs_.1.1.2.1) (fun hn_ => (Kd.freshB (g:=gb155) (o := .cells #[.slice Ao35 t151.length co35] 27 (0,0)) (by (with_reducible repeat first|refine bN ?_ _|refine bD ?_|refine bA ?_ _);exact BK155.out) k_ hn_)),Or.elim hk_ (fun hs_ => hs_.1.1.2.2) (fun hn_ => (Kd.freshB (g:=gb164) (o := .cells #[.int .i64 t156, .int .i64 t157, .string t158, .int .i64 t159, .slice Ao45 t160.length co45] 35 (0,0)) (by (with_reducible repeat first|refine bN ?_ _|refine bD ?_|refine bA ?_ _);exact BK164.out) k_ hn_)),Or.elim hk_ (fun hs_ => hs_.1.2) (fun hn_ => (Kd.freshB (g:=gb180) (o := .cells #[.int .i64 0, .int .i64 0, .string (⟨#[]⟩ : ByteArray), .int .i64 0, .slice none 0 0] 35 (0,0)) (by (with_reducible repeat first|refine bN ?_ _|refine bD ?_|refine bA ?_ _);exact BK180.out) k_ hn_))⟩)) (below_size (by repeat (first|(with_reducible first|exact HB.out|apply below_alloc|apply pw_below_drewN|apply below_drew1|refine below_set ?_ GE118.out|refine below_set ?_ GE155.out|refine below_set ?_ GE164.out|refine below_set ?_ GE180.out)|exact HB.out))))
    have n10_:=Aside0.mk (blk_below (g:=gb118) (o := .cells #[.slice Ao24 t133.length co24] 27 (0,0)) (by (with_reducible repeat first|refine bN ?_ _|refine bD ?_|refine bA ?_ _);exact BK118.out) hb)
    have n11_:=Aside0.mk (blk_below (g:=gb155) (o := .cells #[.slice Ao35 t151.length co35] 27 (0,0)) (by (with_reducible repeat first|refine bN ?_ _|refine bD ?_|refine bA ?_ _);exact BK155.out) hb)
    have n12_:=Aside0.mk (blk_below (g:=gb164) (o := .cells #[.int .i64 t156, .int .i64 t157, .string t158, .int .i64 t159, .slice Ao45 t160.length co45] 35 (0,0)) (by (with_reducible repeat first|refine bN ?_ _|refine bD ?_|refine bA ?_ _);exact BK164.out) hb)
    have n13_:=Aside0.mk (blk_below (g:=gb180) (o := .cells #[.int .i64 0, .int .i64 0, .string (⟨#[]⟩ : ByteArray), .int .i64 0, .slice none 0 0] 35 (0,0)) (by (with_reducible repeat first|refine bN ?_ _|refine bD ?_|refine bA ?_ _);exact BK180.out) hb)
    have n14_:=Aside0.mk (below_step (by repeat (first|(with_reducible first|exact HB.out|apply below_alloc|apply pw_below_drewN|apply below_drew1|refine below_set ?_ GE118.out|refine below_set ?_ GE155.out|refine below_set ?_ GE164.out|refine below_set ?_ GE180.out)|exact HB.out)) hb)
    clear HO117
    clear HO125
    clear HO132
    clear HO135
    clear HO143
    clear HO150
    clear HO153
    clear HO162
    clear HO171
    clear BK118
    clear BK155
    clear BK164
    clear BK180
    clear HB
    have HO117:=n0_
    have HO125:=n1_
    have HO132:=n2_
    have HO135:=n3_
    have HO143:=n4_
    have HO150:=n5_
    have HO153:=n6_
    have HO162:=n7_
    have HO171:=n8_
    have HO178:=n9_
    have BK118:=n10_
    have BK155:=n11_
    have BK164:=n12_
    have BK180:=n13_
    have HB:=n14_
    clear n0_ n1_ n2_ n3_ n4_ n5_ n6_ n7_ n8_ n9_ n10_ n11_ n12_ n13_ n14_
    (try clear hb)
    (try clear hb2)
    (try clear hk)
    (try clear hi)
    (try clear ho0)
    refine hK.out _ _ ((blk_cell BK155.out 0).trans rfl) (fun hHeld => ?_)
    clear hK K
    refine norm_ (a':=?_) ?_ ?_
    rotate_left
    ·show Act.put _ (some 33) _ = _
     simp only [Act.put,List.setIfInBounds_toArray,List.set_cons_zero,List.set_cons_succ,i64_w,i32_w]
     rfl
    refine pure_ (i:=3) (N:=some 30) (v:=?_) (a':=?_) #[true,true,true,true,false,false,true,false,false] rfl rfl (any_of HT_.out (by kernel_rfl)) (fun _ _ _ h => h) (Or.inl ⟨by rfl,?_⟩) ?_ ?_
    rotate_left
    ·intro w'
     go_simp
     with_reducible rfl
    rotate_left
    ·simp only [Act.put,List.setIfInBounds_toArray,List.set_cons_zero,List.set_cons_succ,i64_w,i32_w]
     rfl
    refine pure_ (i:=4) (N:=some 34) (v:=?_) (a':=?_) #[true,true,true,true,true,false,true,false,false] rfl rfl (any_of HT_.out (by kernel_rfl)) (fun _ _ _ h => h) (Or.inl ⟨by rfl,?_⟩) ?_ ?_
    rotate_left
    ·intro w'
     go_simp
     with_reducible rfl
    rotate_left
    ·simp only [Act.put,List.setIfInBounds_toArray,List.set_cons_zero,List.set_cons_succ,i64_w,i32_w]
     rfl
    refine pure_ (i:=5) (N:=some 35) (v:=?_) (a':=?_) #[true,true,true,true,true,true,true,false,false] rfl rfl (any_of HT_.out (by kernel_rfl)) (fun _ _ _ h => h) (Or.inl ⟨by rfl,?_⟩) ?_ ?_
    rotate_left
    ·intro w'
     go_simp
     with_reducible rfl
    rotate_left
    ·simp only [Act.put,List.setIfInBounds_toArray,List.set_cons_zero,List.set_cons_succ,i64_w,i32_w]
     rfl
    exact norm_ (by simp only [putAll,Act.put,List.setIfInBounds_toArray,List.set_cons_zero,List.set_cons_succ]) (hCont (.slice Ao50 t169.length co50,v177,gb180) _ ⟨hHeld,(by (with_reducible repeat first|apply nA|apply nN|apply nD);exact Kd.N_mono HO117.out (fun _ hk => ⟨hk.1.1.1,⟨hk.1.1.2.1,⟨hk.1.1.2.2.1,⟨hk.1.1.2.2.2.1,⟨hk.1.1.2.2.2.2.1,⟨hk.1.1.2.2.2.2.2.1,⟨hk.2,⟨hk.1.1.2.2.2.2.2.2.1,⟨hk.1.1.2.2.2.2.2.2.2.1,⟨hk.1.1.2.2.2.2.2.2.2.2,hk.1.2⟩⟩⟩⟩⟩⟩⟩⟩⟩⟩)),(by (with_reducible repeat first|apply nA|apply nN|apply nD);exact Kd.N_mono HO125.out (fun _ hk => ⟨hk.1.1.1,⟨hk.1.1.2.1,⟨hk.1.1.2.2.1,⟨hk.1.1.2.2.2.1,⟨hk.1.1.2.2.2.2.1,⟨hk.1.1.2.2.2.2.2.1,⟨hk.2,⟨hk.1.1.2.2.2.2.2.2.1,⟨hk.1.1.2.2.2.2.2.2.2.1,⟨hk.1.1.2.2.2.2.2.2.2.2,hk.1.2⟩⟩⟩⟩⟩⟩⟩⟩⟩⟩)),(by (with_reducible repeat first|apply nA|apply nN|apply nD);exact Kd.N_mono HO132.out (fun _ hk => ⟨hk.1.1.1,⟨hk.1.1.2.1,⟨hk.1.1.2.2.1,⟨hk.1.1.2.2.2.1,⟨hk.1.1.2.2.2.2.1,⟨hk.1.1.2.2.2.2.2.1,⟨hk.2,⟨hk.1.1.2.2.2.2.2.2.1,⟨hk.1.1.2.2.2.2.2.2.2.1,⟨hk.1.1.2.2.2.2.2.2.2.2,hk.1.2⟩⟩⟩⟩⟩⟩⟩⟩⟩⟩)),(by (with_reducible repeat first|apply nA|apply nN|apply nD);exact Kd.N_mono HO135.out (fun _ hk => ⟨hk.1.1.1,⟨hk.1.1.2.1,⟨hk.1.1.2.2.1,⟨hk.2,⟨hk.1.1.2.2.2.1,⟨hk.1.1.2.2.2.2.1,⟨hk.1.1.2.2.2.2.2,hk.1.2⟩⟩⟩⟩⟩⟩⟩)),(by (with_reducible repeat first|apply nA|apply nN|apply nD);exact Kd.N_mono HO143.out (fun _ hk => ⟨hk.1.1.1,⟨hk.1.1.2.1,⟨hk.1.1.2.2.1,⟨hk.1.1.2.2.2.1,⟨hk.1.1.2.2.2.2.1,⟨hk.1.1.2.2.2.2.2.1,⟨hk.2,⟨hk.1.1.2.2.2.2.2.2.1,⟨hk.1.1.2.2.2.2.2.2.2.1,⟨hk.1.1.2.2.2.2.2.2.2.2,hk.1.2⟩⟩⟩⟩⟩⟩⟩⟩⟩⟩)),(by (with_reducible repeat first|apply nA|apply nN|apply nD);exact Kd.N_mono HO150.out (fun _ hk => ⟨hk.1.1.1,⟨hk.1.1.2.1,⟨hk.1.1.2.2.1,⟨hk.1.1.2.2.2.1,⟨hk.1.1.2.2.2.2.1,⟨hk.1.1.2.2.2.2.2.1,⟨hk.2,⟨hk.1.1.2.2.2.2.2.2.1,⟨hk.1.1.2.2.2.2.2.2.2.1,⟨hk.1.1.2.2.2.2.2.2.2.2,hk.1.2⟩⟩⟩⟩⟩⟩⟩⟩⟩⟩)),(by (with_reducible repeat first|apply nA|apply nN|apply nD);exact Kd.N_mono HO153.out (fun _ hk => ⟨hk.2,⟨hk.1.1.1,⟨hk.1.1.2.1,⟨hk.1.1.2.2,hk.1.2⟩⟩⟩⟩)),(by (with_reducible repeat (first|apply Kd.V_alloc|apply Kd.V_drewN|apply Kd.V_drew));exact Kd.V_mono HO162.out (fun _ hk => ⟨hk.2,⟨hk.1.1.1,⟨hk.1.1.2.1,⟨hk.1.1.2.2,hk.1.2⟩⟩⟩⟩)),(by (with_reducible repeat first|apply nA|apply nN|apply nD);exact HO171.out),(by (with_reducible repeat (first|apply Kd.V_alloc|apply Kd.V_drewN|apply Kd.V_drew));exact HO178.out),(by (with_reducible repeat first|refine bN ?_ _|refine bD ?_|refine bA ?_ _);exact BK118.out),(by (with_reducible repeat first|refine bN ?_ _|refine bD ?_|refine bA ?_ _);exact BK155.out),(by (with_reducible repeat first|refine bN ?_ _|refine bD ?_|refine bA ?_ _);exact BK164.out),(by (with_reducible repeat first|refine bN ?_ _|refine bD ?_|refine bA ?_ _);exact BK180.out),GW180.out,GE180.out,NB118_180.out,NB180_118.out,NB155_180.out,NB180_155.out,NB164_180.out,NB180_164.out,(by repeat (first|(with_reducible first|exact HB.out|apply below_alloc|apply pw_below_drewN|apply below_drew1|refine below_set ?_ GE118.out|refine below_set ?_ GE155.out|refine below_set ?_ GE164.out|refine below_set ?_ GE180.out)|exact HB.out))⟩)
  rintro ⟨v170,v177,gb180⟩ w52 ⟨hS_,h0_,h1_,h2_,h3_,h4_,h5_,h6_,h7_,h8_,h9_,h10_,h11_,h12_,h13_,h14_,h15_,h16_,h17_,h18_,h19_,h20_,h21_,h22_⟩
  have n0_ : Aside0 (Kd.N (Kd.slice 82 k82) 41 w52 w.heap.size (fun k_ => some k_ ≠ (.slice Ao21 t123.length co21 : Value).ownBlock ∧ some k_ ≠ (.slice Ao22 t130.length co22 : Value).ownBlock ∧ some k_ ≠ (.slice Ao24 t133.length co24 : Value).ownBlock ∧ some k_ ≠ (v142 : Value).ownBlock ∧ some k_ ≠ (v149 : Value).ownBlock ∧ some k_ ≠ (.slice Ao35 t151.length co35 : Value).ownBlock ∧ some k_ ≠ (v170 : Value).ownBlock ∧ k_ ≠ gb118 ∧ k_ ≠ gb155 ∧ k_ ≠ gb164 ∧ k_ ≠ gb180) (.slice Ao14 y115.length co14) y115):=⟨h0_⟩
  have n1_ : Aside0 (Kd.N k35 35 w52 w.heap.size (fun k_ => some k_ ≠ (.slice Ao14 y115.length co14 : Value).ownBlock ∧ some k_ ≠ (.slice Ao22 t130.length co22 : Value).ownBlock ∧ some k_ ≠ (.slice Ao24 t133.length co24 : Value).ownBlock ∧ some k_ ≠ (v142 : Value).ownBlock ∧ some k_ ≠ (v149 : Value).ownBlock ∧ some k_ ≠ (.slice Ao35 t151.length co35 : Value).ownBlock ∧ some k_ ≠ (v170 : Value).ownBlock ∧ k_ ≠ gb118 ∧ k_ ≠ gb155 ∧ k_ ≠ gb164 ∧ k_ ≠ gb180) (.slice Ao21 t123.length co21) t123):=⟨h1_⟩
  have n2_ : Aside0 (Kd.N k35 35 w52 w.heap.size (fun k_ => some k_ ≠ (.slice Ao14 y115.length co14 : Value).ownBlock ∧ some k_ ≠ (.slice Ao21 t123.length co21 : Value).ownBlock ∧ some k_ ≠ (.slice Ao24 t133.length co24 : Value).ownBlock ∧ some k_ ≠ (v142 : Value).ownBlock ∧ some k_ ≠ (v149 : Value).ownBlock ∧ some k_ ≠ (.slice Ao35 t151.length co35 : Value).ownBlock ∧ some k_ ≠ (v170 : Value).ownBlock ∧ k_ ≠ gb118 ∧ k_ ≠ gb155 ∧ k_ ≠ gb164 ∧ k_ ≠ gb180) (.slice Ao22 t130.length co22) t130):=⟨h2_⟩
  have n3_ : Aside0 (Kd.N (Kd.slice 82 k82) 41 w52 w.heap.size (fun k_ => some k_ ≠ (v142 : Value).ownBlock ∧ some k_ ≠ (v149 : Value).ownBlock ∧ some k_ ≠ (.slice Ao35 t151.length co35 : Value).ownBlock ∧ some k_ ≠ (v170 : Value).ownBlock ∧ k_ ≠ gb118 ∧ k_ ≠ gb155 ∧ k_ ≠ gb164 ∧ k_ ≠ gb180) (.slice Ao24 t133.length co24) t133):=⟨h3_⟩
  have n4_ : Aside0 (Kd.N k35 35 w52 w.heap.size (fun k_ => some k_ ≠ (.slice Ao14 y115.length co14 : Value).ownBlock ∧ some k_ ≠ (.slice Ao21 t123.length co21 : Value).ownBlock ∧ some k_ ≠ (.slice Ao22 t130.length co22 : Value).ownBlock ∧ some k_ ≠ (.slice Ao24 t133.length co24 : Value).ownBlock ∧ some k_ ≠ (v149 : Value).ownBlock ∧ some k_ ≠ (.slice Ao35 t151.length co35 : Value).ownBlock ∧ some k_ ≠ (v170 : Value).ownBlock ∧ k_ ≠ gb118 ∧ k_ ≠ gb155 ∧ k_ ≠ gb164 ∧ k_ ≠ gb180) v142 t141):=⟨h4_⟩
  have n5_ : Aside0 (Kd.N k35 35 w52 w.heap.size (fun k_ => some k_ ≠ (.slice Ao14 y115.length co14 : Value).ownBlock ∧ some k_ ≠ (.slice Ao21 t123.length co21 : Value).ownBlock ∧ some k_ ≠ (.slice Ao22 t130.length co22 : Value).ownBlock ∧ some k_ ≠ (.slice Ao24 t133.length co24 : Value).ownBlock ∧ some k_ ≠ (v142 : Value).ownBlock ∧ some k_ ≠ (.slice Ao35 t151.length co35 : Value).ownBlock ∧ some k_ ≠ (v170 : Value).ownBlock ∧ k_ ≠ gb118 ∧ k_ ≠ gb155 ∧ k_ ≠ gb164 ∧ k_ ≠ gb180) v149 t148):=⟨h5_⟩
  have n6_ : Aside0 (Kd.N (Kd.slice 82 k82) 41 w52 w.heap.size (fun k_ => some k_ ≠ (v170 : Value).ownBlock ∧ k_ ≠ gb118 ∧ k_ ≠ gb155 ∧ k_ ≠ gb164 ∧ k_ ≠ gb180) (.slice Ao35 t151.length co35) t151):=⟨h6_⟩
  have n7_ : Aside0 (Kd.V k35 35 w52 w.heap.size (fun k_ => some k_ ≠ (v170 : Value).ownBlock ∧ k_ ≠ gb118 ∧ k_ ≠ gb155 ∧ k_ ≠ gb164 ∧ k_ ≠ gb180) (.slice Ao45 t160.length co45) t160):=⟨h7_⟩
  have n8_ : Aside0 (Kd.N k35 35 w52 w.heap.size (fun k_ => some k_ ≠ (.slice Ao14 y115.length co14 : Value).ownBlock ∧ some k_ ≠ (.slice Ao21 t123.length co21 : Value).ownBlock ∧ some k_ ≠ (.slice Ao22 t130.length co22 : Value).ownBlock ∧ some k_ ≠ (.slice Ao24 t133.length co24 : Value).ownBlock ∧ some k_ ≠ (v142 : Value).ownBlock ∧ some k_ ≠ (v149 : Value).ownBlock ∧ some k_ ≠ (.slice Ao35 t151.length co35 : Value).ownBlock ∧ k_ ≠ gb118 ∧ k_ ≠ gb155 ∧ k_ ≠ gb164 ∧ k_ ≠ gb180) v170 t169):=⟨h8_⟩
  have n9_ : Aside0 (Kd.V k35 35 w52 w.heap.size (fun k_ => some k_ ≠ (v170 : Value).ownBlock ∧ k_ ≠ gb118 ∧ k_ ≠ gb155 ∧ k_ ≠ gb164 ∧ k_ ≠ gb180) v177 t176):=⟨h9_⟩
  have n10_ : Aside0 (w52.heap[gb118]? = some (.cells #[.slice Ao24 t133.length co24] 27 (0,0))):=⟨h10_⟩
  have n11_ : Aside0 (w52.heap[gb155]? = some (.cells #[.slice Ao35 t151.length co35] 27 (0,0))):=⟨h11_⟩
  have n12_ : Aside0 (w52.heap[gb164]? = some (.cells #[.int .i64 t156, .int .i64 t157, .string t158, .int .i64 t159, .slice Ao45 t160.length co45] 35 (0,0))):=⟨h12_⟩
  have n13_ : Aside0 (w52.heap[gb180]? = some (.cells #[.int .i64 0, .int .i64 0, .string (⟨#[]⟩ : ByteArray), .int .i64 0, .slice none 0 0] 35 (0,0))):=⟨h13_⟩
  have n14_ : Aside0 (w.heap.size ≤ gb180):=⟨h14_⟩
  have n15_ : Aside0 (w.heap.size ≤ gb180):=⟨h15_⟩
  have n16_ : Aside0 (gb118 ≠ gb180):=⟨h16_⟩
  have n17_ : Aside0 (gb180 ≠ gb118):=⟨h17_⟩
  have n18_ : Aside0 (gb155 ≠ gb180):=⟨h18_⟩
  have n19_ : Aside0 (gb180 ≠ gb155):=⟨h19_⟩
  have n20_ : Aside0 (gb164 ≠ gb180):=⟨h20_⟩
  have n21_ : Aside0 (gb180 ≠ gb164):=⟨h21_⟩
  have n22_ : Aside0 (Below w.heap.size w w52):=⟨h22_⟩
  clear HO117
  clear HO125
  clear HO132
  clear HO135
  clear HO143
  clear HO150
  clear HO153
  clear HO162
  clear BK118
  clear BK155
  clear BK164
  clear HB
  clear h0_ h1_ h2_ h3_ h4_ h5_ h6_ h7_ h8_ h9_ h10_ h11_ h12_ h13_ h14_ h15_ h16_ h17_ h18_ h19_ h20_ h21_ h22_
  have HO117:=n0_
  have HO125:=n1_
  have HO132:=n2_
  have HO135:=n3_
  have HO143:=n4_
  have HO150:=n5_
  have HO153:=n6_
  have HO162:=n7_
  have HO171:=n8_
  have HO178:=n9_
  have BK118:=n10_
  have BK155:=n11_
  have BK164:=n12_
  have BK180:=n13_
  have GW180:=n14_
  have GE180:=n15_
  have NB118_180:=n16_
  have NB180_118:=n17_
  have NB155_180:=n18_
  have NB180_155:=n19_
  have NB164_180:=n20_
  have NB180_164:=n21_
  have HB:=n22_
  clear n0_ n1_ n2_ n3_ n4_ n5_ n6_ n7_ n8_ n9_ n10_ n11_ n12_ n13_ n14_ n15_ n16_ n17_ n18_ n19_ n20_ n21_ n22_
  have hHeld : w52.cell? ⟨gb155,0,none⟩ = some (.slice Ao35 t151.length co35):=hS_
  obtain ⟨Ao57,co57,eo57⟩:=Kd.V_slice HO178.out
  (first|subst eo57|(injection eo57 with f1_ f2_ f3_;have f4_:=f1_.symm;have f5_:=f3_.symm;clear f1_ f2_ f3_;subst f4_;subst f5_))
  refine norm_ (a':=?_) ?_ ?_
  rotate_left
  ·simp only [putAll,Act.put,List.setIfInBounds_toArray,List.set_cons_zero,List.set_cons_succ]
   rfl
  refine one_ (i:=7) (N:=none) #[true,true,true,true,true,true,true,true,false] rfl rfl (one_of HT_.out (by kernel_rfl)) (by decide) (fun K hK => ?_)
  have hs53 : w52.cell? ⟨gb180,0,none⟩ = some (.int .i64 0):=(blk_cell BK180.out 0).trans rfl
  have hfs53:=blk_frozen BK180.out 0
  have hns53_0:=NB118_180.out
  have hns53_1:=NB155_180.out
  have hns53_2:=NB164_180.out
  have hms53_0:=NB180_118.out
  have hms53_1:=NB180_155.out
  have hms53_2:=NB180_164.out
  have hs54 : w52.cell? ⟨gb180,1,none⟩ = some (.int .i64 0):=(blk_cell BK180.out 1).trans rfl
  have hfs54:=blk_frozen BK180.out 1
  have hns54_0:=NB118_180.out
  have hns54_1:=NB155_180.out
  have hns54_2:=NB164_180.out
  have hms54_0:=NB180_118.out
  have hms54_1:=NB180_155.out
  have hms54_2:=NB180_164.out
  have hs55 : w52.cell? ⟨gb180,2,none⟩ = some (.string (⟨#[]⟩ : ByteArray)):=(blk_cell BK180.out 2).trans rfl
  have hfs55:=blk_frozen BK180.out 2
  have hns55_0:=NB118_180.out
  have hns55_1:=NB155_180.out
  have hns55_2:=NB164_180.out
  have hms55_0:=NB180_118.out
  have hms55_1:=NB180_155.out
  have hms55_2:=NB180_164.out
  have hs56 : w52.cell? ⟨gb180,3,none⟩ = some (.int .i64 0):=(blk_cell BK180.out 3).trans rfl
  have hfs56:=blk_frozen BK180.out 3
  have hns56_0:=NB118_180.out
  have hns56_1:=NB155_180.out
  have hns56_2:=NB164_180.out
  have hms56_0:=NB180_118.out
  have hms56_1:=NB180_155.out
  have hms56_2:=NB180_164.out
  have hs58 : w52.cell? ⟨gb180,4,none⟩ = some (.slice none 0 0):=(blk_cell BK180.out 4).trans rfl
  have hfs58:=blk_frozen BK180.out 4
  have hns58_0:=NB118_180.out
  have hns58_1:=NB155_180.out
  have hns58_2:=NB164_180.out
  have hms58_0:=NB180_118.out
  have hms58_1:=NB180_155.out
  have hms58_2:=NB180_164.out
  refine skip_ (w1:=?_) (by rfl) rfl ?_ ?_
  rotate_left
  ·go_simp
   rfl
  refine hK.out _ _ (((cell_far (p:=⟨gb180,_,none⟩) NB155_180.out _).trans (((cell_far (p:=⟨gb180,_,none⟩) NB155_180.out _).trans (((cell_far (p:=⟨gb180,_,none⟩) NB155_180.out _).trans (((cell_far (p:=⟨gb180,_,none⟩) NB155_180.out _).trans (((cell_far (p:=⟨gb180,_,none⟩) NB155_180.out _).trans (hHeld))))))))))) (fun hHeld => ?_)
  clear hK K
  refine pure_ (i:=8) (N:=some 8) (v:=?_) (a':=?_) #[true,true,true,true,true,true,true,true,true] rfl rfl (any_of HT_.out (by kernel_rfl)) (fun _ _ _ h => h) (Or.inl ⟨by rfl,?_⟩) ?_ ?_
  rotate_left
  ·intro w'
   go_simp
   with_reducible rfl
  rotate_left
  ·simp only [Act.put,List.setIfInBounds_toArray,List.set_cons_zero,List.set_cons_succ,i64_w,i32_w]
   rfl
  refine done_ (done_of HT_.out (by kernel_rfl)) ?_
  go_upto_region 6 with (fail)
  go_cut [0] (fun v0 wc => ∃ (kq : Nat) (x0_10 : Bool),v0 = .bool x0_10 ∧ Aside0 (windlasslaw4_known.j0 kq x0_10 = some r) ∧ Aside0 (kq ≤ k) ∧ Aside0 (Kd.N (Kd.slice 82 k82) 41 wc w.heap.size (fun k_ => some k_ ≠ ((.slice Ao35 t151.length co35) : Value).ownBlock ∧ k_ ≠ gb118 ∧ k_ ≠ gb155 ∧ k_ ≠ gb164 ∧ k_ ≠ gb180) (.slice Ao24 t133.length co24) t133) ∧ Aside0 (Kd.N (Kd.slice 82 k82) 41 wc w.heap.size (fun k_ => k_ ≠ gb118 ∧ k_ ≠ gb155 ∧ k_ ≠ gb164 ∧ k_ ≠ gb180) (.slice Ao35 t151.length co35) t151) ∧ Aside0 (Kd.V k35 35 wc w.heap.size (fun k_ => k_ ≠ gb118 ∧ k_ ≠ gb155 ∧ k_ ≠ gb164 ∧ k_ ≠ gb180) (.slice Ao45 t160.length co45) t160) ∧ Aside0 (Kd.V k35 35 wc w.heap.size (fun k_ => k_ ≠ gb118 ∧ k_ ≠ gb155 ∧ k_ ≠ gb164 ∧ k_ ≠ gb180) (.slice Ao57 t176.length co57) t176) ∧ Aside0 (wc.heap[gb118]? = some (.cells #[(.slice Ao24 t133.length co24)] 27 (0,0))) ∧ Aside0 (wc.heap[gb155]? = some (.cells #[(.slice Ao35 t151.length co35)] 27 (0,0))) ∧ Aside0 (wc.heap[gb164]? = some (.cells #[.int .i64 t156, .int .i64 t157, .string t158, .int .i64 t159,(.slice Ao45 t160.length co45)] 35 (0,0))) ∧ Aside0 (wc.heap[gb180]? = some (.cells #[.int .i64 t172, .int .i64 t173, .string t174, .int .i64 t175,(.slice Ao57 t176.length co57)] 35 (0,0))) ∧ Aside0 (Below w.heap.size w wc))
  case first =>
   have H:=HC11.out
   clear HC11
   by_cases c59 : t136 = 0
   ·rw [if_pos c59] at H
    have c59b0 : (t136 == 0) = true:=beq_iff_eq.mpr c59
    have c59b1 : (t136 != 0) = false:=bne_eq_false_iff_eq.mpr c59
    clear c59
    (first|rw [c59b0]|(simp only [i64_w,i32_w];rw [c59b0])|skip)
    by_cases c60 : t154 = 0
    ·rw [if_pos c60] at H
     have c60b0 : (t154 == 0) = true:=beq_iff_eq.mpr c60
     have c60b1 : (t154 != 0) = false:=bne_eq_false_iff_eq.mpr c60
     clear c60
     by_cases c61 : t163 = true
     ·subst c61
      have H1 : (if t179 = true then (if t157 = 1 then (if t173 = 2 then (if 0 < (t133.length : Int) then (if ((rd_L5 t133 0).length : Int) = 1 then (if 0 < (t151.length : Int) then (windlasslaw4_known.j0 k (((rd_L5 t151 0).length : Int) == 2)) else (none)) else (windlasslaw4_known.j0 k false)) else (none)) else (windlasslaw4_known.j0 k false)) else (windlasslaw4_known.j0 k false)) else (windlasslaw4_known.j0 k false)) = some r:=by rw [if_pos rfl] at H;exact H
      clear H
      have H:=H1
      clear H1
      by_cases c62 : t179 = true
      ·subst c62
       have H1 : (if t157 = 1 then (if t173 = 2 then (if 0 < (t133.length : Int) then (if ((rd_L5 t133 0).length : Int) = 1 then (if 0 < (t151.length : Int) then (windlasslaw4_known.j0 k (((rd_L5 t151 0).length : Int) == 2)) else (none)) else (windlasslaw4_known.j0 k false)) else (none)) else (windlasslaw4_known.j0 k false)) else (windlasslaw4_known.j0 k false)) = some r:=by rw [if_pos rfl] at H;exact H
       clear H
       have H:=H1
       clear H1
       by_cases c63 : t157 = 1
       ·rw [if_pos c63] at H
        have c63b0 : (t157 == 1) = true:=beq_iff_eq.mpr c63
        have c63b1 : (t157 != 1) = false:=bne_eq_false_iff_eq.mpr c63
        clear c63
        by_cases c64 : t173 = 2
        ·rw [if_pos c64] at H
         have c64b0 : (t173 == 2) = true:=beq_iff_eq.mpr c64
         have c64b1 : (t173 != 2) = false:=bne_eq_false_iff_eq.mpr c64
         clear c64
         by_cases c65 : 0 < (t133.length : Int)
         ·rw [if_pos c65] at H
          have c65b0 : decide (0 < (t133.length : Int)) = true:=decide_eq_true c65
          have c65b1 : decide (0 < t133.length) = true:=decide_eq_true (by omega)
          clear c65
          by_cases c66 : ((rd_L5 t133 0).length : Int) = 1
          ·rw [if_pos c66] at H
           have c66b0 : (((rd_L5 t133 0).length : Int) == 1) = true:=beq_iff_eq.mpr c66
           have c66b1 : (((rd_L5 t133 0).length : Int) != 1) = false:=bne_eq_false_iff_eq.mpr c66
           clear c66
           by_cases c67 : 0 < (t151.length : Int)
           ·rw [if_pos c67] at H
            have c67b0 : decide (0 < (t151.length : Int)) = true:=decide_eq_true c67
            have c67b1 : decide (0 < t151.length) = true:=decide_eq_true (by omega)
            clear c67
            have H':=Aside0.mk H
            clear H
            have hnb68:=NB164_118.out
            have hnc68:=NB118_164.out
            have hnb69:=NB164_155.out
            have hnc69:=NB155_164.out
            have hnb70:=NB164_180.out
            have hnc70:=NB180_164.out
            have hcz71_0 : w52.cell? ⟨gb164,0,none⟩ = some (.int .i64 t156):=(blk_cell BK164.out 0).trans rfl
            have hcz71_1 : w52.cell? ⟨gb164,1,none⟩ = some (.int .i64 t157):=(blk_cell BK164.out 1).trans rfl
            have hcz71_2 : w52.cell? ⟨gb164,2,none⟩ = some (.string t158):=(blk_cell BK164.out 2).trans rfl
            have hcz71_3 : w52.cell? ⟨gb164,3,none⟩ = some (.int .i64 t159):=(blk_cell BK164.out 3).trans rfl
            have hcz71_4 : w52.cell? ⟨gb164,4,none⟩ = some (.slice Ao45 t160.length co45):=(blk_cell BK164.out 4).trans rfl
            have hfz71_0:=blk_frozen BK164.out 0
            have hfz71_1:=blk_frozen BK164.out 1
            have hfz71_2:=blk_frozen BK164.out 2
            have hfz71_3:=blk_frozen BK164.out 3
            have hfz71_4:=blk_frozen BK164.out 4
            have hnb72:=NB180_118.out
            have hnc72:=NB118_180.out
            have hnb73:=NB180_155.out
            have hnc73:=NB155_180.out
            have hcz74_0 : w52.cell? ⟨gb180,0,none⟩ = some (.int .i64 0):=(blk_cell BK180.out 0).trans rfl
            have hcz74_1 : w52.cell? ⟨gb180,1,none⟩ = some (.int .i64 0):=(blk_cell BK180.out 1).trans rfl
            have hcz74_2 : w52.cell? ⟨gb180,2,none⟩ = some (.string (⟨#[]⟩ : ByteArray)):=(blk_cell BK180.out 2).trans rfl
            have hcz74_3 : w52.cell? ⟨gb180,3,none⟩ = some (.int .i64 0):=(blk_cell BK180.out 3).trans rfl
            have hcz74_4 : w52.cell? ⟨gb180,4,none⟩ = some (.slice none 0 0):=(blk_cell BK180.out 4).trans rfl
            have hfz74_0:=blk_frozen BK180.out 0
            have hfz74_1:=blk_frozen BK180.out 1
            have hfz74_2:=blk_frozen BK180.out 2
            have hfz74_3:=blk_frozen BK180.out 3
            have hfz74_4:=blk_frozen BK180.out 4
            have hnb75:=NB118_155.out
            have hnc75:=NB155_118.out
            have hcz76_0 : w52.cell? ⟨gb118,0,none⟩ = some (.slice Ao24 t133.length co24):=(blk_cell BK118.out 0).trans rfl
            have hfz76_0:=blk_frozen BK118.out 0
            have p181 : 0 ≤ (0 : Int):=(by omega)
            have q181 : 0 < (t133.length : Int):=of_decide_eq_true (by first|(with_reducible assumption)|assumption)
            obtain ⟨ad181,A181_0,c181_0,e181,hx181_0,hl181_0,hi181_0⟩:=at_L5 (Kd.N_reads' HO135.out).2.2 0 p181 q181
            cases e181
            have qi181 : (0 < t133.length) = True:=eq_true (by omega)
            (try rw [show ((0 : Int)).toNat = 0 from rfl] at hx181_0)
            (try rw [Addr.add_zero'] at hx181_0)
            have hn181_0 : ad181.block ≠ gb180:=Kd.own_blk (Kd.N_ne HO135.out BK180.out (by decide))
            have hn181_1 : ad181.block ≠ gb180:=Kd.own_blk (Kd.N_ne HO135.out BK180.out (by decide))
            have hn181_2 : ad181.block ≠ gb180:=Kd.own_blk (Kd.N_ne HO135.out BK180.out (by decide))
            have hn181_3 : ad181.block ≠ gb180:=Kd.own_blk (Kd.N_ne HO135.out BK180.out (by decide))
            have hn181_4 : ad181.block ≠ gb180:=Kd.own_blk (Kd.N_ne HO135.out BK180.out (by decide))
            have HR181_0:=Aside0.mk hi181_0
            have HC181_0:=Aside0.mk hl181_0
            clear hi181_0 hl181_0
            replace hx181_0:=(cell_far (p:=⟨gb180,0,none⟩) (by first|(rw [add_block];exact hn181_0)|(show (Addr.add _ _).block ≠ _;rw [add_block];exact hn181_0)|exact hn181_0) (.int .i64 t172)).trans hx181_0
            replace hx181_0:=(cell_far (p:=⟨gb180,1,none⟩) (by first|(rw [add_block];exact hn181_1)|(show (Addr.add _ _).block ≠ _;rw [add_block];exact hn181_1)|exact hn181_1) (.int .i64 t173)).trans hx181_0
            replace hx181_0:=(cell_far (p:=⟨gb180,2,none⟩) (by first|(rw [add_block];exact hn181_2)|(show (Addr.add _ _).block ≠ _;rw [add_block];exact hn181_2)|exact hn181_2) (.string t174)).trans hx181_0
            replace hx181_0:=(cell_far (p:=⟨gb180,3,none⟩) (by first|(rw [add_block];exact hn181_3)|(show (Addr.add _ _).block ≠ _;rw [add_block];exact hn181_3)|exact hn181_3) (.int .i64 t175)).trans hx181_0
            replace hx181_0:=(cell_far (p:=⟨gb180,4,none⟩) (by first|(rw [add_block];exact hn181_4)|(show (Addr.add _ _).block ≠ _;rw [add_block];exact hn181_4)|exact hn181_4) (.slice Ao57 t176.length co57)).trans hx181_0
            clear hn181_0
            clear hn181_1
            clear hn181_2
            clear hn181_3
            clear hn181_4
            replace p181:=eq_true p181
            replace q181:=eq_true q181
            have hcz77_0 : w52.cell? ⟨gb155,0,none⟩ = some (.slice Ao35 t151.length co35):=(blk_cell BK155.out 0).trans rfl
            have hfz77_0:=blk_frozen BK155.out 0
            have p182 : 0 ≤ (0 : Int):=(by omega)
            have q182 : 0 < (t151.length : Int):=of_decide_eq_true (by first|(with_reducible assumption)|assumption)
            obtain ⟨ad182,A182_0,c182_0,e182,hx182_0,hl182_0,hi182_0⟩:=at_L5 (Kd.N_reads' HO153.out).2.2 0 p182 q182
            cases e182
            have qi182 : (0 < t151.length) = True:=eq_true (by omega)
            (try rw [show ((0 : Int)).toNat = 0 from rfl] at hx182_0)
            (try rw [Addr.add_zero'] at hx182_0)
            have hn182_0 : ad182.block ≠ gb180:=Kd.own_blk (Kd.N_ne HO153.out BK180.out (by decide))
            have hn182_1 : ad182.block ≠ gb180:=Kd.own_blk (Kd.N_ne HO153.out BK180.out (by decide))
            have hn182_2 : ad182.block ≠ gb180:=Kd.own_blk (Kd.N_ne HO153.out BK180.out (by decide))
            have hn182_3 : ad182.block ≠ gb180:=Kd.own_blk (Kd.N_ne HO153.out BK180.out (by decide))
            have hn182_4 : ad182.block ≠ gb180:=Kd.own_blk (Kd.N_ne HO153.out BK180.out (by decide))
            have HR182_0:=Aside0.mk hi182_0
            have HC182_0:=Aside0.mk hl182_0
            clear hi182_0 hl182_0
            replace hx182_0:=(cell_far (p:=⟨gb180,0,none⟩) (by first|(rw [add_block];exact hn182_0)|(show (Addr.add _ _).block ≠ _;rw [add_block];exact hn182_0)|exact hn182_0) (.int .i64 t172)).trans hx182_0
            replace hx182_0:=(cell_far (p:=⟨gb180,1,none⟩) (by first|(rw [add_block];exact hn182_1)|(show (Addr.add _ _).block ≠ _;rw [add_block];exact hn182_1)|exact hn182_1) (.int .i64 t173)).trans hx182_0
            replace hx182_0:=(cell_far (p:=⟨gb180,2,none⟩) (by first|(rw [add_block];exact hn182_2)|(show (Addr.add _ _).block ≠ _;rw [add_block];exact hn182_2)|exact hn182_2) (.string t174)).trans hx182_0
            replace hx182_0:=(cell_far (p:=⟨gb180,3,none⟩) (by first|(rw [add_block];exact hn182_3)|(show (Addr.add _ _).block ≠ _;rw [add_block];exact hn182_3)|exact hn182_3) (.int .i64 t175)).trans hx182_0
            replace hx182_0:=(cell_far (p:=⟨gb180,4,none⟩) (by first|(rw [add_block];exact hn182_4)|(show (Addr.add _ _).block ≠ _;rw [add_block];exact hn182_4)|exact hn182_4) (.slice Ao57 t176.length co57)).trans hx182_0
            clear hn182_0
            clear hn182_1
            clear hn182_2
            clear hn182_3
            clear hn182_4
            replace p182:=eq_true p182
            replace q182:=eq_true q182
            go_wp2
            go_meet
            case rel => exact ⟨_,((((rd_L5 t151 0).length : Int) == 2)),(by first|rfl|(simp;done)|(simp [*];done)),H',⟨by first|omega|exact Nat.le_refl _⟩,⟨by (with_reducible repeat first|apply nA|apply nN|apply nD);exact Kd.N_mono (Kd.N_far (p:=⟨gb180,4,none⟩) (Kd.N_far (p:=⟨gb180,3,none⟩) (Kd.N_far (p:=⟨gb180,2,none⟩) (Kd.N_far (p:=⟨gb180,1,none⟩) (Kd.N_far (p:=⟨gb180,0,none⟩) (Kd.N_mono HO135.out (fun k_ hk => (⟨hk,hk.2.2.2.2.2.2.2⟩ : _ ∧ k_ ≠ gb180))) (fun _ hk => hk.2) (.int .i64 t172)) (fun _ hk => hk.2) (.int .i64 t173)) (fun _ hk => hk.2) (.string t174)) (fun _ hk => hk.2) (.int .i64 t175)) (fun _ hk => hk.2) (.slice Ao57 t176.length co57)) (fun _ hk => ⟨hk.1.2.2.1,⟨hk.1.2.2.2.2.1,⟨hk.1.2.2.2.2.2.1,⟨hk.1.2.2.2.2.2.2.1,hk.1.2.2.2.2.2.2.2⟩⟩⟩⟩)⟩,⟨by (with_reducible repeat first|apply nA|apply nN|apply nD);exact Kd.N_mono (Kd.N_far (p:=⟨gb180,4,none⟩) (Kd.N_far (p:=⟨gb180,3,none⟩) (Kd.N_far (p:=⟨gb180,2,none⟩) (Kd.N_far (p:=⟨gb180,1,none⟩) (Kd.N_far (p:=⟨gb180,0,none⟩) (Kd.N_mono HO153.out (fun k_ hk => (⟨hk,hk.2.2.2.2⟩ : _ ∧ k_ ≠ gb180))) (fun _ hk => hk.2) (.int .i64 t172)) (fun _ hk => hk.2) (.int .i64 t173)) (fun _ hk => hk.2) (.string t174)) (fun _ hk => hk.2) (.int .i64 t175)) (fun _ hk => hk.2) (.slice Ao57 t176.length co57)) (fun _ hk => ⟨hk.1.2.1,⟨hk.1.2.2.1,⟨hk.1.2.2.2.1,hk.1.2.2.2.2⟩⟩⟩)⟩,⟨by (with_reducible repeat (first|apply Kd.V_alloc|apply Kd.V_drewN|apply Kd.V_drew));exact Kd.V_mono (Kd.V_far (p:=⟨gb180,4,none⟩) (Kd.V_far (p:=⟨gb180,3,none⟩) (Kd.V_far (p:=⟨gb180,2,none⟩) (Kd.V_far (p:=⟨gb180,1,none⟩) (Kd.V_far (p:=⟨gb180,0,none⟩) (Kd.V_mono HO162.out (fun k_ hk => (⟨hk,hk.2.2.2.2⟩ : _ ∧ k_ ≠ gb180))) (fun _ hk => hk.2) (.int .i64 t172)) (fun _ hk => hk.2) (.int .i64 t173)) (fun _ hk => hk.2) (.string t174)) (fun _ hk => hk.2) (.int .i64 t175)) (fun _ hk => hk.2) (.slice Ao57 t176.length co57)) (fun _ hk => ⟨hk.1.2.1,⟨hk.1.2.2.1,⟨hk.1.2.2.2.1,hk.1.2.2.2.2⟩⟩⟩)⟩,⟨by (with_reducible repeat (first|apply Kd.V_alloc|apply Kd.V_drewN|apply Kd.V_drew));exact Kd.V_mono (Kd.V_far (p:=⟨gb180,4,none⟩) (Kd.V_far (p:=⟨gb180,3,none⟩) (Kd.V_far (p:=⟨gb180,2,none⟩) (Kd.V_far (p:=⟨gb180,1,none⟩) (Kd.V_far (p:=⟨gb180,0,none⟩) (Kd.V_mono HO178.out (fun k_ hk => (⟨hk,hk.2.2.2.2⟩ : _ ∧ k_ ≠ gb180))) (fun _ hk => hk.2) (.int .i64 t172)) (fun _ hk => hk.2) (.int .i64 t173)) (fun _ hk => hk.2) (.string t174)) (fun _ hk => hk.2) (.int .i64 t175)) (fun _ hk => hk.2) (.slice Ao57 t176.length co57)) (fun _ hk => ⟨hk.1.2.1,⟨hk.1.2.2.1,⟨hk.1.2.2.2.1,hk.1.2.2.2.2⟩⟩⟩)⟩,⟨by (with_reducible repeat first|refine bN ?_ _|refine bD ?_|refine bA ?_ _);refine blk_far ?_ NB118_180.out _;(with_reducible repeat first|refine bN ?_ _|refine bD ?_|refine bA ?_ _);refine blk_far ?_ NB118_180.out _;(with_reducible repeat first|refine bN ?_ _|refine bD ?_|refine bA ?_ _);refine blk_far ?_ NB118_180.out _;(with_reducible repeat first|refine bN ?_ _|refine bD ?_|refine bA ?_ _);refine blk_far ?_ NB118_180.out _;(with_reducible repeat first|refine bN ?_ _|refine bD ?_|refine bA ?_ _);refine blk_far ?_ NB118_180.out _;(with_reducible repeat first|refine bN ?_ _|refine bD ?_|refine bA ?_ _);exact BK118.out⟩,⟨by (with_reducible repeat first|refine bN ?_ _|refine bD ?_|refine bA ?_ _);refine blk_far ?_ NB155_180.out _;(with_reducible repeat first|refine bN ?_ _|refine bD ?_|refine bA ?_ _);refine blk_far ?_ NB155_180.out _;(with_reducible repeat first|refine bN ?_ _|refine bD ?_|refine bA ?_ _);refine blk_far ?_ NB155_180.out _;(with_reducible repeat first|refine bN ?_ _|refine bD ?_|refine bA ?_ _);refine blk_far ?_ NB155_180.out _;(with_reducible repeat first|refine bN ?_ _|refine bD ?_|refine bA ?_ _);refine blk_far ?_ NB155_180.out _;(with_reducible repeat first|refine bN ?_ _|refine bD ?_|refine bA ?_ _);exact BK155.out⟩,⟨by (with_reducible repeat first|refine bN ?_ _|refine bD ?_|refine bA ?_ _);refine blk_far ?_ NB164_180.out _;(with_reducible repeat first|refine bN ?_ _|refine bD ?_|refine bA ?_ _);refine blk_far ?_ NB164_180.out _;(with_reducible repeat first|refine bN ?_ _|refine bD ?_|refine bA ?_ _);refine blk_far ?_ NB164_180.out _;(with_reducible repeat first|refine bN ?_ _|refine bD ?_|refine bA ?_ _);refine blk_far ?_ NB164_180.out _;(with_reducible repeat first|refine bN ?_ _|refine bD ?_|refine bA ?_ _);refine blk_far ?_ NB164_180.out _;(with_reducible repeat first|refine bN ?_ _|refine bD ?_|refine bA ?_ _);exact BK164.out⟩,⟨by (with_reducible repeat first|refine bN ?_ _|refine bD ?_|refine bA ?_ _);refine blk_put (cs:=#[.int .i64 t172, .int .i64 t173, .string t174, .int .i64 t175, .slice none 0 0]) ?_ 4 _ rfl;(with_reducible repeat first|refine bN ?_ _|refine bD ?_|refine bA ?_ _);refine blk_put (cs:=#[.int .i64 t172, .int .i64 t173, .string t174, .int .i64 0, .slice none 0 0]) ?_ 3 _ rfl;(with_reducible repeat first|refine bN ?_ _|refine bD ?_|refine bA ?_ _);refine blk_put (cs:=#[.int .i64 t172, .int .i64 t173, .string (⟨#[]⟩ : ByteArray), .int .i64 0, .slice none 0 0]) ?_ 2 _ rfl;(with_reducible repeat first|refine bN ?_ _|refine bD ?_|refine bA ?_ _);refine blk_put (cs:=#[.int .i64 t172, .int .i64 0, .string (⟨#[]⟩ : ByteArray), .int .i64 0, .slice none 0 0]) ?_ 1 _ rfl;(with_reducible repeat first|refine bN ?_ _|refine bD ?_|refine bA ?_ _);refine blk_put (cs:=#[.int .i64 0, .int .i64 0, .string (⟨#[]⟩ : ByteArray), .int .i64 0, .slice none 0 0]) ?_ 0 _ rfl;(with_reducible repeat first|refine bN ?_ _|refine bD ?_|refine bA ?_ _);exact BK180.out⟩,⟨by repeat (first|(with_reducible first|exact HB.out|apply below_alloc|apply pw_below_drewN|apply below_drew1|refine below_set ?_ GE118.out|refine below_set ?_ GE155.out|refine below_set ?_ GE164.out|refine below_set ?_ GE180.out)|exact HB.out)⟩⟩
           ·rw [if_neg c67] at H
            exact absurd H (by simp)
          ·rw [if_neg c66] at H
           have c66b0 : (((rd_L5 t133 0).length : Int) == 1) = false:=beq_eq_false_iff_ne.mpr c66
           have c66b1 : (((rd_L5 t133 0).length : Int) != 1) = true:=bne_iff_ne.mpr c66
           have H':=Aside0.mk H
           clear H
           have hnb78:=NB164_118.out
           have hnc78:=NB118_164.out
           have hnb79:=NB164_155.out
           have hnc79:=NB155_164.out
           have hnb80:=NB164_180.out
           have hnc80:=NB180_164.out
           have hcz81_0 : w52.cell? ⟨gb164,0,none⟩ = some (.int .i64 t156):=(blk_cell BK164.out 0).trans rfl
           have hcz81_1 : w52.cell? ⟨gb164,1,none⟩ = some (.int .i64 t157):=(blk_cell BK164.out 1).trans rfl
           have hcz81_2 : w52.cell? ⟨gb164,2,none⟩ = some (.string t158):=(blk_cell BK164.out 2).trans rfl
           have hcz81_3 : w52.cell? ⟨gb164,3,none⟩ = some (.int .i64 t159):=(blk_cell BK164.out 3).trans rfl
           have hcz81_4 : w52.cell? ⟨gb164,4,none⟩ = some (.slice Ao45 t160.length co45):=(blk_cell BK164.out 4).trans rfl
           have hfz81_0:=blk_frozen BK164.out 0
           have hfz81_1:=blk_frozen BK164.out 1
           have hfz81_2:=blk_frozen BK164.out 2
           have hfz81_3:=blk_frozen BK164.out 3
           have hfz81_4:=blk_frozen BK164.out 4
           have hnb82:=NB180_118.out
           have hnc82:=NB118_180.out
           have hnb83:=NB180_155.out
           have hnc83:=NB155_180.out
           have hcz84_0 : w52.cell? ⟨gb180,0,none⟩ = some (.int .i64 0):=(blk_cell BK180.out 0).trans rfl
           have hcz84_1 : w52.cell? ⟨gb180,1,none⟩ = some (.int .i64 0):=(blk_cell BK180.out 1).trans rfl
           have hcz84_2 : w52.cell? ⟨gb180,2,none⟩ = some (.string (⟨#[]⟩ : ByteArray)):=(blk_cell BK180.out 2).trans rfl
           have hcz84_3 : w52.cell? ⟨gb180,3,none⟩ = some (.int .i64 0):=(blk_cell BK180.out 3).trans rfl
           have hcz84_4 : w52.cell? ⟨gb180,4,none⟩ = some (.slice none 0 0):=(blk_cell BK180.out 4).trans rfl
           have hfz84_0:=blk_frozen BK180.out 0
           have hfz84_1:=blk_frozen BK180.out 1
           have hfz84_2:=blk_frozen BK180.out 2
           have hfz84_3:=blk_frozen BK180.out 3
           have hfz84_4:=blk_frozen BK180.out 4
           have hnb85:=NB118_155.out
           have hnc85:=NB155_118.out
           have hcz86_0 : w52.cell? ⟨gb118,0,none⟩ = some (.slice Ao24 t133.length co24):=(blk_cell BK118.out 0).trans rfl
           have hfz86_0:=blk_frozen BK118.out 0
           have p181 : 0 ≤ (0 : Int):=(by omega)
           have q181 : 0 < (t133.length : Int):=of_decide_eq_true (by first|(with_reducible assumption)|assumption)
           obtain ⟨ad181,A181_0,c181_0,e181,hx181_0,hl181_0,hi181_0⟩:=at_L5 (Kd.N_reads' HO135.out).2.2 0 p181 q181
           cases e181
           have qi181 : (0 < t133.length) = True:=eq_true (by omega)
           (try rw [show ((0 : Int)).toNat = 0 from rfl] at hx181_0)
           (try rw [Addr.add_zero'] at hx181_0)
           have hn181_0 : ad181.block ≠ gb180:=Kd.own_blk (Kd.N_ne HO135.out BK180.out (by decide))
           have hn181_1 : ad181.block ≠ gb180:=Kd.own_blk (Kd.N_ne HO135.out BK180.out (by decide))
           have hn181_2 : ad181.block ≠ gb180:=Kd.own_blk (Kd.N_ne HO135.out BK180.out (by decide))
           have hn181_3 : ad181.block ≠ gb180:=Kd.own_blk (Kd.N_ne HO135.out BK180.out (by decide))
           have hn181_4 : ad181.block ≠ gb180:=Kd.own_blk (Kd.N_ne HO135.out BK180.out (by decide))
           have HR181_0:=Aside0.mk hi181_0
           have HC181_0:=Aside0.mk hl181_0
           clear hi181_0 hl181_0
           replace hx181_0:=(cell_far (p:=⟨gb180,0,none⟩) (by first|(rw [add_block];exact hn181_0)|(show (Addr.add _ _).block ≠ _;rw [add_block];exact hn181_0)|exact hn181_0) (.int .i64 t172)).trans hx181_0
           replace hx181_0:=(cell_far (p:=⟨gb180,1,none⟩) (by first|(rw [add_block];exact hn181_1)|(show (Addr.add _ _).block ≠ _;rw [add_block];exact hn181_1)|exact hn181_1) (.int .i64 t173)).trans hx181_0
           replace hx181_0:=(cell_far (p:=⟨gb180,2,none⟩) (by first|(rw [add_block];exact hn181_2)|(show (Addr.add _ _).block ≠ _;rw [add_block];exact hn181_2)|exact hn181_2) (.string t174)).trans hx181_0
           replace hx181_0:=(cell_far (p:=⟨gb180,3,none⟩) (by first|(rw [add_block];exact hn181_3)|(show (Addr.add _ _).block ≠ _;rw [add_block];exact hn181_3)|exact hn181_3) (.int .i64 t175)).trans hx181_0
           replace hx181_0:=(cell_far (p:=⟨gb180,4,none⟩) (by first|(rw [add_block];exact hn181_4)|(show (Addr.add _ _).block ≠ _;rw [add_block];exact hn181_4)|exact hn181_4) (.slice Ao57 t176.length co57)).trans hx181_0
           clear hn181_0
           clear hn181_1
           clear hn181_2
           clear hn181_3
           clear hn181_4
           replace p181:=eq_true p181
           replace q181:=eq_true q181
           go_wp2
           go_meet
           case rel => exact ⟨_,(false),(by first|rfl|(simp;done)|(simp [*];done)),H',⟨by first|omega|exact Nat.le_refl _⟩,⟨by (with_reducible repeat first|apply nA|apply nN|apply nD);exact Kd.N_mono (Kd.N_far (p:=⟨gb180,4,none⟩) (Kd.N_far (p:=⟨gb180,3,none⟩) (Kd.N_far (p:=⟨gb180,2,none⟩) (Kd.N_far (p:=⟨gb180,1,none⟩) (Kd.N_far (p:=⟨gb180,0,none⟩) (Kd.N_mono HO135.out (fun k_ hk => (⟨hk,hk.2.2.2.2.2.2.2⟩ : _ ∧ k_ ≠ gb180))) (fun _ hk => hk.2) (.int .i64 t172)) (fun _ hk => hk.2) (.int .i64 t173)) (fun _ hk => hk.2) (.string t174)) (fun _ hk => hk.2) (.int .i64 t175)) (fun _ hk => hk.2) (.slice Ao57 t176.length co57)) (fun _ hk => ⟨hk.1.2.2.1,⟨hk.1.2.2.2.2.1,⟨hk.1.2.2.2.2.2.1,⟨hk.1.2.2.2.2.2.2.1,hk.1.2.2.2.2.2.2.2⟩⟩⟩⟩)⟩,⟨by (with_reducible repeat first|apply nA|apply nN|apply nD);exact Kd.N_mono (Kd.N_far (p:=⟨gb180,4,none⟩) (Kd.N_far (p:=⟨gb180,3,none⟩) (Kd.N_far (p:=⟨gb180,2,none⟩) (Kd.N_far (p:=⟨gb180,1,none⟩) (Kd.N_far (p:=⟨gb180,0,none⟩) (Kd.N_mono HO153.out (fun k_ hk => (⟨hk,hk.2.2.2.2⟩ : _ ∧ k_ ≠ gb180))) (fun _ hk => hk.2) (.int .i64 t172)) (fun _ hk => hk.2) (.int .i64 t173)) (fun _ hk => hk.2) (.string t174)) (fun _ hk => hk.2) (.int .i64 t175)) (fun _ hk => hk.2) (.slice Ao57 t176.length co57)) (fun _ hk => ⟨hk.1.2.1,⟨hk.1.2.2.1,⟨hk.1.2.2.2.1,hk.1.2.2.2.2⟩⟩⟩)⟩,⟨by (with_reducible repeat (first|apply Kd.V_alloc|apply Kd.V_drewN|apply Kd.V_drew));exact Kd.V_mono (Kd.V_far (p:=⟨gb180,4,none⟩) (Kd.V_far (p:=⟨gb180,3,none⟩) (Kd.V_far (p:=⟨gb180,2,none⟩) (Kd.V_far (p:=⟨gb180,1,none⟩) (Kd.V_far (p:=⟨gb180,0,none⟩) (Kd.V_mono HO162.out (fun k_ hk => (⟨hk,hk.2.2.2.2⟩ : _ ∧ k_ ≠ gb180))) (fun _ hk => hk.2) (.int .i64 t172)) (fun _ hk => hk.2) (.int .i64 t173)) (fun _ hk => hk.2) (.string t174)) (fun _ hk => hk.2) (.int .i64 t175)) (fun _ hk => hk.2) (.slice Ao57 t176.length co57)) (fun _ hk => ⟨hk.1.2.1,⟨hk.1.2.2.1,⟨hk.1.2.2.2.1,hk.1.2.2.2.2⟩⟩⟩)⟩,⟨by (with_reducible repeat (first|apply Kd.V_alloc|apply Kd.V_drewN|apply Kd.V_drew));exact Kd.V_mono (Kd.V_far (p:=⟨gb180,4,none⟩) (Kd.V_far (p:=⟨gb180,3,none⟩) (Kd.V_far (p:=⟨gb180,2,none⟩) (Kd.V_far (p:=⟨gb180,1,none⟩) (Kd.V_far (p:=⟨gb180,0,none⟩) (Kd.V_mono HO178.out (fun k_ hk => (⟨hk,hk.2.2.2.2⟩ : _ ∧ k_ ≠ gb180))) (fun _ hk => hk.2) (.int .i64 t172)) (fun _ hk => hk.2) (.int .i64 t173)) (fun _ hk => hk.2) (.string t174)) (fun _ hk => hk.2) (.int .i64 t175)) (fun _ hk => hk.2) (.slice Ao57 t176.length co57)) (fun _ hk => ⟨hk.1.2.1,⟨hk.1.2.2.1,⟨hk.1.2.2.2.1,hk.1.2.2.2.2⟩⟩⟩)⟩,⟨by (with_reducible repeat first|refine bN ?_ _|refine bD ?_|refine bA ?_ _);refine blk_far ?_ NB118_180.out _;(with_reducible repeat first|refine bN ?_ _|refine bD ?_|refine bA ?_ _);refine blk_far ?_ NB118_180.out _;(with_reducible repeat first|refine bN ?_ _|refine bD ?_|refine bA ?_ _);refine blk_far ?_ NB118_180.out _;(with_reducible repeat first|refine bN ?_ _|refine bD ?_|refine bA ?_ _);refine blk_far ?_ NB118_180.out _;(with_reducible repeat first|refine bN ?_ _|refine bD ?_|refine bA ?_ _);refine blk_far ?_ NB118_180.out _;(with_reducible repeat first|refine bN ?_ _|refine bD ?_|refine bA ?_ _);exact BK118.out⟩,⟨by (with_reducible repeat first|refine bN ?_ _|refine bD ?_|refine bA ?_ _);refine blk_far ?_ NB155_180.out _;(with_reducible repeat first|refine bN ?_ _|refine bD ?_|refine bA ?_ _);refine blk_far ?_ NB155_180.out _;(with_reducible repeat first|refine bN ?_ _|refine bD ?_|refine bA ?_ _);refine blk_far ?_ NB155_180.out _;(with_reducible repeat first|refine bN ?_ _|refine bD ?_|refine bA ?_ _);refine blk_far ?_ NB155_180.out _;(with_reducible repeat first|refine bN ?_ _|refine bD ?_|refine bA ?_ _);refine blk_far ?_ NB155_180.out _;(with_reducible repeat first|refine bN ?_ _|refine bD ?_|refine bA ?_ _);exact BK155.out⟩,⟨by (with_reducible repeat first|refine bN ?_ _|refine bD ?_|refine bA ?_ _);refine blk_far ?_ NB164_180.out _;(with_reducible repeat first|refine bN ?_ _|refine bD ?_|refine bA ?_ _);refine blk_far ?_ NB164_180.out _;(with_reducible repeat first|refine bN ?_ _|refine bD ?_|refine bA ?_ _);refine blk_far ?_ NB164_180.out _;(with_reducible repeat first|refine bN ?_ _|refine bD ?_|refine bA ?_ _);refine blk_far ?_ NB164_180.out _;(with_reducible repeat first|refine bN ?_ _|refine bD ?_|refine bA ?_ _);refine blk_far ?_ NB164_180.out _;(with_reducible repeat first|refine bN ?_ _|refine bD ?_|refine bA ?_ _);exact BK164.out⟩,⟨by (with_reducible repeat first|refine bN ?_ _|refine bD ?_|refine bA ?_ _);refine blk_put (cs:=#[.int .i64 t172, .int .i64 t173, .string t174, .int .i64 t175, .slice none 0 0]) ?_ 4 _ rfl;(with_reducible repeat first|refine bN ?_ _|refine bD ?_|refine bA ?_ _);refine blk_put (cs:=#[.int .i64 t172, .int .i64 t173, .string t174, .int .i64 0, .slice none 0 0]) ?_ 3 _ rfl;(with_reducible repeat first|refine bN ?_ _|refine bD ?_|refine bA ?_ _);refine blk_put (cs:=#[.int .i64 t172, .int .i64 t173, .string (⟨#[]⟩ : ByteArray), .int .i64 0, .slice none 0 0]) ?_ 2 _ rfl;(with_reducible repeat first|refine bN ?_ _|refine bD ?_|refine bA ?_ _);refine blk_put (cs:=#[.int .i64 t172, .int .i64 0, .string (⟨#[]⟩ : ByteArray), .int .i64 0, .slice none 0 0]) ?_ 1 _ rfl;(with_reducible repeat first|refine bN ?_ _|refine bD ?_|refine bA ?_ _);refine blk_put (cs:=#[.int .i64 0, .int .i64 0, .string (⟨#[]⟩ : ByteArray), .int .i64 0, .slice none 0 0]) ?_ 0 _ rfl;(with_reducible repeat first|refine bN ?_ _|refine bD ?_|refine bA ?_ _);exact BK180.out⟩,⟨by repeat (first|(with_reducible first|exact HB.out|apply below_alloc|apply pw_below_drewN|apply below_drew1|refine below_set ?_ GE118.out|refine below_set ?_ GE155.out|refine below_set ?_ GE164.out|refine below_set ?_ GE180.out)|exact HB.out)⟩⟩
         ·rw [if_neg c65] at H
          exact absurd H (by simp)
        ·rw [if_neg c64] at H
         have c64b0 : (t173 == 2) = false:=beq_eq_false_iff_ne.mpr c64
         have c64b1 : (t173 != 2) = true:=bne_iff_ne.mpr c64
         have H':=Aside0.mk H
         clear H
         have hnb87:=NB164_118.out
         have hnc87:=NB118_164.out
         have hnb88:=NB164_155.out
         have hnc88:=NB155_164.out
         have hnb89:=NB164_180.out
         have hnc89:=NB180_164.out
         have hcz90_0 : w52.cell? ⟨gb164,0,none⟩ = some (.int .i64 t156):=(blk_cell BK164.out 0).trans rfl
         have hcz90_1 : w52.cell? ⟨gb164,1,none⟩ = some (.int .i64 t157):=(blk_cell BK164.out 1).trans rfl
         have hcz90_2 : w52.cell? ⟨gb164,2,none⟩ = some (.string t158):=(blk_cell BK164.out 2).trans rfl
         have hcz90_3 : w52.cell? ⟨gb164,3,none⟩ = some (.int .i64 t159):=(blk_cell BK164.out 3).trans rfl
         have hcz90_4 : w52.cell? ⟨gb164,4,none⟩ = some (.slice Ao45 t160.length co45):=(blk_cell BK164.out 4).trans rfl
         have hfz90_0:=blk_frozen BK164.out 0
         have hfz90_1:=blk_frozen BK164.out 1
         have hfz90_2:=blk_frozen BK164.out 2
         have hfz90_3:=blk_frozen BK164.out 3
         have hfz90_4:=blk_frozen BK164.out 4
         have hnb91:=NB180_118.out
         have hnc91:=NB118_180.out
         have hnb92:=NB180_155.out
         have hnc92:=NB155_180.out
         have hcz93_0 : w52.cell? ⟨gb180,0,none⟩ = some (.int .i64 0):=(blk_cell BK180.out 0).trans rfl
         have hcz93_1 : w52.cell? ⟨gb180,1,none⟩ = some (.int .i64 0):=(blk_cell BK180.out 1).trans rfl
         have hcz93_2 : w52.cell? ⟨gb180,2,none⟩ = some (.string (⟨#[]⟩ : ByteArray)):=(blk_cell BK180.out 2).trans rfl
         have hcz93_3 : w52.cell? ⟨gb180,3,none⟩ = some (.int .i64 0):=(blk_cell BK180.out 3).trans rfl
         have hcz93_4 : w52.cell? ⟨gb180,4,none⟩ = some (.slice none 0 0):=(blk_cell BK180.out 4).trans rfl
         have hfz93_0:=blk_frozen BK180.out 0
         have hfz93_1:=blk_frozen BK180.out 1
         have hfz93_2:=blk_frozen BK180.out 2
         have hfz93_3:=blk_frozen BK180.out 3
         have hfz93_4:=blk_frozen BK180.out 4
         go_wp2
         go_meet
         case rel => exact ⟨_,(false),(by first|rfl|(simp;done)|(simp [*];done)),H',⟨by first|omega|exact Nat.le_refl _⟩,⟨by (with_reducible repeat first|apply nA|apply nN|apply nD);exact Kd.N_mono (Kd.N_far (p:=⟨gb180,4,none⟩) (Kd.N_far (p:=⟨gb180,3,none⟩) (Kd.N_far (p:=⟨gb180,2,none⟩) (Kd.N_far (p:=⟨gb180,1,none⟩) (Kd.N_far (p:=⟨gb180,0,none⟩) (Kd.N_mono HO135.out (fun k_ hk => (⟨hk,hk.2.2.2.2.2.2.2⟩ : _ ∧ k_ ≠ gb180))) (fun _ hk => hk.2) (.int .i64 t172)) (fun _ hk => hk.2) (.int .i64 t173)) (fun _ hk => hk.2) (.string t174)) (fun _ hk => hk.2) (.int .i64 t175)) (fun _ hk => hk.2) (.slice Ao57 t176.length co57)) (fun _ hk => ⟨hk.1.2.2.1,⟨hk.1.2.2.2.2.1,⟨hk.1.2.2.2.2.2.1,⟨hk.1.2.2.2.2.2.2.1,hk.1.2.2.2.2.2.2.2⟩⟩⟩⟩)⟩,⟨by (with_reducible repeat first|apply nA|apply nN|apply nD);exact Kd.N_mono (Kd.N_far (p:=⟨gb180,4,none⟩) (Kd.N_far (p:=⟨gb180,3,none⟩) (Kd.N_far (p:=⟨gb180,2,none⟩) (Kd.N_far (p:=⟨gb180,1,none⟩) (Kd.N_far (p:=⟨gb180,0,none⟩) (Kd.N_mono HO153.out (fun k_ hk => (⟨hk,hk.2.2.2.2⟩ : _ ∧ k_ ≠ gb180))) (fun _ hk => hk.2) (.int .i64 t172)) (fun _ hk => hk.2) (.int .i64 t173)) (fun _ hk => hk.2) (.string t174)) (fun _ hk => hk.2) (.int .i64 t175)) (fun _ hk => hk.2) (.slice Ao57 t176.length co57)) (fun _ hk => ⟨hk.1.2.1,⟨hk.1.2.2.1,⟨hk.1.2.2.2.1,hk.1.2.2.2.2⟩⟩⟩)⟩,⟨by (with_reducible repeat (first|apply Kd.V_alloc|apply Kd.V_drewN|apply Kd.V_drew));exact Kd.V_mono (Kd.V_far (p:=⟨gb180,4,none⟩) (Kd.V_far (p:=⟨gb180,3,none⟩) (Kd.V_far (p:=⟨gb180,2,none⟩) (Kd.V_far (p:=⟨gb180,1,none⟩) (Kd.V_far (p:=⟨gb180,0,none⟩) (Kd.V_mono HO162.out (fun k_ hk => (⟨hk,hk.2.2.2.2⟩ : _ ∧ k_ ≠ gb180))) (fun _ hk => hk.2) (.int .i64 t172)) (fun _ hk => hk.2) (.int .i64 t173)) (fun _ hk => hk.2) (.string t174)) (fun _ hk => hk.2) (.int .i64 t175)) (fun _ hk => hk.2) (.slice Ao57 t176.length co57)) (fun _ hk => ⟨hk.1.2.1,⟨hk.1.2.2.1,⟨hk.1.2.2.2.1,hk.1.2.2.2.2⟩⟩⟩)⟩,⟨by (with_reducible repeat (first|apply Kd.V_alloc|apply Kd.V_drewN|apply Kd.V_drew));exact Kd.V_mono (Kd.V_far (p:=⟨gb180,4,none⟩) (Kd.V_far (p:=⟨gb180,3,none⟩) (Kd.V_far (p:=⟨gb180,2,none⟩) (Kd.V_far (p:=⟨gb180,1,none⟩) (Kd.V_far (p:=⟨gb180,0,none⟩) (Kd.V_mono HO178.out (fun k_ hk => (⟨hk,hk.2.2.2.2⟩ : _ ∧ k_ ≠ gb180))) (fun _ hk => hk.2) (.int .i64 t172)) (fun _ hk => hk.2) (.int .i64 t173)) (fun _ hk => hk.2) (.string t174)) (fun _ hk => hk.2) (.int .i64 t175)) (fun _ hk => hk.2) (.slice Ao57 t176.length co57)) (fun _ hk => ⟨hk.1.2.1,⟨hk.1.2.2.1,⟨hk.1.2.2.2.1,hk.1.2.2.2.2⟩⟩⟩)⟩,⟨by (with_reducible repeat first|refine bN ?_ _|refine bD ?_|refine bA ?_ _);refine blk_far ?_ NB118_180.out _;(with_reducible repeat first|refine bN ?_ _|refine bD ?_|refine bA ?_ _);refine blk_far ?_ NB118_180.out _;(with_reducible repeat first|refine bN ?_ _|refine bD ?_|refine bA ?_ _);refine blk_far ?_ NB118_180.out _;(with_reducible repeat first|refine bN ?_ _|refine bD ?_|refine bA ?_ _);refine blk_far ?_ NB118_180.out _;(with_reducible repeat first|refine bN ?_ _|refine bD ?_|refine bA ?_ _);refine blk_far ?_ NB118_180.out _;(with_reducible repeat first|refine bN ?_ _|refine bD ?_|refine bA ?_ _);exact BK118.out⟩,⟨by (with_reducible repeat first|refine bN ?_ _|refine bD ?_|refine bA ?_ _);refine blk_far ?_ NB155_180.out _;(with_reducible repeat first|refine bN ?_ _|refine bD ?_|refine bA ?_ _);refine blk_far ?_ NB155_180.out _;(with_reducible repeat first|refine bN ?_ _|refine bD ?_|refine bA ?_ _);refine blk_far ?_ NB155_180.out _;(with_reducible repeat first|refine bN ?_ _|refine bD ?_|refine bA ?_ _);refine blk_far ?_ NB155_180.out _;(with_reducible repeat first|refine bN ?_ _|refine bD ?_|refine bA ?_ _);refine blk_far ?_ NB155_180.out _;(with_reducible repeat first|refine bN ?_ _|refine bD ?_|refine bA ?_ _);exact BK155.out⟩,⟨by (with_reducible repeat first|refine bN ?_ _|refine bD ?_|refine bA ?_ _);refine blk_far ?_ NB164_180.out _;(with_reducible repeat first|refine bN ?_ _|refine bD ?_|refine bA ?_ _);refine blk_far ?_ NB164_180.out _;(with_reducible repeat first|refine bN ?_ _|refine bD ?_|refine bA ?_ _);refine blk_far ?_ NB164_180.out _;(with_reducible repeat first|refine bN ?_ _|refine bD ?_|refine bA ?_ _);refine blk_far ?_ NB164_180.out _;(with_reducible repeat first|refine bN ?_ _|refine bD ?_|refine bA ?_ _);refine blk_far ?_ NB164_180.out _;(with_reducible repeat first|refine bN ?_ _|refine bD ?_|refine bA ?_ _);exact BK164.out⟩,⟨by (with_reducible repeat first|refine bN ?_ _|refine bD ?_|refine bA ?_ _);refine blk_put (cs:=#[.int .i64 t172, .int .i64 t173, .string t174, .int .i64 t175, .slice none 0 0]) ?_ 4 _ rfl;(with_reducible repeat first|refine bN ?_ _|refine bD ?_|refine bA ?_ _);refine blk_put (cs:=#[.int .i64 t172, .int .i64 t173, .string t174, .int .i64 0, .slice none 0 0]) ?_ 3 _ rfl;(with_reducible repeat first|refine bN ?_ _|refine bD ?_|refine bA ?_ _);refine blk_put (cs:=#[.int .i64 t172, .int .i64 t173, .string (⟨#[]⟩ : ByteArray), .int .i64 0, .slice none 0 0]) ?_ 2 _ rfl;(with_reducible repeat first|refine bN ?_ _|refine bD ?_|refine bA ?_ _);refine blk_put (cs:=#[.int .i64 t172, .int .i64 0, .string (⟨#[]⟩ : ByteArray), .int .i64 0, .slice none 0 0]) ?_ 1 _ rfl;(with_reducible repeat first|refine bN ?_ _|refine bD ?_|refine bA ?_ _);refine blk_put (cs:=#[.int .i64 0, .int .i64 0, .string (⟨#[]⟩ : ByteArray), .int .i64 0, .slice none 0 0]) ?_ 0 _ rfl;(with_reducible repeat first|refine bN ?_ _|refine bD ?_|refine bA ?_ _);exact BK180.out⟩,⟨by repeat (first|(with_reducible first|exact HB.out|apply below_alloc|apply pw_below_drewN|apply below_drew1|refine below_set ?_ GE118.out|refine below_set ?_ GE155.out|refine below_set ?_ GE164.out|refine below_set ?_ GE180.out)|exact HB.out)⟩⟩
       ·rw [if_neg c63] at H
        have c63b0 : (t157 == 1) = false:=beq_eq_false_iff_ne.mpr c63
        have c63b1 : (t157 != 1) = true:=bne_iff_ne.mpr c63
        have H':=Aside0.mk H
        clear H
        have hnb94:=NB164_118.out
        have hnc94:=NB118_164.out
        have hnb95:=NB164_155.out
        have hnc95:=NB155_164.out
        have hnb96:=NB164_180.out
        have hnc96:=NB180_164.out
        have hcz97_0 : w52.cell? ⟨gb164,0,none⟩ = some (.int .i64 t156):=(blk_cell BK164.out 0).trans rfl
        have hcz97_1 : w52.cell? ⟨gb164,1,none⟩ = some (.int .i64 t157):=(blk_cell BK164.out 1).trans rfl
        have hcz97_2 : w52.cell? ⟨gb164,2,none⟩ = some (.string t158):=(blk_cell BK164.out 2).trans rfl
        have hcz97_3 : w52.cell? ⟨gb164,3,none⟩ = some (.int .i64 t159):=(blk_cell BK164.out 3).trans rfl
        have hcz97_4 : w52.cell? ⟨gb164,4,none⟩ = some (.slice Ao45 t160.length co45):=(blk_cell BK164.out 4).trans rfl
        have hfz97_0:=blk_frozen BK164.out 0
        have hfz97_1:=blk_frozen BK164.out 1
        have hfz97_2:=blk_frozen BK164.out 2
        have hfz97_3:=blk_frozen BK164.out 3
        have hfz97_4:=blk_frozen BK164.out 4
        go_wp2
        go_meet
        case rel => exact ⟨_,(false),(by first|rfl|(simp;done)|(simp [*];done)),H',⟨by first|omega|exact Nat.le_refl _⟩,⟨by (with_reducible repeat first|apply nA|apply nN|apply nD);exact Kd.N_mono (Kd.N_far (p:=⟨gb180,4,none⟩) (Kd.N_far (p:=⟨gb180,3,none⟩) (Kd.N_far (p:=⟨gb180,2,none⟩) (Kd.N_far (p:=⟨gb180,1,none⟩) (Kd.N_far (p:=⟨gb180,0,none⟩) (Kd.N_mono HO135.out (fun k_ hk => (⟨hk,hk.2.2.2.2.2.2.2⟩ : _ ∧ k_ ≠ gb180))) (fun _ hk => hk.2) (.int .i64 t172)) (fun _ hk => hk.2) (.int .i64 t173)) (fun _ hk => hk.2) (.string t174)) (fun _ hk => hk.2) (.int .i64 t175)) (fun _ hk => hk.2) (.slice Ao57 t176.length co57)) (fun _ hk => ⟨hk.1.2.2.1,⟨hk.1.2.2.2.2.1,⟨hk.1.2.2.2.2.2.1,⟨hk.1.2.2.2.2.2.2.1,hk.1.2.2.2.2.2.2.2⟩⟩⟩⟩)⟩,⟨by (with_reducible repeat first|apply nA|apply nN|apply nD);exact Kd.N_mono (Kd.N_far (p:=⟨gb180,4,none⟩) (Kd.N_far (p:=⟨gb180,3,none⟩) (Kd.N_far (p:=⟨gb180,2,none⟩) (Kd.N_far (p:=⟨gb180,1,none⟩) (Kd.N_far (p:=⟨gb180,0,none⟩) (Kd.N_mono HO153.out (fun k_ hk => (⟨hk,hk.2.2.2.2⟩ : _ ∧ k_ ≠ gb180))) (fun _ hk => hk.2) (.int .i64 t172)) (fun _ hk => hk.2) (.int .i64 t173)) (fun _ hk => hk.2) (.string t174)) (fun _ hk => hk.2) (.int .i64 t175)) (fun _ hk => hk.2) (.slice Ao57 t176.length co57)) (fun _ hk => ⟨hk.1.2.1,⟨hk.1.2.2.1,⟨hk.1.2.2.2.1,hk.1.2.2.2.2⟩⟩⟩)⟩,⟨by (with_reducible repeat (first|apply Kd.V_alloc|apply Kd.V_drewN|apply Kd.V_drew));exact Kd.V_mono (Kd.V_far (p:=⟨gb180,4,none⟩) (Kd.V_far (p:=⟨gb180,3,none⟩) (Kd.V_far (p:=⟨gb180,2,none⟩) (Kd.V_far (p:=⟨gb180,1,none⟩) (Kd.V_far (p:=⟨gb180,0,none⟩) (Kd.V_mono HO162.out (fun k_ hk => (⟨hk,hk.2.2.2.2⟩ : _ ∧ k_ ≠ gb180))) (fun _ hk => hk.2) (.int .i64 t172)) (fun _ hk => hk.2) (.int .i64 t173)) (fun _ hk => hk.2) (.string t174)) (fun _ hk => hk.2) (.int .i64 t175)) (fun _ hk => hk.2) (.slice Ao57 t176.length co57)) (fun _ hk => ⟨hk.1.2.1,⟨hk.1.2.2.1,⟨hk.1.2.2.2.1,hk.1.2.2.2.2⟩⟩⟩)⟩,⟨by (with_reducible repeat (first|apply Kd.V_alloc|apply Kd.V_drewN|apply Kd.V_drew));exact Kd.V_mono (Kd.V_far (p:=⟨gb180,4,none⟩) (Kd.V_far (p:=⟨gb180,3,none⟩) (Kd.V_far (p:=⟨gb180,2,none⟩) (Kd.V_far (p:=⟨gb180,1,none⟩) (Kd.V_far (p:=⟨gb180,0,none⟩) (Kd.V_mono HO178.out (fun k_ hk => (⟨hk,hk.2.2.2.2⟩ : _ ∧ k_ ≠ gb180))) (fun _ hk => hk.2) (.int .i64 t172)) (fun _ hk => hk.2) (.int .i64 t173)) (fun _ hk => hk.2) (.string t174)) (fun _ hk => hk.2) (.int .i64 t175)) (fun _ hk => hk.2) (.slice Ao57 t176.length co57)) (fun _ hk => ⟨hk.1.2.1,⟨hk.1.2.2.1,⟨hk.1.2.2.2.1,hk.1.2.2.2.2⟩⟩⟩)⟩,⟨by (with_reducible repeat first|refine bN ?_ _|refine bD ?_|refine bA ?_ _);refine blk_far ?_ NB118_180.out _;(with_reducible repeat first|refine bN ?_ _|refine bD ?_|refine bA ?_ _);refine blk_far ?_ NB118_180.out _;(with_reducible repeat first|refine bN ?_ _|refine bD ?_|refine bA ?_ _);refine blk_far ?_ NB118_180.out _;(with_reducible repeat first|refine bN ?_ _|refine bD ?_|refine bA ?_ _);refine blk_far ?_ NB118_180.out _;(with_reducible repeat first|refine bN ?_ _|refine bD ?_|refine bA ?_ _);refine blk_far ?_ NB118_180.out _;(with_reducible repeat first|refine bN ?_ _|refine bD ?_|refine bA ?_ _);exact BK118.out⟩,⟨by (with_reducible repeat first|refine bN ?_ _|refine bD ?_|refine bA ?_ _);refine blk_far ?_ NB155_180.out _;(with_reducible repeat first|refine bN ?_ _|refine bD ?_|refine bA ?_ _);refine blk_far ?_ NB155_180.out _;(with_reducible repeat first|refine bN ?_ _|refine bD ?_|refine bA ?_ _);refine blk_far ?_ NB155_180.out _;(with_reducible repeat first|refine bN ?_ _|refine bD ?_|refine bA ?_ _);refine blk_far ?_ NB155_180.out _;(with_reducible repeat first|refine bN ?_ _|refine bD ?_|refine bA ?_ _);refine blk_far ?_ NB155_180.out _;(with_reducible repeat first|refine bN ?_ _|refine bD ?_|refine bA ?_ _);exact BK155.out⟩,⟨by (with_reducible repeat first|refine bN ?_ _|refine bD ?_|refine bA ?_ _);refine blk_far ?_ NB164_180.out _;(with_reducible repeat first|refine bN ?_ _|refine bD ?_|refine bA ?_ _);refine blk_far ?_ NB164_180.out _;(with_reducible repeat first|refine bN ?_ _|refine bD ?_|refine bA ?_ _);refine blk_far ?_ NB164_180.out _;(with_reducible repeat first|refine bN ?_ _|refine bD ?_|refine bA ?_ _);refine blk_far ?_ NB164_180.out _;(with_reducible repeat first|refine bN ?_ _|refine bD ?_|refine bA ?_ _);refine blk_far ?_ NB164_180.out _;(with_reducible repeat first|refine bN ?_ _|refine bD ?_|refine bA ?_ _);exact BK164.out⟩,⟨by (with_reducible repeat first|refine bN ?_ _|refine bD ?_|refine bA ?_ _);refine blk_put (cs:=#[.int .i64 t172, .int .i64 t173, .string t174, .int .i64 t175, .slice none 0 0]) ?_ 4 _ rfl;(with_reducible repeat first|refine bN ?_ _|refine bD ?_|refine bA ?_ _);refine blk_put (cs:=#[.int .i64 t172, .int .i64 t173, .string t174, .int .i64 0, .slice none 0 0]) ?_ 3 _ rfl;(with_reducible repeat first|refine bN ?_ _|refine bD ?_|refine bA ?_ _);refine blk_put (cs:=#[.int .i64 t172, .int .i64 t173, .string (⟨#[]⟩ : ByteArray), .int .i64 0, .slice none 0 0]) ?_ 2 _ rfl;(with_reducible repeat first|refine bN ?_ _|refine bD ?_|refine bA ?_ _);refine blk_put (cs:=#[.int .i64 t172, .int .i64 0, .string (⟨#[]⟩ : ByteArray), .int .i64 0, .slice none 0 0]) ?_ 1 _ rfl;(with_reducible repeat first|refine bN ?_ _|refine bD ?_|refine bA ?_ _);refine blk_put (cs:=#[.int .i64 0, .int .i64 0, .string (⟨#[]⟩ : ByteArray), .int .i64 0, .slice none 0 0]) ?_ 0 _ rfl;(with_reducible repeat first|refine bN ?_ _|refine bD ?_|refine bA ?_ _);exact BK180.out⟩,⟨by repeat (first|(with_reducible first|exact HB.out|apply below_alloc|apply pw_below_drewN|apply below_drew1|refine below_set ?_ GE118.out|refine below_set ?_ GE155.out|refine below_set ?_ GE164.out|refine below_set ?_ GE180.out)|exact HB.out)⟩⟩
      ·replace c62:=Bool.eq_false_iff.mpr c62
       subst c62
       have H1 : (windlasslaw4_known.j0 k false) = some r:=by rw [if_neg (show ¬ (false = true) by decide)] at H;exact H
       clear H
       have H:=H1
       clear H1
       have H':=Aside0.mk H
       clear H
       go_wp2
       go_meet
       case rel => exact ⟨_,(false),(by first|rfl|(simp;done)|(simp [*];done)),H',⟨by first|omega|exact Nat.le_refl _⟩,⟨by (with_reducible repeat first|apply nA|apply nN|apply nD);exact Kd.N_mono (Kd.N_far (p:=⟨gb180,4,none⟩) (Kd.N_far (p:=⟨gb180,3,none⟩) (Kd.N_far (p:=⟨gb180,2,none⟩) (Kd.N_far (p:=⟨gb180,1,none⟩) (Kd.N_far (p:=⟨gb180,0,none⟩) (Kd.N_mono HO135.out (fun k_ hk => (⟨hk,hk.2.2.2.2.2.2.2⟩ : _ ∧ k_ ≠ gb180))) (fun _ hk => hk.2) (.int .i64 t172)) (fun _ hk => hk.2) (.int .i64 t173)) (fun _ hk => hk.2) (.string t174)) (fun _ hk => hk.2) (.int .i64 t175)) (fun _ hk => hk.2) (.slice Ao57 t176.length co57)) (fun _ hk => ⟨hk.1.2.2.1,⟨hk.1.2.2.2.2.1,⟨hk.1.2.2.2.2.2.1,⟨hk.1.2.2.2.2.2.2.1,hk.1.2.2.2.2.2.2.2⟩⟩⟩⟩)⟩,⟨by (with_reducible repeat first|apply nA|apply nN|apply nD);exact Kd.N_mono (Kd.N_far (p:=⟨gb180,4,none⟩) (Kd.N_far (p:=⟨gb180,3,none⟩) (Kd.N_far (p:=⟨gb180,2,none⟩) (Kd.N_far (p:=⟨gb180,1,none⟩) (Kd.N_far (p:=⟨gb180,0,none⟩) (Kd.N_mono HO153.out (fun k_ hk => (⟨hk,hk.2.2.2.2⟩ : _ ∧ k_ ≠ gb180))) (fun _ hk => hk.2) (.int .i64 t172)) (fun _ hk => hk.2) (.int .i64 t173)) (fun _ hk => hk.2) (.string t174)) (fun _ hk => hk.2) (.int .i64 t175)) (fun _ hk => hk.2) (.slice Ao57 t176.length co57)) (fun _ hk => ⟨hk.1.2.1,⟨hk.1.2.2.1,⟨hk.1.2.2.2.1,hk.1.2.2.2.2⟩⟩⟩)⟩,⟨by (with_reducible repeat (first|apply Kd.V_alloc|apply Kd.V_drewN|apply Kd.V_drew));exact Kd.V_mono (Kd.V_far (p:=⟨gb180,4,none⟩) (Kd.V_far (p:=⟨gb180,3,none⟩) (Kd.V_far (p:=⟨gb180,2,none⟩) (Kd.V_far (p:=⟨gb180,1,none⟩) (Kd.V_far (p:=⟨gb180,0,none⟩) (Kd.V_mono HO162.out (fun k_ hk => (⟨hk,hk.2.2.2.2⟩ : _ ∧ k_ ≠ gb180))) (fun _ hk => hk.2) (.int .i64 t172)) (fun _ hk => hk.2) (.int .i64 t173)) (fun _ hk => hk.2) (.string t174)) (fun _ hk => hk.2) (.int .i64 t175)) (fun _ hk => hk.2) (.slice Ao57 t176.length co57)) (fun _ hk => ⟨hk.1.2.1,⟨hk.1.2.2.1,⟨hk.1.2.2.2.1,hk.1.2.2.2.2⟩⟩⟩)⟩,⟨by (with_reducible repeat (first|apply Kd.V_alloc|apply Kd.V_drewN|apply Kd.V_drew));exact Kd.V_mono (Kd.V_far (p:=⟨gb180,4,none⟩) (Kd.V_far (p:=⟨gb180,3,none⟩) (Kd.V_far (p:=⟨gb180,2,none⟩) (Kd.V_far (p:=⟨gb180,1,none⟩) (Kd.V_far (p:=⟨gb180,0,none⟩) (Kd.V_mono HO178.out (fun k_ hk => (⟨hk,hk.2.2.2.2⟩ : _ ∧ k_ ≠ gb180))) (fun _ hk => hk.2) (.int .i64 t172)) (fun _ hk => hk.2) (.int .i64 t173)) (fun _ hk => hk.2) (.string t174)) (fun _ hk => hk.2) (.int .i64 t175)) (fun _ hk => hk.2) (.slice Ao57 t176.length co57)) (fun _ hk => ⟨hk.1.2.1,⟨hk.1.2.2.1,⟨hk.1.2.2.2.1,hk.1.2.2.2.2⟩⟩⟩)⟩,⟨by (with_reducible repeat first|refine bN ?_ _|refine bD ?_|refine bA ?_ _);refine blk_far ?_ NB118_180.out _;(with_reducible repeat first|refine bN ?_ _|refine bD ?_|refine bA ?_ _);refine blk_far ?_ NB118_180.out _;(with_reducible repeat first|refine bN ?_ _|refine bD ?_|refine bA ?_ _);refine blk_far ?_ NB118_180.out _;(with_reducible repeat first|refine bN ?_ _|refine bD ?_|refine bA ?_ _);refine blk_far ?_ NB118_180.out _;(with_reducible repeat first|refine bN ?_ _|refine bD ?_|refine bA ?_ _);refine blk_far ?_ NB118_180.out _;(with_reducible repeat first|refine bN ?_ _|refine bD ?_|refine bA ?_ _);exact BK118.out⟩,⟨by (with_reducible repeat first|refine bN ?_ _|refine bD ?_|refine bA ?_ _);refine blk_far ?_ NB155_180.out _;(with_reducible repeat first|refine bN ?_ _|refine bD ?_|refine bA ?_ _);refine blk_far ?_ NB155_180.out _;(with_reducible repeat first|refine bN ?_ _|refine bD ?_|refine bA ?_ _);refine blk_far ?_ NB155_180.out _;(with_reducible repeat first|refine bN ?_ _|refine bD ?_|refine bA ?_ _);refine blk_far ?_ NB155_180.out _;(with_reducible repeat first|refine bN ?_ _|refine bD ?_|refine bA ?_ _);refine blk_far ?_ NB155_180.out _;(with_reducible repeat first|refine bN ?_ _|refine bD ?_|refine bA ?_ _);exact BK155.out⟩,⟨by (with_reducible repeat first|refine bN ?_ _|refine bD ?_|refine bA ?_ _);refine blk_far ?_ NB164_180.out _;(with_reducible repeat first|refine bN ?_ _|refine bD ?_|refine bA ?_ _);refine blk_far ?_ NB164_180.out _;(with_reducible repeat first|refine bN ?_ _|refine bD ?_|refine bA ?_ _);refine blk_far ?_ NB164_180.out _;(with_reducible repeat first|refine bN ?_ _|refine bD ?_|refine bA ?_ _);refine blk_far ?_ NB164_180.out _;(with_reducible repeat first|refine bN ?_ _|refine bD ?_|refine bA ?_ _);refine blk_far ?_ NB164_180.out _;(with_reducible repeat first|refine bN ?_ _|refine bD ?_|refine bA ?_ _);exact BK164.out⟩,⟨by (with_reducible repeat first|refine bN ?_ _|refine bD ?_|refine bA ?_ _);refine blk_put (cs:=#[.int .i64 t172, .int .i64 t173, .string t174, .int .i64 t175, .slice none 0 0]) ?_ 4 _ rfl;(with_reducible repeat first|refine bN ?_ _|refine bD ?_|refine bA ?_ _);refine blk_put (cs:=#[.int .i64 t172, .int .i64 t173, .string t174, .int .i64 0, .slice none 0 0]) ?_ 3 _ rfl;(with_reducible repeat first|refine bN ?_ _|refine bD ?_|refine bA ?_ _);refine blk_put (cs:=#[.int .i64 t172, .int .i64 t173, .string (⟨#[]⟩ : ByteArray), .int .i64 0, .slice none 0 0]) ?_ 2 _ rfl;(with_reducible repeat first|refine bN ?_ _|refine bD ?_|refine bA ?_ _);refine blk_put (cs:=#[.int .i64 t172, .int .i64 0, .string (⟨#[]⟩ : ByteArray), .int .i64 0, .slice none 0 0]) ?_ 1 _ rfl;(with_reducible repeat first|refine bN ?_ _|refine bD ?_|refine bA ?_ _);refine blk_put (cs:=#[.int .i64 0, .int .i64 0, .string (⟨#[]⟩ : ByteArray), .int .i64 0, .slice none 0 0]) ?_ 0 _ rfl;(with_reducible repeat first|refine bN ?_ _|refine bD ?_|refine bA ?_ _);exact BK180.out⟩,⟨by repeat (first|(with_reducible first|exact HB.out|apply below_alloc|apply pw_below_drewN|apply below_drew1|refine below_set ?_ GE118.out|refine below_set ?_ GE155.out|refine below_set ?_ GE164.out|refine below_set ?_ GE180.out)|exact HB.out)⟩⟩
     ·replace c61:=Bool.eq_false_iff.mpr c61
      subst c61
      have H1 : (windlasslaw4_known.j0 k false) = some r:=by rw [if_neg (show ¬ (false = true) by decide)] at H;exact H
      clear H
      have H:=H1
      clear H1
      have H':=Aside0.mk H
      clear H
      go_wp2
      go_meet
      case rel => exact ⟨_,(false),(by first|rfl|(simp;done)|(simp [*];done)),H',⟨by first|omega|exact Nat.le_refl _⟩,⟨by (with_reducible repeat first|apply nA|apply nN|apply nD);exact Kd.N_mono (Kd.N_far (p:=⟨gb180,4,none⟩) (Kd.N_far (p:=⟨gb180,3,none⟩) (Kd.N_far (p:=⟨gb180,2,none⟩) (Kd.N_far (p:=⟨gb180,1,none⟩) (Kd.N_far (p:=⟨gb180,0,none⟩) (Kd.N_mono HO135.out (fun k_ hk => (⟨hk,hk.2.2.2.2.2.2.2⟩ : _ ∧ k_ ≠ gb180))) (fun _ hk => hk.2) (.int .i64 t172)) (fun _ hk => hk.2) (.int .i64 t173)) (fun _ hk => hk.2) (.string t174)) (fun _ hk => hk.2) (.int .i64 t175)) (fun _ hk => hk.2) (.slice Ao57 t176.length co57)) (fun _ hk => ⟨hk.1.2.2.1,⟨hk.1.2.2.2.2.1,⟨hk.1.2.2.2.2.2.1,⟨hk.1.2.2.2.2.2.2.1,hk.1.2.2.2.2.2.2.2⟩⟩⟩⟩)⟩,⟨by (with_reducible repeat first|apply nA|apply nN|apply nD);exact Kd.N_mono (Kd.N_far (p:=⟨gb180,4,none⟩) (Kd.N_far (p:=⟨gb180,3,none⟩) (Kd.N_far (p:=⟨gb180,2,none⟩) (Kd.N_far (p:=⟨gb180,1,none⟩) (Kd.N_far (p:=⟨gb180,0,none⟩) (Kd.N_mono HO153.out (fun k_ hk => (⟨hk,hk.2.2.2.2⟩ : _ ∧ k_ ≠ gb180))) (fun _ hk => hk.2) (.int .i64 t172)) (fun _ hk => hk.2) (.int .i64 t173)) (fun _ hk => hk.2) (.string t174)) (fun _ hk => hk.2) (.int .i64 t175)) (fun _ hk => hk.2) (.slice Ao57 t176.length co57)) (fun _ hk => ⟨hk.1.2.1,⟨hk.1.2.2.1,⟨hk.1.2.2.2.1,hk.1.2.2.2.2⟩⟩⟩)⟩,⟨by (with_reducible repeat (first|apply Kd.V_alloc|apply Kd.V_drewN|apply Kd.V_drew));exact Kd.V_mono (Kd.V_far (p:=⟨gb180,4,none⟩) (Kd.V_far (p:=⟨gb180,3,none⟩) (Kd.V_far (p:=⟨gb180,2,none⟩) (Kd.V_far (p:=⟨gb180,1,none⟩) (Kd.V_far (p:=⟨gb180,0,none⟩) (Kd.V_mono HO162.out (fun k_ hk => (⟨hk,hk.2.2.2.2⟩ : _ ∧ k_ ≠ gb180))) (fun _ hk => hk.2) (.int .i64 t172)) (fun _ hk => hk.2) (.int .i64 t173)) (fun _ hk => hk.2) (.string t174)) (fun _ hk => hk.2) (.int .i64 t175)) (fun _ hk => hk.2) (.slice Ao57 t176.length co57)) (fun _ hk => ⟨hk.1.2.1,⟨hk.1.2.2.1,⟨hk.1.2.2.2.1,hk.1.2.2.2.2⟩⟩⟩)⟩,⟨by (with_reducible repeat (first|apply Kd.V_alloc|apply Kd.V_drewN|apply Kd.V_drew));exact Kd.V_mono (Kd.V_far (p:=⟨gb180,4,none⟩) (Kd.V_far (p:=⟨gb180,3,none⟩) (Kd.V_far (p:=⟨gb180,2,none⟩) (Kd.V_far (p:=⟨gb180,1,none⟩) (Kd.V_far (p:=⟨gb180,0,none⟩) (Kd.V_mono HO178.out (fun k_ hk => (⟨hk,hk.2.2.2.2⟩ : _ ∧ k_ ≠ gb180))) (fun _ hk => hk.2) (.int .i64 t172)) (fun _ hk => hk.2) (.int .i64 t173)) (fun _ hk => hk.2) (.string t174)) (fun _ hk => hk.2) (.int .i64 t175)) (fun _ hk => hk.2) (.slice Ao57 t176.length co57)) (fun _ hk => ⟨hk.1.2.1,⟨hk.1.2.2.1,⟨hk.1.2.2.2.1,hk.1.2.2.2.2⟩⟩⟩)⟩,⟨by (with_reducible repeat first|refine bN ?_ _|refine bD ?_|refine bA ?_ _);refine blk_far ?_ NB118_180.out _;(with_reducible repeat first|refine bN ?_ _|refine bD ?_|refine bA ?_ _);refine blk_far ?_ NB118_180.out _;(with_reducible repeat first|refine bN ?_ _|refine bD ?_|refine bA ?_ _);refine blk_far ?_ NB118_180.out _;(with_reducible repeat first|refine bN ?_ _|refine bD ?_|refine bA ?_ _);refine blk_far ?_ NB118_180.out _;(with_reducible repeat first|refine bN ?_ _|refine bD ?_|refine bA ?_ _);refine blk_far ?_ NB118_180.out _;(with_reducible repeat first|refine bN ?_ _|refine bD ?_|refine bA ?_ _);exact BK118.out⟩,⟨by (with_reducible repeat first|refine bN ?_ _|refine bD ?_|refine bA ?_ _);refine blk_far ?_ NB155_180.out _;(with_reducible repeat first|refine bN ?_ _|refine bD ?_|refine bA ?_ _);refine blk_far ?_ NB155_180.out _;(with_reducible repeat first|refine bN ?_ _|refine bD ?_|refine bA ?_ _);refine blk_far ?_ NB155_180.out _;(with_reducible repeat first|refine bN ?_ _|refine bD ?_|refine bA ?_ _);refine blk_far ?_ NB155_180.out _;(with_reducible repeat first|refine bN ?_ _|refine bD ?_|refine bA ?_ _);refine blk_far ?_ NB155_180.out _;(with_reducible repeat first|refine bN ?_ _|refine bD ?_|refine bA ?_ _);exact BK155.out⟩,⟨by (with_reducible repeat first|refine bN ?_ _|refine bD ?_|refine bA ?_ _);refine blk_far ?_ NB164_180.out _;(with_reducible repeat first|refine bN ?_ _|refine bD ?_|refine bA ?_ _);refine blk_far ?_ NB164_180.out _;(with_reducible repeat first|refine bN ?_ _|refine bD ?_|refine bA ?_ _);refine blk_far ?_ NB164_180.out _;(with_reducible repeat first|refine bN ?_ _|refine bD ?_|refine bA ?_ _);refine blk_far ?_ NB164_180.out _;(with_reducible repeat first|refine bN ?_ _|refine bD ?_|refine bA ?_ _);refine blk_far ?_ NB164_180.out _;(with_reducible repeat first|refine bN ?_ _|refine bD ?_|refine bA ?_ _);exact BK164.out⟩,⟨by (with_reducible repeat first|refine bN ?_ _|refine bD ?_|refine bA ?_ _);refine blk_put (cs:=#[.int .i64 t172, .int .i64 t173, .string t174, .int .i64 t175, .slice none 0 0]) ?_ 4 _ rfl;(with_reducible repeat first|refine bN ?_ _|refine bD ?_|refine bA ?_ _);refine blk_put (cs:=#[.int .i64 t172, .int .i64 t173, .string t174, .int .i64 0, .slice none 0 0]) ?_ 3 _ rfl;(with_reducible repeat first|refine bN ?_ _|refine bD ?_|refine bA ?_ _);refine blk_put (cs:=#[.int .i64 t172, .int .i64 t173, .string (⟨#[]⟩ : ByteArray), .int .i64 0, .slice none 0 0]) ?_ 2 _ rfl;(with_reducible repeat first|refine bN ?_ _|refine bD ?_|refine bA ?_ _);refine blk_put (cs:=#[.int .i64 t172, .int .i64 0, .string (⟨#[]⟩ : ByteArray), .int .i64 0, .slice none 0 0]) ?_ 1 _ rfl;(with_reducible repeat first|refine bN ?_ _|refine bD ?_|refine bA ?_ _);refine blk_put (cs:=#[.int .i64 0, .int .i64 0, .string (⟨#[]⟩ : ByteArray), .int .i64 0, .slice none 0 0]) ?_ 0 _ rfl;(with_reducible repeat first|refine bN ?_ _|refine bD ?_|refine bA ?_ _);exact BK180.out⟩,⟨by repeat (first|(with_reducible first|exact HB.out|apply below_alloc|apply pw_below_drewN|apply below_drew1|refine below_set ?_ GE118.out|refine below_set ?_ GE155.out|refine below_set ?_ GE164.out|refine below_set ?_ GE180.out)|exact HB.out)⟩⟩
    ·rw [if_neg c60] at H
     have c60b0 : (t154 == 0) = false:=beq_eq_false_iff_ne.mpr c60
     have c60b1 : (t154 != 0) = true:=bne_iff_ne.mpr c60
     have H':=Aside0.mk H
     clear H
     go_wp2
     go_meet
     case rel => exact ⟨_,(false),(by first|rfl|(simp;done)|(simp [*];done)),H',⟨by first|omega|exact Nat.le_refl _⟩,⟨by (with_reducible repeat first|apply nA|apply nN|apply nD);exact Kd.N_mono (Kd.N_far (p:=⟨gb180,4,none⟩) (Kd.N_far (p:=⟨gb180,3,none⟩) (Kd.N_far (p:=⟨gb180,2,none⟩) (Kd.N_far (p:=⟨gb180,1,none⟩) (Kd.N_far (p:=⟨gb180,0,none⟩) (Kd.N_mono HO135.out (fun k_ hk => (⟨hk,hk.2.2.2.2.2.2.2⟩ : _ ∧ k_ ≠ gb180))) (fun _ hk => hk.2) (.int .i64 t172)) (fun _ hk => hk.2) (.int .i64 t173)) (fun _ hk => hk.2) (.string t174)) (fun _ hk => hk.2) (.int .i64 t175)) (fun _ hk => hk.2) (.slice Ao57 t176.length co57)) (fun _ hk => ⟨hk.1.2.2.1,⟨hk.1.2.2.2.2.1,⟨hk.1.2.2.2.2.2.1,⟨hk.1.2.2.2.2.2.2.1,hk.1.2.2.2.2.2.2.2⟩⟩⟩⟩)⟩,⟨by (with_reducible repeat first|apply nA|apply nN|apply nD);exact Kd.N_mono (Kd.N_far (p:=⟨gb180,4,none⟩) (Kd.N_far (p:=⟨gb180,3,none⟩) (Kd.N_far (p:=⟨gb180,2,none⟩) (Kd.N_far (p:=⟨gb180,1,none⟩) (Kd.N_far (p:=⟨gb180,0,none⟩) (Kd.N_mono HO153.out (fun k_ hk => (⟨hk,hk.2.2.2.2⟩ : _ ∧ k_ ≠ gb180))) (fun _ hk => hk.2) (.int .i64 t172)) (fun _ hk => hk.2) (.int .i64 t173)) (fun _ hk => hk.2) (.string t174)) (fun _ hk => hk.2) (.int .i64 t175)) (fun _ hk => hk.2) (.slice Ao57 t176.length co57)) (fun _ hk => ⟨hk.1.2.1,⟨hk.1.2.2.1,⟨hk.1.2.2.2.1,hk.1.2.2.2.2⟩⟩⟩)⟩,⟨by (with_reducible repeat (first|apply Kd.V_alloc|apply Kd.V_drewN|apply Kd.V_drew));exact Kd.V_mono (Kd.V_far (p:=⟨gb180,4,none⟩) (Kd.V_far (p:=⟨gb180,3,none⟩) (Kd.V_far (p:=⟨gb180,2,none⟩) (Kd.V_far (p:=⟨gb180,1,none⟩) (Kd.V_far (p:=⟨gb180,0,none⟩) (Kd.V_mono HO162.out (fun k_ hk => (⟨hk,hk.2.2.2.2⟩ : _ ∧ k_ ≠ gb180))) (fun _ hk => hk.2) (.int .i64 t172)) (fun _ hk => hk.2) (.int .i64 t173)) (fun _ hk => hk.2) (.string t174)) (fun _ hk => hk.2) (.int .i64 t175)) (fun _ hk => hk.2) (.slice Ao57 t176.length co57)) (fun _ hk => ⟨hk.1.2.1,⟨hk.1.2.2.1,⟨hk.1.2.2.2.1,hk.1.2.2.2.2⟩⟩⟩)⟩,⟨by (with_reducible repeat (first|apply Kd.V_alloc|apply Kd.V_drewN|apply Kd.V_drew));exact Kd.V_mono (Kd.V_far (p:=⟨gb180,4,none⟩) (Kd.V_far (p:=⟨gb180,3,none⟩) (Kd.V_far (p:=⟨gb180,2,none⟩) (Kd.V_far (p:=⟨gb180,1,none⟩) (Kd.V_far (p:=⟨gb180,0,none⟩) (Kd.V_mono HO178.out (fun k_ hk => (⟨hk,hk.2.2.2.2⟩ : _ ∧ k_ ≠ gb180))) (fun _ hk => hk.2) (.int .i64 t172)) (fun _ hk => hk.2) (.int .i64 t173)) (fun _ hk => hk.2) (.string t174)) (fun _ hk => hk.2) (.int .i64 t175)) (fun _ hk => hk.2) (.slice Ao57 t176.length co57)) (fun _ hk => ⟨hk.1.2.1,⟨hk.1.2.2.1,⟨hk.1.2.2.2.1,hk.1.2.2.2.2⟩⟩⟩)⟩,⟨by (with_reducible repeat first|refine bN ?_ _|refine bD ?_|refine bA ?_ _);refine blk_far ?_ NB118_180.out _;(with_reducible repeat first|refine bN ?_ _|refine bD ?_|refine bA ?_ _);refine blk_far ?_ NB118_180.out _;(with_reducible repeat first|refine bN ?_ _|refine bD ?_|refine bA ?_ _);refine blk_far ?_ NB118_180.out _;(with_reducible repeat first|refine bN ?_ _|refine bD ?_|refine bA ?_ _);refine blk_far ?_ NB118_180.out _;(with_reducible repeat first|refine bN ?_ _|refine bD ?_|refine bA ?_ _);refine blk_far ?_ NB118_180.out _;(with_reducible repeat first|refine bN ?_ _|refine bD ?_|refine bA ?_ _);exact BK118.out⟩,⟨by (with_reducible repeat first|refine bN ?_ _|refine bD ?_|refine bA ?_ _);refine blk_far ?_ NB155_180.out _;(with_reducible repeat first|refine bN ?_ _|refine bD ?_|refine bA ?_ _);refine blk_far ?_ NB155_180.out _;(with_reducible repeat first|refine bN ?_ _|refine bD ?_|refine bA ?_ _);refine blk_far ?_ NB155_180.out _;(with_reducible repeat first|refine bN ?_ _|refine bD ?_|refine bA ?_ _);refine blk_far ?_ NB155_180.out _;(with_reducible repeat first|refine bN ?_ _|refine bD ?_|refine bA ?_ _);refine blk_far ?_ NB155_180.out _;(with_reducible repeat first|refine bN ?_ _|refine bD ?_|refine bA ?_ _);exact BK155.out⟩,⟨by (with_reducible repeat first|refine bN ?_ _|refine bD ?_|refine bA ?_ _);refine blk_far ?_ NB164_180.out _;(with_reducible repeat first|refine bN ?_ _|refine bD ?_|refine bA ?_ _);refine blk_far ?_ NB164_180.out _;(with_reducible repeat first|refine bN ?_ _|refine bD ?_|refine bA ?_ _);refine blk_far ?_ NB164_180.out _;(with_reducible repeat first|refine bN ?_ _|refine bD ?_|refine bA ?_ _);refine blk_far ?_ NB164_180.out _;(with_reducible repeat first|refine bN ?_ _|refine bD ?_|refine bA ?_ _);refine blk_far ?_ NB164_180.out _;(with_reducible repeat first|refine bN ?_ _|refine bD ?_|refine bA ?_ _);exact BK164.out⟩,⟨by (with_reducible repeat first|refine bN ?_ _|refine bD ?_|refine bA ?_ _);refine blk_put (cs:=#[.int .i64 t172, .int .i64 t173, .string t174, .int .i64 t175, .slice none 0 0]) ?_ 4 _ rfl;(with_reducible repeat first|refine bN ?_ _|refine bD ?_|refine bA ?_ _);refine blk_put (cs:=#[.int .i64 t172, .int .i64 t173, .string t174, .int .i64 0, .slice none 0 0]) ?_ 3 _ rfl;(with_reducible repeat first|refine bN ?_ _|refine bD ?_|refine bA ?_ _);refine blk_put (cs:=#[.int .i64 t172, .int .i64 t173, .string (⟨#[]⟩ : ByteArray), .int .i64 0, .slice none 0 0]) ?_ 2 _ rfl;(with_reducible repeat first|refine bN ?_ _|refine bD ?_|refine bA ?_ _);refine blk_put (cs:=#[.int .i64 t172, .int .i64 0, .string (⟨#[]⟩ : ByteArray), .int .i64 0, .slice none 0 0]) ?_ 1 _ rfl;(with_reducible repeat first|refine bN ?_ _|refine bD ?_|refine bA ?_ _);refine blk_put (cs:=#[.int .i64 0, .int .i64 0, .string (⟨#[]⟩ : ByteArray), .int .i64 0, .slice none 0 0]) ?_ 0 _ rfl;(with_reducible repeat first|refine bN ?_ _|refine bD ?_|refine bA ?_ _);exact BK180.out⟩,⟨by repeat (first|(with_reducible first|exact HB.out|apply below_alloc|apply pw_below_drewN|apply below_drew1|refine below_set ?_ GE118.out|refine below_set ?_ GE155.out|refine below_set ?_ GE164.out|refine below_set ?_ GE180.out)|exact HB.out)⟩⟩
   ·rw [if_neg c59] at H
    have c59b0 : (t136 == 0) = false:=beq_eq_false_iff_ne.mpr c59
    have c59b1 : (t136 != 0) = true:=bne_iff_ne.mpr c59
    (first|rw [c59b0]|(simp only [i64_w,i32_w];rw [c59b0])|skip)
    have H':=Aside0.mk H
    clear H
    go_wp2
    go_meet
    case rel => exact ⟨_,(false),(by first|rfl|(simp;done)|(simp [*];done)),H',⟨by first|omega|exact Nat.le_refl _⟩,⟨by (with_reducible repeat first|apply nA|apply nN|apply nD);exact Kd.N_mono (Kd.N_far (p:=⟨gb180,4,none⟩) (Kd.N_far (p:=⟨gb180,3,none⟩) (Kd.N_far (p:=⟨gb180,2,none⟩) (Kd.N_far (p:=⟨gb180,1,none⟩) (Kd.N_far (p:=⟨gb180,0,none⟩) (Kd.N_mono HO135.out (fun k_ hk => (⟨hk,hk.2.2.2.2.2.2.2⟩ : _ ∧ k_ ≠ gb180))) (fun _ hk => hk.2) (.int .i64 t172)) (fun _ hk => hk.2) (.int .i64 t173)) (fun _ hk => hk.2) (.string t174)) (fun _ hk => hk.2) (.int .i64 t175)) (fun _ hk => hk.2) (.slice Ao57 t176.length co57)) (fun _ hk => ⟨hk.1.2.2.1,⟨hk.1.2.2.2.2.1,⟨hk.1.2.2.2.2.2.1,⟨hk.1.2.2.2.2.2.2.1,hk.1.2.2.2.2.2.2.2⟩⟩⟩⟩)⟩,⟨by (with_reducible repeat first|apply nA|apply nN|apply nD);exact Kd.N_mono (Kd.N_far (p:=⟨gb180,4,none⟩) (Kd.N_far (p:=⟨gb180,3,none⟩) (Kd.N_far (p:=⟨gb180,2,none⟩) (Kd.N_far (p:=⟨gb180,1,none⟩) (Kd.N_far (p:=⟨gb180,0,none⟩) (Kd.N_mono HO153.out (fun k_ hk => (⟨hk,hk.2.2.2.2⟩ : _ ∧ k_ ≠ gb180))) (fun _ hk => hk.2) (.int .i64 t172)) (fun _ hk => hk.2) (.int .i64 t173)) (fun _ hk => hk.2) (.string t174)) (fun _ hk => hk.2) (.int .i64 t175)) (fun _ hk => hk.2) (.slice Ao57 t176.length co57)) (fun _ hk => ⟨hk.1.2.1,⟨hk.1.2.2.1,⟨hk.1.2.2.2.1,hk.1.2.2.2.2⟩⟩⟩)⟩,⟨by (with_reducible repeat (first|apply Kd.V_alloc|apply Kd.V_drewN|apply Kd.V_drew));exact Kd.V_mono (Kd.V_far (p:=⟨gb180,4,none⟩) (Kd.V_far (p:=⟨gb180,3,none⟩) (Kd.V_far (p:=⟨gb180,2,none⟩) (Kd.V_far (p:=⟨gb180,1,none⟩) (Kd.V_far (p:=⟨gb180,0,none⟩) (Kd.V_mono HO162.out (fun k_ hk => (⟨hk,hk.2.2.2.2⟩ : _ ∧ k_ ≠ gb180))) (fun _ hk => hk.2) (.int .i64 t172)) (fun _ hk => hk.2) (.int .i64 t173)) (fun _ hk => hk.2) (.string t174)) (fun _ hk => hk.2) (.int .i64 t175)) (fun _ hk => hk.2) (.slice Ao57 t176.length co57)) (fun _ hk => ⟨hk.1.2.1,⟨hk.1.2.2.1,⟨hk.1.2.2.2.1,hk.1.2.2.2.2⟩⟩⟩)⟩,⟨by (with_reducible repeat (first|apply Kd.V_alloc|apply Kd.V_drewN|apply Kd.V_drew));exact Kd.V_mono (Kd.V_far (p:=⟨gb180,4,none⟩) (Kd.V_far (p:=⟨gb180,3,none⟩) (Kd.V_far (p:=⟨gb180,2,none⟩) (Kd.V_far (p:=⟨gb180,1,none⟩) (Kd.V_far (p:=⟨gb180,0,none⟩) (Kd.V_mono HO178.out (fun k_ hk => (⟨hk,hk.2.2.2.2⟩ : _ ∧ k_ ≠ gb180))) (fun _ hk => hk.2) (.int .i64 t172)) (fun _ hk => hk.2) (.int .i64 t173)) (fun _ hk => hk.2) (.string t174)) (fun _ hk => hk.2) (.int .i64 t175)) (fun _ hk => hk.2) (.slice Ao57 t176.length co57)) (fun _ hk => ⟨hk.1.2.1,⟨hk.1.2.2.1,⟨hk.1.2.2.2.1,hk.1.2.2.2.2⟩⟩⟩)⟩,⟨by (with_reducible repeat first|refine bN ?_ _|refine bD ?_|refine bA ?_ _);refine blk_far ?_ NB118_180.out _;(with_reducible repeat first|refine bN ?_ _|refine bD ?_|refine bA ?_ _);refine blk_far ?_ NB118_180.out _;(with_reducible repeat first|refine bN ?_ _|refine bD ?_|refine bA ?_ _);refine blk_far ?_ NB118_180.out _;(with_reducible repeat first|refine bN ?_ _|refine bD ?_|refine bA ?_ _);refine blk_far ?_ NB118_180.out _;(with_reducible repeat first|refine bN ?_ _|refine bD ?_|refine bA ?_ _);refine blk_far ?_ NB118_180.out _;(with_reducible repeat first|refine bN ?_ _|refine bD ?_|refine bA ?_ _);exact BK118.out⟩,⟨by (with_reducible repeat first|refine bN ?_ _|refine bD ?_|refine bA ?_ _);refine blk_far ?_ NB155_180.out _;(with_reducible repeat first|refine bN ?_ _|refine bD ?_|refine bA ?_ _);refine blk_far ?_ NB155_180.out _;(with_reducible repeat first|refine bN ?_ _|refine bD ?_|refine bA ?_ _);refine blk_far ?_ NB155_180.out _;(with_reducible repeat first|refine bN ?_ _|refine bD ?_|refine bA ?_ _);refine blk_far ?_ NB155_180.out _;(with_reducible repeat first|refine bN ?_ _|refine bD ?_|refine bA ?_ _);refine blk_far ?_ NB155_180.out _;(with_reducible repeat first|refine bN ?_ _|refine bD ?_|refine bA ?_ _);exact BK155.out⟩,⟨by (with_reducible repeat first|refine bN ?_ _|refine bD ?_|refine bA ?_ _);refine blk_far ?_ NB164_180.out _;(with_reducible repeat first|refine bN ?_ _|refine bD ?_|refine bA ?_ _);refine blk_far ?_ NB164_180.out _;(with_reducible repeat first|refine bN ?_ _|refine bD ?_|refine bA ?_ _);refine blk_far ?_ NB164_180.out _;(with_reducible repeat first|refine bN ?_ _|refine bD ?_|refine bA ?_ _);refine blk_far ?_ NB164_180.out _;(with_reducible repeat first|refine bN ?_ _|refine bD ?_|refine bA ?_ _);refine blk_far ?_ NB164_180.out _;(with_reducible repeat first|refine bN ?_ _|refine bD ?_|refine bA ?_ _);exact BK164.out⟩,⟨by (with_reducible repeat first|refine bN ?_ _|refine bD ?_|refine bA ?_ _);refine blk_put (cs:=#[.int .i64 t172, .int .i64 t173, .string t174, .int .i64 t175, .slice none 0 0]) ?_ 4 _ rfl;(with_reducible repeat first|refine bN ?_ _|refine bD ?_|refine bA ?_ _);refine blk_put (cs:=#[.int .i64 t172, .int .i64 t173, .string t174, .int .i64 0, .slice none 0 0]) ?_ 3 _ rfl;(with_reducible repeat first|refine bN ?_ _|refine bD ?_|refine bA ?_ _);refine blk_put (cs:=#[.int .i64 t172, .int .i64 t173, .string (⟨#[]⟩ : ByteArray), .int .i64 0, .slice none 0 0]) ?_ 2 _ rfl;(with_reducible repeat first|refine bN ?_ _|refine bD ?_|refine bA ?_ _);refine blk_put (cs:=#[.int .i64 t172, .int .i64 0, .string (⟨#[]⟩ : ByteArray), .int .i64 0, .slice none 0 0]) ?_ 1 _ rfl;(with_reducible repeat first|refine bN ?_ _|refine bD ?_|refine bA ?_ _);refine blk_put (cs:=#[.int .i64 0, .int .i64 0, .string (⟨#[]⟩ : ByteArray), .int .i64 0, .slice none 0 0]) ?_ 0 _ rfl;(with_reducible repeat first|refine bN ?_ _|refine bD ?_|refine bA ?_ _);exact BK180.out⟩,⟨by repeat (first|(with_reducible first|exact HB.out|apply below_alloc|apply pw_below_drewN|apply below_drew1|refine below_set ?_ GE118.out|refine below_set ?_ GE155.out|refine below_set ?_ GE164.out|refine below_set ?_ GE180.out)|exact HB.out)⟩⟩
  case rest =>
   clear HC11
   try clear c1
   try clear p1
   try clear q1
   try clear hx1
   try clear qi1
   try clear p2
   try clear c5
   try clear c6
   try clear c7
   try clear c8
   try clear c9
   try clear c11
   try clear c15
   try clear c18
   try clear p18
   try clear q18
   try clear hx18
   try clear qi18
   try clear c59
   try clear c59b0
   try clear c59b1
   try clear c60
   try clear c60b0
   try clear c60b1
   try clear c61
   try clear c62
   try clear c63
   try clear c63b0
   try clear c63b1
   try clear c64
   try clear c64b0
   try clear c64b1
   try clear c65
   try clear c65b0
   try clear c65b1
   try clear c66
   try clear c66b0
   try clear c66b1
   try clear c67
   try clear c67b0
   try clear c67b1
   try clear c68
   try clear c69
   try clear c70
   try clear c72
   try clear c73
   try clear c75
   try clear c78
   try clear c79
   try clear c80
   try clear c82
   try clear c83
   try clear c85
   try clear c87
   try clear c88
   try clear c89
   try clear c91
   try clear c92
   try clear c94
   try clear c95
   try clear c96
   try clear hcz71_0
   try clear hcz71_1
   try clear hcz71_2
   try clear hcz71_3
   try clear hcz71_4
   try clear hcz74_0
   try clear hcz74_1
   try clear hcz74_2
   try clear hcz74_3
   try clear hcz74_4
   try clear hcz76_0
   try clear hcz77_0
   try clear hcz81_0
   try clear hcz81_1
   try clear hcz81_2
   try clear hcz81_3
   try clear hcz81_4
   try clear hcz84_0
   try clear hcz84_1
   try clear hcz84_2
   try clear hcz84_3
   try clear hcz84_4
   try clear hcz86_0
   try clear hcz90_0
   try clear hcz90_1
   try clear hcz90_2
   try clear hcz90_3
   try clear hcz90_4
   try clear hcz93_0
   try clear hcz93_1
   try clear hcz93_2
   try clear hcz93_3
   try clear hcz93_4
   try clear hcz97_0
   try clear hcz97_1
   try clear hcz97_2
   try clear hcz97_3
   try clear hcz97_4
   try clear hfz71_0
   try clear hfz71_1
   try clear hfz71_2
   try clear hfz71_3
   try clear hfz71_4
   try clear hfz74_0
   try clear hfz74_1
   try clear hfz74_2
   try clear hfz74_3
   try clear hfz74_4
   try clear hfz76_0
   try clear hfz77_0
   try clear hfz81_0
   try clear hfz81_1
   try clear hfz81_2
   try clear hfz81_3
   try clear hfz81_4
   try clear hfz84_0
   try clear hfz84_1
   try clear hfz84_2
   try clear hfz84_3
   try clear hfz84_4
   try clear hfz86_0
   try clear hfz90_0
   try clear hfz90_1
   try clear hfz90_2
   try clear hfz90_3
   try clear hfz90_4
   try clear hfz93_0
   try clear hfz93_1
   try clear hfz93_2
   try clear hfz93_3
   try clear hfz93_4
   try clear hfz97_0
   try clear hfz97_1
   try clear hfz97_2
   try clear hfz97_3
   try clear hfz97_4
   try clear hx181_0
   try clear hx182_0
   try clear p181
   try clear p182
   try clear q181
   try clear q182
   obtain ⟨kq,x0_10,rfl,HA,HJ10,HO_119000,HO_156000,HO_165004,HO_181004,BK118,BK155,BK164,BK180,HB⟩:=hcut
   cases kq with
   | zero => exact absurd HA.out (by simp [windlasslaw4_known.j0])
   | succ kj10 =>
    have H:=HA.out
    clear HA
    simp only [windlasslaw4_known.j0] at H
    obtain rfl:=Option.some.inj H
    go_wp2
    go_ret
    exact ⟨by first|rfl|(simp [errW_none,errW_some] <;> rfl)|(simp [*,errW_none,errW_some] <;> rfl),by repeat (first|(with_reducible first|exact HB.out|apply below_alloc|apply pw_below_drewN|apply below_drew1|refine below_set ?_ GE118.out|refine below_set ?_ GE155.out|refine below_set ?_ GE164.out|refine below_set ?_ GE180.out)|exact HB.out)⟩
 ·rw [if_neg c1] at H
  exact absurd H (by simp)

end Go.Proofs.Ytnokieaebnmljaa.PAll
