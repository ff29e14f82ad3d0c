-- Laid by a program of this seat (wip/merge.py): PAllx6, PAllx7, PAllx8, PAllx9, PAllx10, PAllx11, PAllx12, PAllx18, PAllx13, PAllx14, PAllx19, PAllx15, PAllx16.
import Derived.Test.YthbnblmnamckmaaMCodecBack0
-- Laid by a program of this seat (wip/xprint.py over the kit's print).
namespace Go.Proofs.Ythbnblmnamckmaa.PAll
open Go.RowKit Go.Proofs.YthbnblmnamckmaaW.PrintWords Go.Proofs.YthbnblmnamckmaaW.PrintLast Go.Proofs.YthbnblmnamckmaaW.PrintMore
attribute [local go_sem] max2_int min2_int max_two min_two max_three min_three max_four min_four   -- for this text's walks alone
set_option linter.unusedVariables false
set_option linter.unusedSimpArgs false

/-! ### codec_put: function 36 -/
mutual
def codec_put.l0 : Nat → List Int → List (S24) → Int → Int → Option (List Int)
 | 0,_,_,_,_ => none
 | k + 1,x3,x48,x49,x50 => if x50 < x49 then (if 0 ≤ x50 then (if x50 < (x48.length : Int) then ((codec_put.f k ((rd_T24 x48 x50).f0) ((rd_T24 x48 x50).f1) ((rd_T24 x48 x50).f2) ((rd_T24 x48 x50).f3) ((rd_T24 x48 x50).f4)).bind fun t153 => (if x3.length + t153.length < 140737488355328 then (codec_put.l0 k (x3 ++ t153) x48 x49 (wrap64 (x50 + 1))) else (none))) else (none)) else (none)) else (some x3)
def codec_put.f : Nat → Int → Int → ByteArray → Int → List (S24) → Option (List Int)
 | 0,_,_,_,_,_ => none
 | k + 1,a0_0,a0_1,a0_2,a0_3,l0_4 => (some (([(a0_0) % 256] : List Int) : List Int)).bind fun y121 => (if a0_0 = 1 then ((codec_PutInt.f k a0_1).bind fun t124 => (if y121.length + t124.length < 140737488355328 then (some (y121 ++ t124)) else (none))) else (if a0_0 = 2 then ((codec_PutText.f k a0_2).bind fun t130 => (if y121.length + t130.length < 140737488355328 then (some (y121 ++ t130)) else (none))) else (if a0_0 = 3 then (if y121.length < 140737488355328 then (some (y121 ++ [(a0_1) % 256])) else (none)) else ((codec_PutUint.f k (IntKind.u64.wrap (a0_3))).bind fun t139 => (if y121.length + t139.length < 140737488355328 then ((some (y121 ++ t139 : List Int)).bind fun y142 => ((codec_PutUint.f k (IntKind.u64.wrap ((l0_4.length : Int)))).bind fun t145 => (if y142.length + t145.length < 140737488355328 then (codec_put.l0 k (y142 ++ t145) l0_4 (l0_4.length : Int) 0) else (none)))) else (none))))))
end
theorem codec_put.mono_l : ∀ k,(∀ y0 y1 y2 y3 y4,LeO (codec_put.f k y0 y1 y2 y3 y4) (codec_put.f (k + 1) y0 y1 y2 y3 y4)) ∧ (∀ y0 y1 y2 y3,LeO (codec_put.l0 k y0 y1 y2 y3) (codec_put.l0 (k + 1) y0 y1 y2 y3))
 | 0 => ⟨fun _ _ _ _ _ r h => by simp [codec_put.f] at h,fun _ _ _ _ r h => by simp [codec_put.l0] at h⟩
 | k + 1 => by
  obtain ⟨ih0,ih1⟩:=codec_put.mono_l k
  refine ⟨?_,?_⟩
  ·intro y0 y1 y2 y3 y4
   unfold codec_put.f
   repeat' first
   | (with_reducible exact ih0 _ _ _ _ _)
   | (with_reducible exact ih1 _ _ _ _)
   | (with_reducible exact codec_PutInt.mono _ _)
   | (with_reducible exact codec_PutText.mono _ _)
   | (with_reducible exact codec_PutUint.mono _ _)
   | (with_reducible exact LeO.refl _)
   | (with_reducible exact LeO.none _)
   | (with_reducible refine LeO.ite ?_ ?_)
   | (with_reducible refine LeO.bind ?_ (fun _ => ?_))
   | exact ih0 _ _ _ _ _
   | exact ih1 _ _ _ _
   | exact codec_PutInt.mono _ _
   | exact codec_PutText.mono _ _
   | exact codec_PutUint.mono _ _
   | exact LeO.none _
   | refine LeO.ite ?_ ?_
   | refine LeO.bind ?_ (fun _ => ?_)
  ·intro y0 y1 y2 y3
   unfold codec_put.l0
   repeat' first
   | (with_reducible exact ih0 _ _ _ _ _)
   | (with_reducible exact ih1 _ _ _ _)
   | (with_reducible exact codec_PutInt.mono _ _)
   | (with_reducible exact codec_PutText.mono _ _)
   | (with_reducible exact codec_PutUint.mono _ _)
   | (with_reducible exact LeO.refl _)
   | (with_reducible exact LeO.none _)
   | (with_reducible refine LeO.ite ?_ ?_)
   | (with_reducible refine LeO.bind ?_ (fun _ => ?_))
   | exact ih0 _ _ _ _ _
   | exact ih1 _ _ _ _
   | exact codec_PutInt.mono _ _
   | exact codec_PutText.mono _ _
   | exact codec_PutUint.mono _ _
   | exact LeO.none _
   | refine LeO.ite ?_ ?_
   | refine LeO.bind ?_ (fun _ => ?_)
theorem codec_put.mono : ∀ a0 a1 a2 a3 a4 k,LeO (codec_put.f k a0 a1 a2 a3 a4) (codec_put.f (k + 1) a0 a1 a2 a3 a4):=by
 intro a0 a1 a2 a3 a4 k
 obtain ⟨ih0,ih1⟩:=codec_put.mono_l k
 exact ih0 a0 a1 a2 a3 a4
set_option maxHeartbeats 8000000 in
set_option maxRecDepth 100000 in
theorem codec_put.calls (k : Nat) : ∀ (a0_0 : Int) (a0_1 : Int) (a0_2 : ByteArray) (a0_3 : Int) (A0_4 : Option Addr) (c0_4 : Nat) (l0_4 : List (S24)) (r : List Int) (w : World) (hr0_4 : Kd.C k24 w A0_4 l0_4.length l0_4) (hc0_4 : l0_4.length ≤ c0_4) (h : codec_put.f k a0_0 a0_1 a0_2 a0_3 l0_4 = some r),
  Calls Try.prog 36 #[.agg #[.int .i64 a0_0, .int .i64 a0_1, .string a0_2, .int .i64 a0_3, .slice A0_4 l0_4.length c0_4]] w fun e w' => ∃ v0_ : Value,e = .returned (v0_) ∧ Kd.R (Kd.int .u8) 5 w' w.heap.size (fun _ => True) v0_ r ∧ Below w.heap.size w w':=by
 induction k using Nat.strongRecOn with
 | _ k ih =>
 intro a0_0 a0_1 a0_2 a0_3 A0_4 c0_4 l0_4 r w hr0_4 hc0_4 h
 cases k with
 | zero => exact absurd h (by simp [codec_put.f])
 | succ k =>
 simp only [codec_put.f] at h
 have hu24:=Try.underlying24
 have HR0_4:=Aside0.mk hr0_4
 have HC0_4:=Aside0.mk hc0_4
 clear hr0_4 hc0_4
 have HB:=Aside0.mk (Below.refl w.heap.size w)
 have H : ((some (([(a0_0) % 256] : List Int) : List Int)).bind fun y121 => (if a0_0 = 1 then ((codec_PutInt.f k a0_1).bind fun t124 => (if y121.length + t124.length < 140737488355328 then (some (y121 ++ t124)) else (none))) else (if a0_0 = 2 then ((codec_PutText.f k a0_2).bind fun t130 => (if y121.length + t130.length < 140737488355328 then (some (y121 ++ t130)) else (none))) else (if a0_0 = 3 then (if y121.length < 140737488355328 then (some (y121 ++ [(a0_1) % 256])) else (none)) else ((codec_PutUint.f k (IntKind.u64.wrap (a0_3))).bind fun t139 => (if y121.length + t139.length < 140737488355328 then ((some (y121 ++ t139 : List Int)).bind fun y142 => ((codec_PutUint.f k (IntKind.u64.wrap ((l0_4.length : Int)))).bind fun t145 => (if y142.length + t145.length < 140737488355328 then (codec_put.l0 k (y142 ++ t145) l0_4 (l0_4.length : Int) 0) else (none)))) else (none))))))) = some r:=h
 clear h
 obtain ⟨y121,hy121⟩ : ∃ y_ : List Int,y_ = (([(a0_0) % 256] : List Int)):=⟨_,rfl⟩
 replace H : (if a0_0 = 1 then ((codec_PutInt.f k a0_1).bind fun t124 => (if y121.length + t124.length < 140737488355328 then (some (y121 ++ t124)) else (none))) else (if a0_0 = 2 then ((codec_PutText.f k a0_2).bind fun t130 => (if y121.length + t130.length < 140737488355328 then (some (y121 ++ t130)) else (none))) else (if a0_0 = 3 then (if y121.length < 140737488355328 then (some (y121 ++ [(a0_1) % 256])) else (none)) else ((codec_PutUint.f k (IntKind.u64.wrap (a0_3))).bind fun t139 => (if y121.length + t139.length < 140737488355328 then ((some (y121 ++ t139 : List Int)).bind fun y142 => ((codec_PutUint.f k (IntKind.u64.wrap ((l0_4.length : Int)))).bind fun t145 => (if y142.length + t145.length < 140737488355328 then (codec_put.l0 k (y142 ++ t145) l0_4 (l0_4.length : Int) 0) else (none)))) else (none)))))) = some r:=by first|(rw [hy121];with_reducible exact H)|(have H2_:=(Option.bind_some _ _).symm.trans H;rw [hy121];with_reducible exact H2_)|(have H2_:=(Option.bind_some _ _).symm.trans H;with_reducible exact H2_)|with_reducible exact H|(rw [hy121];exact H)|exact H
 have Ny121:=Aside0.mk hy121
 clear hy121
 by_cases c2 : a0_0 = 1
 ·rw [if_pos c2] at H
  have c2b0 : (a0_0 == 1) = true:=beq_iff_eq.mpr c2
  have c2b1 : (a0_0 != 1) = false:=bne_eq_false_iff_eq.mpr c2
  clear c2
  replace H:=Option.bind_eq_some_iff.mp H
  obtain ⟨t124,A30,H⟩:=H
  replace H : (if y121.length + t124.length < 140737488355328 then (some (y121 ++ t124)) else (none)) = some r:=H
  have A3:=Aside0.mk A30
  clear A30
  by_cases c4 : y121.length + t124.length < 140737488355328
  ·rw [if_pos c4] at H
   have LMc4:=Aside0.mk c4
   clear c4
   obtain ⟨y127,hy127⟩ : ∃ y_ : List Int,y_ = (y121 ++ t124):=⟨_,rfl⟩
   replace H : (some y127) = some r:=by first|(rw [hy127];with_reducible exact H)|(have H2_:=(Option.bind_some _ _).symm.trans H;rw [hy127];with_reducible exact H2_)|(have H2_:=(Option.bind_some _ _).symm.trans H;with_reducible exact H2_)|with_reducible exact H|(rw [hy127];exact H)|exact H
   have Ny127:=Aside0.mk hy127
   clear hy127
   obtain rfl:=Option.some.inj H
   go_enter Try.func36,Try.ntmps36
   go_wp2_with (first|((with_reducible refine gate_dst (N:=1) rfl ?_);refine box_event ?hg (N:=1) ?hd (cs:=#[.int .i64 a0_0, .int .i64 a0_1, .string a0_2, .int .i64 a0_3, .slice A0_4 l0_4.length c0_4]) (t:=24) ?hr ?_;(case hd => rfl);(case hg => rfl);(case hr => first|(go_simp;done)|(go_simp;rfl));intro gb120 hg w5 hbox hb;have n0_:=Aside0.mk (below_step (by repeat (first|(with_reducible first|exact HB.out|apply below_alloc|apply pw_below_drewN|apply below_drew1)|exact HB.out)) hb);have n1_:=Aside0.mk (hbox);have n2_:=Aside0.mk ((by rw [hg];exact (below_size (by repeat (first|(with_reducible first|exact HB.out|apply below_alloc|apply pw_below_drewN|apply below_drew1)|exact HB.out))) : w.heap.size ≤ gb120));have n3_:=Aside0.mk ((by rw [hg];exact (below_size (by repeat (first|(with_reducible first|exact HB.out|apply below_alloc|apply pw_below_drewN|apply below_drew1)|exact HB.out))) : w.heap.size ≤ gb120));clear HB;have HB:=n0_;have BK120:=n1_;have GW120:=n2_;have GE120:=n3_;clear n0_ n1_ n2_ n3_;clear hb hbox hg;have hcz6_0 : w5.cell? ⟨gb120,0,none⟩ = some (.int .i64 a0_0):=(blk_cell BK120.out 0).trans rfl;have hcz6_1 : w5.cell? ⟨gb120,1,none⟩ = some (.int .i64 a0_1):=(blk_cell BK120.out 1).trans rfl;have hcz6_2 : w5.cell? ⟨gb120,2,none⟩ = some (.string a0_2):=(blk_cell BK120.out 2).trans rfl;have hcz6_3 : w5.cell? ⟨gb120,3,none⟩ = some (.int .i64 a0_3):=(blk_cell BK120.out 3).trans rfl;have hcz6_4 : w5.cell? ⟨gb120,4,none⟩ = some (.slice A0_4 l0_4.length c0_4):=(blk_cell BK120.out 4).trans rfl;have hfz6_0:=blk_frozen BK120.out 0;have hfz6_1:=blk_frozen BK120.out 1;have hfz6_2:=blk_frozen BK120.out 2;have hfz6_3:=blk_frozen BK120.out 3;have hfz6_4:=blk_frozen BK120.out 4)|((with_reducible refine gate_dst (N:=9) rfl ?_);refine Kd.R_lit (Kd.int .u8) _ 5 ?hg (N:=9) ?hd (xs:=([(a0_0) % 256] : List Int)) (inner:=[.int .u8 ((a0_0) % 256)]) (ok:=fun _ => True) (okp:=fun _ => True) ?hr ?hp (fun _ hk => hk) trivial (Below.refl _ _) (Nat.le_refl _) (by simp) ?_;(case hd => rfl);(case hg => rfl);(case hr => first|(go_simp;done)|(go_simp;rfl));(case hp => exact (Reps.one (show Kd.M (Kd.int .u8) _ _ _ ((a0_0) % 256) [.int .u8 ((a0_0) % 256)] from rfl) (Reps.none _ _)));intro v122 w7 ho8 hb hg_ hnew_;clear hg_ hnew_;(first|rw [← Ny121.out] at ho8|(simp only [Int.reduceToNat] at ho8;rw [← Ny121.out] at ho8));have n0_:=Aside0.mk (Kd.R_lower ho8 (below_size (by repeat (first|(with_reducible first|exact HB.out|apply below_alloc|apply pw_below_drewN|apply below_drew1|refine below_set ?_ GE120.out)|exact HB.out))));have n1_:=Aside0.mk (blk_below (g:=gb120) (o := .cells #[.int .i64 a0_0, .int .i64 a0_1, .string a0_2, .int .i64 a0_3, .slice A0_4 l0_4.length c0_4] 24 (0,0)) (by (with_reducible repeat (first|refine blk_drewN ?_ _|refine blk_drew ?_|refine blk_alloc ?_ _));exact BK120.out) hb);have n2_:=Aside0.mk (below_step (by repeat (first|(with_reducible first|exact HB.out|apply below_alloc|apply pw_below_drewN|apply below_drew1|refine below_set ?_ GE120.out)|exact HB.out)) hb);clear BK120;clear HB;have HO123:=n0_;have BK120:=n1_;have HB:=n2_;clear n0_ n1_ n2_;clear hb ho8;have hcz9_0 : w7.cell? ⟨gb120,0,none⟩ = some (.int .i64 a0_0):=(blk_cell BK120.out 0).trans rfl;have hcz9_1 : w7.cell? ⟨gb120,1,none⟩ = some (.int .i64 a0_1):=(blk_cell BK120.out 1).trans rfl;have hcz9_2 : w7.cell? ⟨gb120,2,none⟩ = some (.string a0_2):=(blk_cell BK120.out 2).trans rfl;have hcz9_3 : w7.cell? ⟨gb120,3,none⟩ = some (.int .i64 a0_3):=(blk_cell BK120.out 3).trans rfl;have hcz9_4 : w7.cell? ⟨gb120,4,none⟩ = some (.slice A0_4 l0_4.length c0_4):=(blk_cell BK120.out 4).trans rfl;have hfz9_0:=blk_frozen BK120.out 0;have hfz9_1:=blk_frozen BK120.out 1;have hfz9_2:=blk_frozen BK120.out 2;have hfz9_3:=blk_frozen BK120.out 3;have hfz9_4:=blk_frozen BK120.out 4)|((with_reducible refine gate_callee (f:=19) rfl ?_);refine goesL_ (some 17) rfl rfl Try.func19 (by kernel_rfl) rfl #[.int .i64 a0_1] rfl (by (try simp only [List.map_toArray,List.map_cons,List.map_nil]);first|done|rfl|(simp only [List.length_drop,List.length_take];rfl)|(go_simp;done)|(go_simp;simp;done)) ?_;(with_reducible refine (codec_PutInt.calls k a0_1 t124 _ A3.out).mono ?_);rintro e w10 ⟨v125,rfl,ho0,hb⟩;refine ⟨_,rfl,?_⟩;have n0_:=Aside0.mk (Kd.R_elder' (by (with_reducible repeat (first|apply Kd.R_alloc|apply Kd.R_drewN|apply Kd.R_drew));exact HO123.out) (Kd.R_base ho0) hb);have n1_:=Aside0.mk (Kd.R_lower (Kd.R_new' ho0 (Kd.R_lt (by (with_reducible repeat (first|apply Kd.R_alloc|apply Kd.R_drewN|apply Kd.R_drew));exact HO123.out))) (below_size (by repeat (first|(with_reducible first|exact HB.out|apply below_alloc|apply pw_below_drewN|apply below_drew1|refine below_set ?_ GE120.out)|exact HB.out))));have n2_:=Aside0.mk (blk_below (g:=gb120) (o := .cells #[.int .i64 a0_0, .int .i64 a0_1, .string a0_2, .int .i64 a0_3, .slice A0_4 l0_4.length c0_4] 24 (0,0)) (by (with_reducible repeat (first|refine blk_drewN ?_ _|refine blk_drew ?_|refine blk_alloc ?_ _));exact BK120.out) hb);have n3_:=Aside0.mk (below_step (by repeat (first|(with_reducible first|exact HB.out|apply below_alloc|apply pw_below_drewN|apply below_drew1|refine below_set ?_ GE120.out)|exact HB.out)) hb);clear HO123;clear BK120;clear HB;have HO123:=n0_;have HO126:=n1_;have BK120:=n2_;have HB:=n3_;clear n0_ n1_ n2_ n3_;(try clear hb);(try clear hb2);(try clear hk);(try clear hi);(try clear ho0);obtain ⟨Ao12,co12,eo12⟩:=Kd.R_slice HO126.out;subst eo12)|((with_reducible refine gate_builtin (b := .append) (xs:=#[.tmp 14, .tmp 17]) rfl ?_);at_builtin;refine Kd.R_append_rows (Kd.int .u8) (w0:=w) w.heap.size rfl (.tmp 14) (.tmp 17) 30 5 (.int .u8 0) 1 rfl Try.underlying30 info5 rfl (by decide) (by omega) v122 y121 t124 _ _ _ (fun k_ => some k_ ≠ (.slice Ao12 t124.length co12 : Value).ownBlock) (fun _ => False) rfl rfl ?aO ?aR (fun _ _ h => h) (fun _ h => h.elim) ?aF ?aB ?aS ?aL ?_;(case aR => repeat (first|exact (Kd.R_reads' HO126.out).2.2|(with_reducible refine Kd.C_alloc ?_ _)|(with_reducible refine Kd.C_drewN ?_ _)|(with_reducible refine Kd.C_drew ?_)));(case aB => exact (by repeat (first|(with_reducible first|exact HB.out|apply below_alloc|apply pw_below_drewN|apply below_drew1|refine below_set ?_ GE120.out)|exact HB.out)));(case aF => exact (fun k_ hk => Kd.fresh' (Kd.R_lt (by (with_reducible repeat (first|apply Kd.R_alloc|apply Kd.R_drewN|apply Kd.R_drew));exact HO126.out)) k_ hk));(case aO => exact (by (with_reducible repeat (first|apply Kd.R_alloc|apply Kd.R_drewN|apply Kd.R_drew));exact Kd.R_mono HO123.out (fun _ hk => hk.2)));(case aS => exact (below_size (by repeat (first|(with_reducible first|exact HB.out|apply below_alloc|apply pw_below_drewN|apply below_drew1|refine below_set ?_ GE120.out)|exact HB.out))));(case aL => have:=LMc4.out;omega);intro v128 w11 ho hb hg hat;rw [← Ny127.out] at ho;have n0_:=Aside0.mk (blk_grown (g:=gb120) (o := .cells #[.int .i64 a0_0, .int .i64 a0_1, .string a0_2, .int .i64 a0_3, .slice A0_4 l0_4.length c0_4] 24 (0,0)) (by (with_reducible repeat (first|refine blk_drewN ?_ _|refine blk_drew ?_|refine blk_alloc ?_ _));exact BK120.out) hg (Kd.R_ne HO123.out BK120.out (by decide)));have n1_:=Aside0.mk (Kd.R_after (ok:=(fun _ => True)) (by (with_reducible repeat (first|apply Kd.R_alloc|apply Kd.R_drewN|apply Kd.R_drew));exact HO126.out) hg hat);have n2_:=Aside0.mk (hb);have n3_:=Aside0.mk (ho);clear BK120;clear HO126;clear HB;clear HO123;have BK120:=n0_;have HO126:=n1_;have HB:=n2_;have HO129:=n3_;clear n0_ n1_ n2_ n3_;clear ho hb hg hat))
   go_ret
   exact ⟨_,by first|rfl|(simp [errW_none,errW_some] <;> rfl)|(simp [*,errW_none,errW_some] <;> rfl),by (with_reducible repeat (first|apply Kd.R_alloc|apply Kd.R_drewN|apply Kd.R_drew));exact Kd.R_mono HO129.out (fun _ hk => trivial),by repeat (first|(with_reducible first|exact HB.out|apply below_alloc|apply pw_below_drewN|apply below_drew1|refine below_set ?_ GE120.out)|exact HB.out)⟩
  ·rw [if_neg c4] at H
   exact absurd H (by simp)
 ·rw [if_neg c2] at H
  have c2b0 : (a0_0 == 1) = false:=beq_eq_false_iff_ne.mpr c2
  have c2b1 : (a0_0 != 1) = true:=bne_iff_ne.mpr c2
  by_cases c13 : a0_0 = 2
  ·rw [if_pos c13] at H
   have c13b0 : (a0_0 == 2) = true:=beq_iff_eq.mpr c13
   have c13b1 : (a0_0 != 2) = false:=bne_eq_false_iff_eq.mpr c13
   clear c13
   replace H:=Option.bind_eq_some_iff.mp H
   obtain ⟨t130,A140,H⟩:=H
   replace H : (if y121.length + t130.length < 140737488355328 then (some (y121 ++ t130)) else (none)) = some r:=H
   have A14:=Aside0.mk A140
   clear A140
   by_cases c15 : y121.length + t130.length < 140737488355328
   ·rw [if_pos c15] at H
    have LMc15:=Aside0.mk c15
    clear c15
    obtain ⟨y133,hy133⟩ : ∃ y_ : List Int,y_ = (y121 ++ t130):=⟨_,rfl⟩
    replace H : (some y133) = some r:=by first|(rw [hy133];with_reducible exact H)|(have H2_:=(Option.bind_some _ _).symm.trans H;rw [hy133];with_reducible exact H2_)|(have H2_:=(Option.bind_some _ _).symm.trans H;with_reducible exact H2_)|with_reducible exact H|(rw [hy133];exact H)|exact H
    have Ny133:=Aside0.mk hy133
    clear hy133
    obtain rfl:=Option.some.inj H
    go_enter Try.func36,Try.ntmps36
    go_wp2_with (first|((with_reducible refine gate_dst (N:=1) rfl ?_);refine box_event ?hg (N:=1) ?hd (cs:=#[.int .i64 a0_0, .int .i64 a0_1, .string a0_2, .int .i64 a0_3, .slice A0_4 l0_4.length c0_4]) (t:=24) ?hr ?_;(case hd => rfl);(case hg => rfl);(case hr => first|(go_simp;done)|(go_simp;rfl));intro gb120 hg w16 hbox hb;have n0_:=Aside0.mk (below_step (by repeat (first|(with_reducible first|exact HB.out|apply below_alloc|apply pw_below_drewN|apply below_drew1)|exact HB.out)) hb);have n1_:=Aside0.mk (hbox);have n2_:=Aside0.mk ((by rw [hg];exact (below_size (by repeat (first|(with_reducible first|exact HB.out|apply below_alloc|apply pw_below_drewN|apply below_drew1)|exact HB.out))) : w.heap.size ≤ gb120));have n3_:=Aside0.mk ((by rw [hg];exact (below_size (by repeat (first|(with_reducible first|exact HB.out|apply below_alloc|apply pw_below_drewN|apply below_drew1)|exact HB.out))) : w.heap.size ≤ gb120));clear HB;have HB:=n0_;have BK120:=n1_;have GW120:=n2_;have GE120:=n3_;clear n0_ n1_ n2_ n3_;clear hb hbox hg;have hcz17_0 : w16.cell? ⟨gb120,0,none⟩ = some (.int .i64 a0_0):=(blk_cell BK120.out 0).trans rfl;have hcz17_1 : w16.cell? ⟨gb120,1,none⟩ = some (.int .i64 a0_1):=(blk_cell BK120.out 1).trans rfl;have hcz17_2 : w16.cell? ⟨gb120,2,none⟩ = some (.string a0_2):=(blk_cell BK120.out 2).trans rfl;have hcz17_3 : w16.cell? ⟨gb120,3,none⟩ = some (.int .i64 a0_3):=(blk_cell BK120.out 3).trans rfl;have hcz17_4 : w16.cell? ⟨gb120,4,none⟩ = some (.slice A0_4 l0_4.length c0_4):=(blk_cell BK120.out 4).trans rfl;have hfz17_0:=blk_frozen BK120.out 0;have hfz17_1:=blk_frozen BK120.out 1;have hfz17_2:=blk_frozen BK120.out 2;have hfz17_3:=blk_frozen BK120.out 3;have hfz17_4:=blk_frozen BK120.out 4)|((with_reducible refine gate_dst (N:=9) rfl ?_);refine Kd.R_lit (Kd.int .u8) _ 5 ?hg (N:=9) ?hd (xs:=([(a0_0) % 256] : List Int)) (inner:=[.int .u8 ((a0_0) % 256)]) (ok:=fun _ => True) (okp:=fun _ => True) ?hr ?hp (fun _ hk => hk) trivial (Below.refl _ _) (Nat.le_refl _) (by simp) ?_;(case hd => rfl);(case hg => rfl);(case hr => first|(go_simp;done)|(go_simp;rfl));(case hp => exact (Reps.one (show Kd.M (Kd.int .u8) _ _ _ ((a0_0) % 256) [.int .u8 ((a0_0) % 256)] from rfl) (Reps.none _ _)));intro v122 w18 ho19 hb hg_ hnew_;clear hg_ hnew_;(first|rw [← Ny121.out] at ho19|(simp only [Int.reduceToNat] at ho19;rw [← Ny121.out] at ho19));have n0_:=Aside0.mk (Kd.R_lower ho19 (below_size (by repeat (first|(with_reducible first|exact HB.out|apply below_alloc|apply pw_below_drewN|apply below_drew1|refine below_set ?_ GE120.out)|exact HB.out))));have n1_:=Aside0.mk (blk_below (g:=gb120) (o := .cells #[.int .i64 a0_0, .int .i64 a0_1, .string a0_2, .int .i64 a0_3, .slice A0_4 l0_4.length c0_4] 24 (0,0)) (by (with_reducible repeat (first|refine blk_drewN ?_ _|refine blk_drew ?_|refine blk_alloc ?_ _));exact BK120.out) hb);have n2_:=Aside0.mk (below_step (by repeat (first|(with_reducible first|exact HB.out|apply below_alloc|apply pw_below_drewN|apply below_drew1|refine below_set ?_ GE120.out)|exact HB.out)) hb);clear BK120;clear HB;have HO123:=n0_;have BK120:=n1_;have HB:=n2_;clear n0_ n1_ n2_;clear hb ho19;have hcz20_0 : w18.cell? ⟨gb120,0,none⟩ = some (.int .i64 a0_0):=(blk_cell BK120.out 0).trans rfl;have hcz20_1 : w18.cell? ⟨gb120,1,none⟩ = some (.int .i64 a0_1):=(blk_cell BK120.out 1).trans rfl;have hcz20_2 : w18.cell? ⟨gb120,2,none⟩ = some (.string a0_2):=(blk_cell BK120.out 2).trans rfl;have hcz20_3 : w18.cell? ⟨gb120,3,none⟩ = some (.int .i64 a0_3):=(blk_cell BK120.out 3).trans rfl;have hcz20_4 : w18.cell? ⟨gb120,4,none⟩ = some (.slice A0_4 l0_4.length c0_4):=(blk_cell BK120.out 4).trans rfl;have hfz20_0:=blk_frozen BK120.out 0;have hfz20_1:=blk_frozen BK120.out 1;have hfz20_2:=blk_frozen BK120.out 2;have hfz20_3:=blk_frozen BK120.out 3;have hfz20_4:=blk_frozen BK120.out 4)|((with_reducible refine gate_callee (f:=20) rfl ?_);refine goesL_ (some 24) rfl rfl Try.func20 (by kernel_rfl) rfl #[.string a0_2] rfl (by (try simp only [List.map_toArray,List.map_cons,List.map_nil]);first|done|rfl|(simp only [List.length_drop,List.length_take];rfl)|(go_simp;done)|(go_simp;simp;done)) ?_;(with_reducible refine (codec_PutText.calls k a0_2 t130 _ A14.out).mono ?_);rintro e w21 ⟨v131,rfl,ho0,hb⟩;refine ⟨_,rfl,?_⟩;have n0_:=Aside0.mk (Kd.R_elder' (by (with_reducible repeat (first|apply Kd.R_alloc|apply Kd.R_drewN|apply Kd.R_drew));exact HO123.out) (Kd.R_base ho0) hb);have n1_:=Aside0.mk (Kd.R_lower (Kd.R_new' ho0 (Kd.R_lt (by (with_reducible repeat (first|apply Kd.R_alloc|apply Kd.R_drewN|apply Kd.R_drew));exact HO123.out))) (below_size (by repeat (first|(with_reducible first|exact HB.out|apply below_alloc|apply pw_below_drewN|apply below_drew1|refine below_set ?_ GE120.out)|exact HB.out))));have n2_:=Aside0.mk (blk_below (g:=gb120) (o := .cells #[.int .i64 a0_0, .int .i64 a0_1, .string a0_2, .int .i64 a0_3, .slice A0_4 l0_4.length c0_4] 24 (0,0)) (by (with_reducible repeat (first|refine blk_drewN ?_ _|refine blk_drew ?_|refine blk_alloc ?_ _));exact BK120.out) hb);have n3_:=Aside0.mk (below_step (by repeat (first|(with_reducible first|exact HB.out|apply below_alloc|apply pw_below_drewN|apply below_drew1|refine below_set ?_ GE120.out)|exact HB.out)) hb);clear HO123;clear BK120;clear HB;have HO123:=n0_;have HO132:=n1_;have BK120:=n2_;have HB:=n3_;clear n0_ n1_ n2_ n3_;(try clear hb);(try clear hb2);(try clear hk);(try clear hi);(try clear ho0);obtain ⟨Ao23,co23,eo23⟩:=Kd.R_slice HO132.out;subst eo23)|((with_reducible refine gate_builtin (b := .append) (xs:=#[.tmp 21, .tmp 24]) rfl ?_);at_builtin;refine Kd.R_append_rows (Kd.int .u8) (w0:=w) w.heap.size rfl (.tmp 21) (.tmp 24) 30 5 (.int .u8 0) 1 rfl Try.underlying30 info5 rfl (by decide) (by omega) v122 y121 t130 _ _ _ (fun k_ => some k_ ≠ (.slice Ao23 t130.length co23 : Value).ownBlock) (fun _ => False) rfl rfl ?aO ?aR (fun _ _ h => h) (fun _ h => h.elim) ?aF ?aB ?aS ?aL ?_;(case aR => repeat (first|exact (Kd.R_reads' HO132.out).2.2|(with_reducible refine Kd.C_alloc ?_ _)|(with_reducible refine Kd.C_drewN ?_ _)|(with_reducible refine Kd.C_drew ?_)));(case aB => exact (by repeat (first|(with_reducible first|exact HB.out|apply below_alloc|apply pw_below_drewN|apply below_drew1|refine below_set ?_ GE120.out)|exact HB.out)));(case aF => exact (fun k_ hk => Kd.fresh' (Kd.R_lt (by (with_reducible repeat (first|apply Kd.R_alloc|apply Kd.R_drewN|apply Kd.R_drew));exact HO132.out)) k_ hk));(case aO => exact (by (with_reducible repeat (first|apply Kd.R_alloc|apply Kd.R_drewN|apply Kd.R_drew));exact Kd.R_mono HO123.out (fun _ hk => hk.2)));(case aS => exact (below_size (by repeat (first|(with_reducible first|exact HB.out|apply below_alloc|apply pw_below_drewN|apply below_drew1|refine below_set ?_ GE120.out)|exact HB.out))));(case aL => have:=LMc15.out;omega);intro v134 w22 ho hb hg hat;rw [← Ny133.out] at ho;have n0_:=Aside0.mk (blk_grown (g:=gb120) (o := .cells #[.int .i64 a0_0, .int .i64 a0_1, .string a0_2, .int .i64 a0_3, .slice A0_4 l0_4.length c0_4] 24 (0,0)) (by (with_reducible repeat (first|refine blk_drewN ?_ _|refine blk_drew ?_|refine blk_alloc ?_ _));exact BK120.out) hg (Kd.R_ne HO123.out BK120.out (by decide)));have n1_:=Aside0.mk (Kd.R_after (ok:=(fun _ => True)) (by (with_reducible repeat (first|apply Kd.R_alloc|apply Kd.R_drewN|apply Kd.R_drew));exact HO132.out) hg hat);have n2_:=Aside0.mk (hb);have n3_:=Aside0.mk (ho);clear BK120;clear HO132;clear HB;clear HO123;have BK120:=n0_;have HO132:=n1_;have HB:=n2_;have HO135:=n3_;clear n0_ n1_ n2_ n3_;clear ho hb hg hat))
    go_ret
    exact ⟨_,by first|rfl|(simp [errW_none,errW_some] <;> rfl)|(simp [*,errW_none,errW_some] <;> rfl),by (with_reducible repeat (first|apply Kd.R_alloc|apply Kd.R_drewN|apply Kd.R_drew));exact Kd.R_mono HO135.out (fun _ hk => trivial),by repeat (first|(with_reducible first|exact HB.out|apply below_alloc|apply pw_below_drewN|apply below_drew1|refine below_set ?_ GE120.out)|exact HB.out)⟩
   ·rw [if_neg c15] at H
    exact absurd H (by simp)
  ·rw [if_neg c13] at H
   have c13b0 : (a0_0 == 2) = false:=beq_eq_false_iff_ne.mpr c13
   have c13b1 : (a0_0 != 2) = true:=bne_iff_ne.mpr c13
   by_cases c24 : a0_0 = 3
   ·rw [if_pos c24] at H
    have c24b0 : (a0_0 == 3) = true:=beq_iff_eq.mpr c24
    have c24b1 : (a0_0 != 3) = false:=bne_eq_false_iff_eq.mpr c24
    clear c24
    by_cases c25 : y121.length < 140737488355328
    ·rw [if_pos c25] at H
     have LMc25:=Aside0.mk c25
     clear c25
     obtain ⟨y136,hy136⟩ : ∃ y_ : List Int,y_ = (y121 ++ [(a0_1) % 256]):=⟨_,rfl⟩
     replace H : (some y136) = some r:=by first|(rw [hy136];with_reducible exact H)|(have H2_:=(Option.bind_some _ _).symm.trans H;rw [hy136];with_reducible exact H2_)|(have H2_:=(Option.bind_some _ _).symm.trans H;with_reducible exact H2_)|with_reducible exact H|(rw [hy136];exact H)|exact H
     have Ny136:=Aside0.mk hy136
     clear hy136
     obtain rfl:=Option.some.inj H
     go_enter Try.func36,Try.ntmps36
     go_wp2_with (first|((with_reducible refine gate_dst (N:=1) rfl ?_);refine box_event ?hg (N:=1) ?hd (cs:=#[.int .i64 a0_0, .int .i64 a0_1, .string a0_2, .int .i64 a0_3, .slice A0_4 l0_4.length c0_4]) (t:=24) ?hr ?_;(case hd => rfl);(case hg => rfl);(case hr => first|(go_simp;done)|(go_simp;rfl));intro gb120 hg w26 hbox hb;have n0_:=Aside0.mk (below_step (by repeat (first|(with_reducible first|exact HB.out|apply below_alloc|apply pw_below_drewN|apply below_drew1)|exact HB.out)) hb);have n1_:=Aside0.mk (hbox);have n2_:=Aside0.mk ((by rw [hg];exact (below_size (by repeat (first|(with_reducible first|exact HB.out|apply below_alloc|apply pw_below_drewN|apply below_drew1)|exact HB.out))) : w.heap.size ≤ gb120));have n3_:=Aside0.mk ((by rw [hg];exact (below_size (by repeat (first|(with_reducible first|exact HB.out|apply below_alloc|apply pw_below_drewN|apply below_drew1)|exact HB.out))) : w.heap.size ≤ gb120));clear HB;have HB:=n0_;have BK120:=n1_;have GW120:=n2_;have GE120:=n3_;clear n0_ n1_ n2_ n3_;clear hb hbox hg;have hcz27_0 : w26.cell? ⟨gb120,0,none⟩ = some (.int .i64 a0_0):=(blk_cell BK120.out 0).trans rfl;have hcz27_1 : w26.cell? ⟨gb120,1,none⟩ = some (.int .i64 a0_1):=(blk_cell BK120.out 1).trans rfl;have hcz27_2 : w26.cell? ⟨gb120,2,none⟩ = some (.string a0_2):=(blk_cell BK120.out 2).trans rfl;have hcz27_3 : w26.cell? ⟨gb120,3,none⟩ = some (.int .i64 a0_3):=(blk_cell BK120.out 3).trans rfl;have hcz27_4 : w26.cell? ⟨gb120,4,none⟩ = some (.slice A0_4 l0_4.length c0_4):=(blk_cell BK120.out 4).trans rfl;have hfz27_0:=blk_frozen BK120.out 0;have hfz27_1:=blk_frozen BK120.out 1;have hfz27_2:=blk_frozen BK120.out 2;have hfz27_3:=blk_frozen BK120.out 3;have hfz27_4:=blk_frozen BK120.out 4)|((with_reducible refine gate_dst (N:=9) rfl ?_);refine Kd.R_lit (Kd.int .u8) _ 5 ?hg (N:=9) ?hd (xs:=([(a0_0) % 256] : List Int)) (inner:=[.int .u8 ((a0_0) % 256)]) (ok:=fun _ => True) (okp:=fun _ => True) ?hr ?hp (fun _ hk => hk) trivial (Below.refl _ _) (Nat.le_refl _) (by simp) ?_;(case hd => rfl);(case hg => rfl);(case hr => first|(go_simp;done)|(go_simp;rfl));(case hp => exact (Reps.one (show Kd.M (Kd.int .u8) _ _ _ ((a0_0) % 256) [.int .u8 ((a0_0) % 256)] from rfl) (Reps.none _ _)));intro v122 w28 ho29 hb hg_ hnew_;clear hg_ hnew_;(first|rw [← Ny121.out] at ho29|(simp only [Int.reduceToNat] at ho29;rw [← Ny121.out] at ho29));have n0_:=Aside0.mk (Kd.R_lower ho29 (below_size (by repeat (first|(with_reducible first|exact HB.out|apply below_alloc|apply pw_below_drewN|apply below_drew1|refine below_set ?_ GE120.out)|exact HB.out))));have n1_:=Aside0.mk (blk_below (g:=gb120) (o := .cells #[.int .i64 a0_0, .int .i64 a0_1, .string a0_2, .int .i64 a0_3, .slice A0_4 l0_4.length c0_4] 24 (0,0)) (by (with_reducible repeat (first|refine blk_drewN ?_ _|refine blk_drew ?_|refine blk_alloc ?_ _));exact BK120.out) hb);have n2_:=Aside0.mk (below_step (by repeat (first|(with_reducible first|exact HB.out|apply below_alloc|apply pw_below_drewN|apply below_drew1|refine below_set ?_ GE120.out)|exact HB.out)) hb);clear BK120;clear HB;have HO123:=n0_;have BK120:=n1_;have HB:=n2_;clear n0_ n1_ n2_;clear hb ho29;have hcz30_0 : w28.cell? ⟨gb120,0,none⟩ = some (.int .i64 a0_0):=(blk_cell BK120.out 0).trans rfl;have hcz30_1 : w28.cell? ⟨gb120,1,none⟩ = some (.int .i64 a0_1):=(blk_cell BK120.out 1).trans rfl;have hcz30_2 : w28.cell? ⟨gb120,2,none⟩ = some (.string a0_2):=(blk_cell BK120.out 2).trans rfl;have hcz30_3 : w28.cell? ⟨gb120,3,none⟩ = some (.int .i64 a0_3):=(blk_cell BK120.out 3).trans rfl;have hcz30_4 : w28.cell? ⟨gb120,4,none⟩ = some (.slice A0_4 l0_4.length c0_4):=(blk_cell BK120.out 4).trans rfl;have hfz30_0:=blk_frozen BK120.out 0;have hfz30_1:=blk_frozen BK120.out 1;have hfz30_2:=blk_frozen BK120.out 2;have hfz30_3:=blk_frozen BK120.out 3;have hfz30_4:=blk_frozen BK120.out 4)|((with_reducible refine gate_builtin (b := .append) (xs:=#[.tmp 28, .tmp 32]) rfl ?_);at_builtin;refine Kd.R_append (Kd.int .u8) (w0:=w) w.heap.size rfl (.tmp 28) (.tmp 32) 30 5 (.int .u8 0) 1 rfl Try.underlying30 info5 rfl (by decide) (by omega) v122 y121 ((a0_1) % 256) [.int .u8 ((a0_1) % 256)] (fun _ => True) (fun _ => False) rfl rfl ?aP (fun _ hk => hk.elim) ?aF ?aO ?aB ?aS ?aL ?_;(case aP => exact rfl);(case aB => exact (by repeat (first|(with_reducible first|exact HB.out|apply below_alloc|apply pw_below_drewN|apply below_drew1|refine below_set ?_ GE120.out)|exact HB.out)));(case aF => exact (fun _ _ => trivial));(case aO => exact (by (with_reducible repeat (first|apply Kd.R_alloc|apply Kd.R_drewN|apply Kd.R_drew));exact HO123.out));(case aS => exact (below_size (by repeat (first|(with_reducible first|exact HB.out|apply below_alloc|apply pw_below_drewN|apply below_drew1|refine below_set ?_ GE120.out)|exact HB.out))));(case aL => have:=LMc25.out;omega);intro v137 w31 ho hb hg hat;rw [← Ny136.out] at ho;have n0_:=Aside0.mk (blk_grown (g:=gb120) (o := .cells #[.int .i64 a0_0, .int .i64 a0_1, .string a0_2, .int .i64 a0_3, .slice A0_4 l0_4.length c0_4] 24 (0,0)) (by (with_reducible repeat (first|refine blk_drewN ?_ _|refine blk_drew ?_|refine blk_alloc ?_ _));exact BK120.out) hg (Kd.R_ne HO123.out BK120.out (by decide)));have n1_:=Aside0.mk (hb);have n2_:=Aside0.mk (ho);clear BK120;clear HB;clear HO123;have BK120:=n0_;have HB:=n1_;have HO138:=n2_;clear n0_ n1_ n2_;clear ho hb hg hat))
     go_ret
     exact ⟨_,by first|rfl|(simp [errW_none,errW_some] <;> rfl)|(simp [*,errW_none,errW_some] <;> rfl),by (with_reducible repeat (first|apply Kd.R_alloc|apply Kd.R_drewN|apply Kd.R_drew));exact HO138.out,by repeat (first|(with_reducible first|exact HB.out|apply below_alloc|apply pw_below_drewN|apply below_drew1|refine below_set ?_ GE120.out)|exact HB.out)⟩
    ·rw [if_neg c25] at H
     exact absurd H (by simp)
   ·rw [if_neg c24] at H
    have c24b0 : (a0_0 == 3) = false:=beq_eq_false_iff_ne.mpr c24
    have c24b1 : (a0_0 != 3) = true:=bne_iff_ne.mpr c24
    replace H:=Option.bind_eq_some_iff.mp H
    obtain ⟨t139,A320,H⟩:=H
    replace H : (if y121.length + t139.length < 140737488355328 then ((some (y121 ++ t139 : List Int)).bind fun y142 => ((codec_PutUint.f k (IntKind.u64.wrap ((l0_4.length : Int)))).bind fun t145 => (if y142.length + t145.length < 140737488355328 then (codec_put.l0 k (y142 ++ t145) l0_4 (l0_4.length : Int) 0) else (none)))) else (none)) = some r:=H
    have A32:=Aside0.mk A320
    clear A320
    by_cases c33 : y121.length + t139.length < 140737488355328
    ·rw [if_pos c33] at H
     have LMc33:=Aside0.mk c33
     clear c33
     obtain ⟨y142,hy142⟩ : ∃ y_ : List Int,y_ = (y121 ++ t139):=⟨_,rfl⟩
     replace H : ((codec_PutUint.f k (IntKind.u64.wrap ((l0_4.length : Int)))).bind fun t145 => (if y142.length + t145.length < 140737488355328 then (codec_put.l0 k (y142 ++ t145) l0_4 (l0_4.length : Int) 0) else (none))) = some r:=by first|(rw [hy142];with_reducible exact H)|(have H2_:=(Option.bind_some _ _).symm.trans H;rw [hy142];with_reducible exact H2_)|(have H2_:=(Option.bind_some _ _).symm.trans H;with_reducible exact H2_)|with_reducible exact H|(rw [hy142];exact H)|exact H
     have Ny142:=Aside0.mk hy142
     clear hy142
     replace H:=Option.bind_eq_some_iff.mp H
     obtain ⟨t145,A340,H⟩:=H
     replace H : (if y142.length + t145.length < 140737488355328 then (codec_put.l0 k (y142 ++ t145) l0_4 (l0_4.length : Int) 0) else (none)) = some r:=H
     have A34:=Aside0.mk A340
     clear A340
     by_cases c35 : y142.length + t145.length < 140737488355328
     ·rw [if_pos c35] at H
      have LMc35:=Aside0.mk c35
      clear c35
      obtain ⟨y148,hy148⟩ : ∃ y_ : List Int,y_ = (y142 ++ t145):=⟨_,rfl⟩
      replace H : (codec_put.l0 k y148 l0_4 (l0_4.length : Int) 0) = some r:=by first|(rw [hy148];with_reducible exact H)|(have H2_:=(Option.bind_some _ _).symm.trans H;rw [hy148];with_reducible exact H2_)|(have H2_:=(Option.bind_some _ _).symm.trans H;with_reducible exact H2_)|with_reducible exact H|(rw [hy148];exact H)|exact H
      have Ny148:=Aside0.mk hy148
      clear hy148
      have H':=Aside0.mk H
      clear H
      go_enter Try.func36,Try.ntmps36
      go_wp2_with (first|((with_reducible refine gate_dst (N:=1) rfl ?_);refine box_event ?hg (N:=1) ?hd (cs:=#[.int .i64 a0_0, .int .i64 a0_1, .string a0_2, .int .i64 a0_3, .slice A0_4 l0_4.length c0_4]) (t:=24) ?hr ?_;(case hd => rfl);(case hg => rfl);(case hr => first|(go_simp;done)|(go_simp;rfl));intro gb120 hg w36 hbox hb;have n0_:=Aside0.mk (below_step (by repeat (first|(with_reducible first|exact HB.out|apply below_alloc|apply pw_below_drewN|apply below_drew1)|exact HB.out)) hb);have n1_:=Aside0.mk (hbox);have n2_:=Aside0.mk ((by rw [hg];exact (below_size (by repeat (first|(with_reducible first|exact HB.out|apply below_alloc|apply pw_below_drewN|apply below_drew1)|exact HB.out))) : w.heap.size ≤ gb120));have n3_:=Aside0.mk ((by rw [hg];exact (below_size (by repeat (first|(with_reducible first|exact HB.out|apply below_alloc|apply pw_below_drewN|apply below_drew1)|exact HB.out))) : w.heap.size ≤ gb120));clear HB;have HB:=n0_;have BK120:=n1_;have GW120:=n2_;have GE120:=n3_;clear n0_ n1_ n2_ n3_;clear hb hbox hg;have hcz37_0 : w36.cell? ⟨gb120,0,none⟩ = some (.int .i64 a0_0):=(blk_cell BK120.out 0).trans rfl;have hcz37_1 : w36.cell? ⟨gb120,1,none⟩ = some (.int .i64 a0_1):=(blk_cell BK120.out 1).trans rfl;have hcz37_2 : w36.cell? ⟨gb120,2,none⟩ = some (.string a0_2):=(blk_cell BK120.out 2).trans rfl;have hcz37_3 : w36.cell? ⟨gb120,3,none⟩ = some (.int .i64 a0_3):=(blk_cell BK120.out 3).trans rfl;have hcz37_4 : w36.cell? ⟨gb120,4,none⟩ = some (.slice A0_4 l0_4.length c0_4):=(blk_cell BK120.out 4).trans rfl;have hfz37_0:=blk_frozen BK120.out 0;have hfz37_1:=blk_frozen BK120.out 1;have hfz37_2:=blk_frozen BK120.out 2;have hfz37_3:=blk_frozen BK120.out 3;have hfz37_4:=blk_frozen BK120.out 4)|((with_reducible refine gate_dst (N:=9) rfl ?_);refine Kd.R_lit (Kd.int .u8) _ 5 ?hg (N:=9) ?hd (xs:=([(a0_0) % 256] : List Int)) (inner:=[.int .u8 ((a0_0) % 256)]) (ok:=fun _ => True) (okp:=fun _ => True) ?hr ?hp (fun _ hk => hk) trivial (Below.refl _ _) (Nat.le_refl _) (by simp) ?_;(case hd => rfl);(case hg => rfl);(case hr => first|(go_simp;done)|(go_simp;rfl));(case hp => exact (Reps.one (show Kd.M (Kd.int .u8) _ _ _ ((a0_0) % 256) [.int .u8 ((a0_0) % 256)] from rfl) (Reps.none _ _)));intro v122 w38 ho39 hb hg_ hnew_;clear hg_ hnew_;(first|rw [← Ny121.out] at ho39|(simp only [Int.reduceToNat] at ho39;rw [← Ny121.out] at ho39));have n0_:=Aside0.mk (Kd.R_lower ho39 (below_size (by repeat (first|(with_reducible first|exact HB.out|apply below_alloc|apply pw_below_drewN|apply below_drew1|refine below_set ?_ GE120.out)|exact HB.out))));have n1_:=Aside0.mk (blk_below (g:=gb120) (o := .cells #[.int .i64 a0_0, .int .i64 a0_1, .string a0_2, .int .i64 a0_3, .slice A0_4 l0_4.length c0_4] 24 (0,0)) (by (with_reducible repeat (first|refine blk_drewN ?_ _|refine blk_drew ?_|refine blk_alloc ?_ _));exact BK120.out) hb);have n2_:=Aside0.mk (below_step (by repeat (first|(with_reducible first|exact HB.out|apply below_alloc|apply pw_below_drewN|apply below_drew1|refine below_set ?_ GE120.out)|exact HB.out)) hb);clear BK120;clear HB;have HO123:=n0_;have BK120:=n1_;have HB:=n2_;clear n0_ n1_ n2_;clear hb ho39;have hcz40_0 : w38.cell? ⟨gb120,0,none⟩ = some (.int .i64 a0_0):=(blk_cell BK120.out 0).trans rfl;have hcz40_1 : w38.cell? ⟨gb120,1,none⟩ = some (.int .i64 a0_1):=(blk_cell BK120.out 1).trans rfl;have hcz40_2 : w38.cell? ⟨gb120,2,none⟩ = some (.string a0_2):=(blk_cell BK120.out 2).trans rfl;have hcz40_3 : w38.cell? ⟨gb120,3,none⟩ = some (.int .i64 a0_3):=(blk_cell BK120.out 3).trans rfl;have hcz40_4 : w38.cell? ⟨gb120,4,none⟩ = some (.slice A0_4 l0_4.length c0_4):=(blk_cell BK120.out 4).trans rfl;have hfz40_0:=blk_frozen BK120.out 0;have hfz40_1:=blk_frozen BK120.out 1;have hfz40_2:=blk_frozen BK120.out 2;have hfz40_3:=blk_frozen BK120.out 3;have hfz40_4:=blk_frozen BK120.out 4)|((with_reducible refine gate_callee (f:=17) rfl ?_);refine goesL_ (some 38) rfl rfl Try.func17 (by kernel_rfl) rfl #[.int .u64 (IntKind.u64.wrap (a0_3))] rfl (by (try simp only [List.map_toArray,List.map_cons,List.map_nil]);first|done|rfl|(simp only [List.length_drop,List.length_take];rfl)|(go_simp;done)|(go_simp;simp;done)) ?_;(with_reducible refine (codec_PutUint.calls k (IntKind.u64.wrap (a0_3)) t139 _ A32.out).mono ?_);rintro e w41 ⟨v140,rfl,ho0,hb⟩;refine ⟨_,rfl,?_⟩;have n0_:=Aside0.mk (Kd.R_elder' (by (with_reducible repeat (first|apply Kd.R_alloc|apply Kd.R_drewN|apply Kd.R_drew));exact HO123.out) (Kd.R_base ho0) hb);have n1_:=Aside0.mk (Kd.R_lower (Kd.R_new' ho0 (Kd.R_lt (by (with_reducible repeat (first|apply Kd.R_alloc|apply Kd.R_drewN|apply Kd.R_drew));exact HO123.out))) (below_size (by repeat (first|(with_reducible first|exact HB.out|apply below_alloc|apply pw_below_drewN|apply below_drew1|refine below_set ?_ GE120.out)|exact HB.out))));have n2_:=Aside0.mk (blk_below (g:=gb120) (o := .cells #[.int .i64 a0_0, .int .i64 a0_1, .string a0_2, .int .i64 a0_3, .slice A0_4 l0_4.length c0_4] 24 (0,0)) (by (with_reducible repeat (first|refine blk_drewN ?_ _|refine blk_drew ?_|refine blk_alloc ?_ _));exact BK120.out) hb);have n3_:=Aside0.mk (below_step (by repeat (first|(with_reducible first|exact HB.out|apply below_alloc|apply pw_below_drewN|apply below_drew1|refine below_set ?_ GE120.out)|exact HB.out)) hb);clear HO123;clear BK120;clear HB;have HO123:=n0_;have HO141:=n1_;have BK120:=n2_;have HB:=n3_;clear n0_ n1_ n2_ n3_;(try clear hb);(try clear hb2);(try clear hk);(try clear hi);(try clear ho0);obtain ⟨Ao43,co43,eo43⟩:=Kd.R_slice HO141.out;subst eo43)|((with_reducible refine gate_builtin (b := .append) (xs:=#[.tmp 34, .tmp 38]) rfl ?_);at_builtin;refine Kd.R_append_rows (Kd.int .u8) (w0:=w) w.heap.size rfl (.tmp 34) (.tmp 38) 30 5 (.int .u8 0) 1 rfl Try.underlying30 info5 rfl (by decide) (by omega) v122 y121 t139 _ _ _ (fun k_ => some k_ ≠ (.slice Ao43 t139.length co43 : Value).ownBlock) (fun _ => False) rfl rfl ?aO ?aR (fun _ _ h => h) (fun _ h => h.elim) ?aF ?aB ?aS ?aL ?_;(case aR => repeat (first|exact (Kd.R_reads' HO141.out).2.2|(with_reducible refine Kd.C_alloc ?_ _)|(with_reducible refine Kd.C_drewN ?_ _)|(with_reducible refine Kd.C_drew ?_)));(case aB => exact (by repeat (first|(with_reducible first|exact HB.out|apply below_alloc|apply pw_below_drewN|apply below_drew1|refine below_set ?_ GE120.out)|exact HB.out)));(case aF => exact (fun k_ hk => Kd.fresh' (Kd.R_lt (by (with_reducible repeat (first|apply Kd.R_alloc|apply Kd.R_drewN|apply Kd.R_drew));exact HO141.out)) k_ hk));(case aO => exact (by (with_reducible repeat (first|apply Kd.R_alloc|apply Kd.R_drewN|apply Kd.R_drew));exact Kd.R_mono HO123.out (fun _ hk => hk.2)));(case aS => exact (below_size (by repeat (first|(with_reducible first|exact HB.out|apply below_alloc|apply pw_below_drewN|apply below_drew1|refine below_set ?_ GE120.out)|exact HB.out))));(case aL => have:=LMc33.out;omega);intro v143 w42 ho hb hg hat;rw [← Ny142.out] at ho;have n0_:=Aside0.mk (blk_grown (g:=gb120) (o := .cells #[.int .i64 a0_0, .int .i64 a0_1, .string a0_2, .int .i64 a0_3, .slice A0_4 l0_4.length c0_4] 24 (0,0)) (by (with_reducible repeat (first|refine blk_drewN ?_ _|refine blk_drew ?_|refine blk_alloc ?_ _));exact BK120.out) hg (Kd.R_ne HO123.out BK120.out (by decide)));have n1_:=Aside0.mk (Kd.R_after (ok:=(fun _ => True)) (by (with_reducible repeat (first|apply Kd.R_alloc|apply Kd.R_drewN|apply Kd.R_drew));exact HO141.out) hg hat);have n2_:=Aside0.mk (hb);have n3_:=Aside0.mk (ho);clear BK120;clear HO141;clear HB;clear HO123;have BK120:=n0_;have HO141:=n1_;have HB:=n2_;have HO144:=n3_;clear n0_ n1_ n2_ n3_;clear ho hb hg hat;have hcz44_0 : w42.cell? ⟨gb120,0,none⟩ = some (.int .i64 a0_0):=(blk_cell BK120.out 0).trans rfl;have hcz44_1 : w42.cell? ⟨gb120,1,none⟩ = some (.int .i64 a0_1):=(blk_cell BK120.out 1).trans rfl;have hcz44_2 : w42.cell? ⟨gb120,2,none⟩ = some (.string a0_2):=(blk_cell BK120.out 2).trans rfl;have hcz44_3 : w42.cell? ⟨gb120,3,none⟩ = some (.int .i64 a0_3):=(blk_cell BK120.out 3).trans rfl;have hcz44_4 : w42.cell? ⟨gb120,4,none⟩ = some (.slice A0_4 l0_4.length c0_4):=(blk_cell BK120.out 4).trans rfl;have hfz44_0:=blk_frozen BK120.out 0;have hfz44_1:=blk_frozen BK120.out 1;have hfz44_2:=blk_frozen BK120.out 2;have hfz44_3:=blk_frozen BK120.out 3;have hfz44_4:=blk_frozen BK120.out 4)|((with_reducible refine gate_callee (f:=17) rfl ?_);refine goesL_ (some 45) rfl rfl Try.func17 (by kernel_rfl) rfl #[.int .u64 (IntKind.u64.wrap ((l0_4.length : Int)))] rfl (by (try simp only [List.map_toArray,List.map_cons,List.map_nil]);first|done|rfl|(simp only [List.length_drop,List.length_take];rfl)|(go_simp;done)|(go_simp;simp;done)) ?_;(with_reducible refine (codec_PutUint.calls k (IntKind.u64.wrap ((l0_4.length : Int))) t145 _ A34.out).mono ?_);rintro e w45 ⟨v146,rfl,ho0,hb⟩;refine ⟨_,rfl,?_⟩;have n0_:=Aside0.mk (Kd.R_elder' (by (with_reducible repeat (first|apply Kd.R_alloc|apply Kd.R_drewN|apply Kd.R_drew));exact HO141.out) (Kd.R_base ho0) hb);have n1_:=Aside0.mk (Kd.R_elder' (by (with_reducible repeat (first|apply Kd.R_alloc|apply Kd.R_drewN|apply Kd.R_drew));exact HO144.out) (Kd.R_base ho0) hb);have n2_:=Aside0.mk (Kd.R_lower (Kd.R_new' (Kd.R_new' ho0 (Kd.R_lt (by (with_reducible repeat (first|apply Kd.R_alloc|apply Kd.R_drewN|apply Kd.R_drew));exact HO141.out))) (Kd.R_lt (by (with_reducible repeat (first|apply Kd.R_alloc|apply Kd.R_drewN|apply Kd.R_drew));exact HO144.out))) (below_size (by repeat (first|(with_reducible first|exact HB.out|apply below_alloc|apply pw_below_drewN|apply below_drew1|refine below_set ?_ GE120.out)|exact HB.out))));have n3_:=Aside0.mk (blk_below (g:=gb120) (o := .cells #[.int .i64 a0_0, .int .i64 a0_1, .string a0_2, .int .i64 a0_3, .slice A0_4 l0_4.length c0_4] 24 (0,0)) (by (with_reducible repeat (first|refine blk_drewN ?_ _|refine blk_drew ?_|refine blk_alloc ?_ _));exact BK120.out) hb);have n4_:=Aside0.mk (below_step (by repeat (first|(with_reducible first|exact HB.out|apply below_alloc|apply pw_below_drewN|apply below_drew1|refine below_set ?_ GE120.out)|exact HB.out)) hb);clear HO141;clear HO144;clear BK120;clear HB;have HO141:=n0_;have HO144:=n1_;have HO147:=n2_;have BK120:=n3_;have HB:=n4_;clear n0_ n1_ n2_ n3_ n4_;(try clear hb);(try clear hb2);(try clear hk);(try clear hi);(try clear ho0);obtain ⟨Ao47,co47,eo47⟩:=Kd.R_slice HO147.out;subst eo47)|((with_reducible refine gate_builtin (b := .append) (xs:=#[.tmp 40, .tmp 45]) rfl ?_);at_builtin;refine Kd.R_append_rows (Kd.int .u8) (w0:=w) w.heap.size rfl (.tmp 40) (.tmp 45) 30 5 (.int .u8 0) 1 rfl Try.underlying30 info5 rfl (by decide) (by omega) v143 y142 t145 _ _ _ (fun k_ => some k_ ≠ (.slice Ao43 t139.length co43 : Value).ownBlock ∧ some k_ ≠ (.slice Ao47 t145.length co47 : Value).ownBlock) (fun _ => False) rfl rfl ?aO ?aR (fun _ _ h => h) (fun _ h => h.elim) ?aF ?aB ?aS ?aL ?_;(case aR => repeat (first|exact (Kd.R_reads' HO147.out).2.2|(with_reducible refine Kd.C_alloc ?_ _)|(with_reducible refine Kd.C_drewN ?_ _)|(with_reducible refine Kd.C_drew ?_)));(case aB => exact (by repeat (first|(with_reducible first|exact HB.out|apply below_alloc|apply pw_below_drewN|apply below_drew1|refine below_set ?_ GE120.out)|exact HB.out)));(case aF => exact (fun k_ hk => ⟨Kd.fresh' (Kd.R_lt (by (with_reducible repeat (first|apply Kd.R_alloc|apply Kd.R_drewN|apply Kd.R_drew));exact HO141.out)) k_ hk,Kd.fresh' (Kd.R_lt (by (with_reducible repeat (first|apply Kd.R_alloc|apply Kd.R_drewN|apply Kd.R_drew));exact HO147.out)) k_ hk⟩));(case aO => exact (by (with_reducible repeat (first|apply Kd.R_alloc|apply Kd.R_drewN|apply Kd.R_drew));exact HO144.out));(case aS => exact (below_size (by repeat (first|(with_reducible first|exact HB.out|apply below_alloc|apply pw_below_drewN|apply below_drew1|refine below_set ?_ GE120.out)|exact HB.out))));(case aL => have:=LMc35.out;omega);intro v149 w46 ho hb hg hat;rw [← Ny148.out] at ho;have n0_:=Aside0.mk (blk_grown (g:=gb120) (o := .cells #[.int .i64 a0_0, .int .i64 a0_1, .string a0_2, .int .i64 a0_3, .slice A0_4 l0_4.length c0_4] 24 (0,0)) (by (with_reducible repeat (first|refine blk_drewN ?_ _|refine blk_drew ?_|refine blk_alloc ?_ _));exact BK120.out) hg (Kd.R_ne HO144.out BK120.out (by decide)));have n1_:=Aside0.mk (Kd.R_after (ok:=(fun k_ => some k_ ≠ (.slice Ao47 t145.length co47 : Value).ownBlock)) (by (with_reducible repeat (first|apply Kd.R_alloc|apply Kd.R_drewN|apply Kd.R_drew));exact Kd.R_mono HO141.out (fun _ hk => ⟨hk.2,hk.1.2⟩)) hg hat);have n2_:=Aside0.mk (Kd.R_after (ok:=(fun k_ => some k_ ≠ (.slice Ao43 t139.length co43 : Value).ownBlock)) (by (with_reducible repeat (first|apply Kd.R_alloc|apply Kd.R_drewN|apply Kd.R_drew));exact Kd.R_mono HO147.out (fun _ hk => ⟨hk.1.2,hk.2⟩)) hg hat);have n3_:=Aside0.mk (hb);have n4_:=Aside0.mk (ho);clear BK120;clear HO141;clear HO147;clear HB;clear HO144;have BK120:=n0_;have HO141:=n1_;have HO147:=n2_;have HB:=n3_;have HO150:=n4_;clear n0_ n1_ n2_ n3_ n4_;clear ho hb hg hat;have hcz48_0 : w46.cell? ⟨gb120,0,none⟩ = some (.int .i64 a0_0):=(blk_cell BK120.out 0).trans rfl;have hcz48_1 : w46.cell? ⟨gb120,1,none⟩ = some (.int .i64 a0_1):=(blk_cell BK120.out 1).trans rfl;have hcz48_2 : w46.cell? ⟨gb120,2,none⟩ = some (.string a0_2):=(blk_cell BK120.out 2).trans rfl;have hcz48_3 : w46.cell? ⟨gb120,3,none⟩ = some (.int .i64 a0_3):=(blk_cell BK120.out 3).trans rfl;have hcz48_4 : w46.cell? ⟨gb120,4,none⟩ = some (.slice A0_4 l0_4.length c0_4):=(blk_cell BK120.out 4).trans rfl;have hfz48_0:=blk_frozen BK120.out 0;have hfz48_1:=blk_frozen BK120.out 1;have hfz48_2:=blk_frozen BK120.out 2;have hfz48_3:=blk_frozen BK120.out 3;have hfz48_4:=blk_frozen BK120.out 4))
      go_loopg [3,50] k (fun kq v3 v50 w' => ∃ (x3_1 : List Int) (x50_1 : Int),v50 = .int .i64 x50_1 ∧ Aside0 (codec_put.l0 kq x3_1 l0_4 (l0_4.length : Int) x50_1 = some r) ∧ Aside0 (kq ≤ k) ∧ Aside0 (Kd.R (Kd.int .u8) 5 w' w.heap.size (fun _ => True) v3 x3_1) ∧ Aside0 (w'.heap[gb120]? = some (.cells #[.int .i64 a0_0, .int .i64 a0_1, .string a0_2, .int .i64 a0_3,(.slice A0_4 l0_4.length c0_4)] 24 (0,0))) ∧ Aside0 (Below w.heap.size w w'))
      case atStart => exact ⟨(y148),(0),(by first|rfl|(simp;done)|(simp [*];done)),H',⟨Nat.le_refl _⟩,⟨by (with_reducible repeat (first|apply Kd.R_alloc|apply Kd.R_drewN|apply Kd.R_drew));exact Kd.R_mono HO150.out (fun _ hk => trivial)⟩,⟨by (with_reducible repeat (first|refine blk_drewN ?_ _|refine blk_drew ?_|refine blk_alloc ?_ _));exact BK120.out⟩,⟨by repeat (first|(with_reducible first|exact HB.out|apply below_alloc|apply pw_below_drewN|apply below_drew1|refine below_set ?_ GE120.out)|exact HB.out)⟩⟩
      case round =>
       clear H'
       try clear c1
       try clear c2
       try clear c2b0
       try clear c2b1
       try clear p2
       try clear c3
       try clear c4
       try clear c13
       try clear c13b0
       try clear c13b1
       try clear c15
       try clear c17
       try clear c19
       try clear c20
       try clear c24
       try clear c24b0
       try clear c24b1
       try clear c25
       try clear c33
       try clear c35
       try clear c36
       try clear hcz17_0
       try clear hcz17_1
       try clear hcz17_2
       try clear hcz17_3
       try clear hcz17_4
       try clear hcz20_0
       try clear hcz20_1
       try clear hcz20_2
       try clear hcz20_3
       try clear hcz20_4
       try clear hcz27_0
       try clear hcz27_1
       try clear hcz27_2
       try clear hcz27_3
       try clear hcz27_4
       try clear hcz30_0
       try clear hcz30_1
       try clear hcz30_2
       try clear hcz30_3
       try clear hcz30_4
       try clear hcz37_0
       try clear hcz37_1
       try clear hcz37_2
       try clear hcz37_3
       try clear hcz37_4
       try clear hcz40_0
       try clear hcz40_1
       try clear hcz40_2
       try clear hcz40_3
       try clear hcz40_4
       try clear hcz44_0
       try clear hcz44_1
       try clear hcz44_2
       try clear hcz44_3
       try clear hcz44_4
       try clear hcz48_0
       try clear hcz48_1
       try clear hcz48_2
       try clear hcz48_3
       try clear hcz48_4
       try clear hcz6_0
       try clear hcz6_1
       try clear hcz6_2
       try clear hcz6_3
       try clear hcz6_4
       try clear hcz9_0
       try clear hcz9_1
       try clear hcz9_2
       try clear hcz9_3
       try clear hcz9_4
       try clear hfz17_0
       try clear hfz17_1
       try clear hfz17_2
       try clear hfz17_3
       try clear hfz17_4
       try clear hfz20_0
       try clear hfz20_1
       try clear hfz20_2
       try clear hfz20_3
       try clear hfz20_4
       try clear hfz27_0
       try clear hfz27_1
       try clear hfz27_2
       try clear hfz27_3
       try clear hfz27_4
       try clear hfz30_0
       try clear hfz30_1
       try clear hfz30_2
       try clear hfz30_3
       try clear hfz30_4
       try clear hfz37_0
       try clear hfz37_1
       try clear hfz37_2
       try clear hfz37_3
       try clear hfz37_4
       try clear hfz40_0
       try clear hfz40_1
       try clear hfz40_2
       try clear hfz40_3
       try clear hfz40_4
       try clear hfz44_0
       try clear hfz44_1
       try clear hfz44_2
       try clear hfz44_3
       try clear hfz44_4
       try clear hfz48_0
       try clear hfz48_1
       try clear hfz48_2
       try clear hfz48_3
       try clear hfz48_4
       try clear hfz6_0
       try clear hfz6_1
       try clear hfz6_2
       try clear hfz6_3
       try clear hfz6_4
       try clear hfz9_0
       try clear hfz9_1
       try clear hfz9_2
       try clear hfz9_3
       try clear hfz9_4
       obtain ⟨x3_1,x50_1,rfl,HA,HK1,HO_3,BK120,HB⟩:=hrel
       cases gk with
       | zero => exact absurd HA.out (by simp [codec_put.l0])
       | succ k1 =>
        have H:=HA.out
        clear HA
        simp only [codec_put.l0] at H
        by_cases c49 : x50_1 < (l0_4.length : Int)
        ·rw [if_pos c49] at H
         have c49b0 : decide (x50_1 < (l0_4.length : Int)) = true:=decide_eq_true c49
         clear c49
         by_cases c50 : 0 ≤ x50_1
         ·rw [if_pos c50] at H
          have c50b0 : decide (0 ≤ x50_1) = true:=decide_eq_true c50
          clear c50
          by_cases c51 : x50_1 < (l0_4.length : Int)
          ·rw [if_pos c51] at H
           have c51b0 : decide (x50_1 < (l0_4.length : Int)) = true:=decide_eq_true c51
           clear c51
           replace H:=Option.bind_eq_some_iff.mp H
           obtain ⟨t153,A520,H⟩:=H
           replace H : (if x3_1.length + t153.length < 140737488355328 then (codec_put.l0 k1 (x3_1 ++ t153) l0_4 (l0_4.length : Int) (wrap64 (x50_1 + 1))) else (none)) = some r:=H
           have A52:=Aside0.mk A520
           clear A520
           by_cases c53 : x3_1.length + t153.length < 140737488355328
           ·rw [if_pos c53] at H
            have LMc53:=Aside0.mk c53
            clear c53
            obtain ⟨y156,hy156⟩ : ∃ y_ : List Int,y_ = (x3_1 ++ t153):=⟨_,rfl⟩
            replace H : (codec_put.l0 k1 y156 l0_4 (l0_4.length : Int) (wrap64 (x50_1 + 1))) = some r:=by first|(rw [hy156];with_reducible exact H)|(have H2_:=(Option.bind_some _ _).symm.trans H;rw [hy156];with_reducible exact H2_)|(have H2_:=(Option.bind_some _ _).symm.trans H;with_reducible exact H2_)|with_reducible exact H|(rw [hy156];exact H)|exact H
            have Ny156:=Aside0.mk hy156
            clear hy156
            have H':=Aside0.mk H
            clear H
            have p151 : 0 ≤ (x50_1 : Int):=of_decide_eq_true (by first|(with_reducible assumption)|assumption)
            have q151 : x50_1 < (l0_4.length : Int):=of_decide_eq_true (by first|(with_reducible assumption)|assumption)
            obtain ⟨ad151,A151_4,c151_4,e151,hx151_0,hx151_1,hx151_2,hx151_3,hx151_4,hl151_4,hi151_4⟩:=at_T24 HR0_4.out x50_1 p151 q151
            cases e151
            replace hx151_0:=(HB.out.cell (World.block_lt_of_cell? w _ hx151_0)).trans hx151_0
            replace hx151_1:=(HB.out.cell (World.block_lt_of_cell? w _ hx151_1)).trans hx151_1
            replace hx151_2:=(HB.out.cell (World.block_lt_of_cell? w _ hx151_2)).trans hx151_2
            replace hx151_3:=(HB.out.cell (World.block_lt_of_cell? w _ hx151_3)).trans hx151_3
            replace hx151_4:=(HB.out.cell (World.block_lt_of_cell? w _ hx151_4)).trans hx151_4
            have HR151_4:=Aside0.mk hi151_4
            have HC151_4:=Aside0.mk hl151_4
            clear hi151_4 hl151_4
            replace p151:=eq_true p151
            replace q151:=eq_true q151
            go_wp2_with (first|((with_reducible refine gate_dst (N:=5) rfl ?_);refine box_event ?hg (N:=5) ?hd (cs:=#[.int .i64 0, .int .i64 0, .string (⟨#[]⟩ : ByteArray), .int .i64 0, .slice none 0 0]) (t:=24) ?hr ?_;(case hd => rfl);(case hg => rfl);(case hr => first|(go_simp;done)|(go_simp;rfl));intro gb152 hg w54 hbox hb;have n0_:=Aside0.mk (Kd.R_below (by (with_reducible repeat (first|apply Kd.R_alloc|apply Kd.R_drewN|apply Kd.R_drew));exact HO_3.out) hb);have n1_:=Aside0.mk (blk_below (g:=gb120) (o := .cells #[.int .i64 a0_0, .int .i64 a0_1, .string a0_2, .int .i64 a0_3, .slice (some ad151) l0_4.length c0_4] 24 (0,0)) (by (with_reducible repeat (first|refine blk_drewN ?_ _|refine blk_drew ?_|refine blk_alloc ?_ _));exact BK120.out) hb);have n2_:=Aside0.mk (below_step (by repeat (first|(with_reducible first|exact HB.out|apply below_alloc|apply pw_below_drewN|apply below_drew1|refine below_set ?_ GE120.out)|exact HB.out)) hb);have n3_:=Aside0.mk (hbox);have n4_:=Aside0.mk ((by rw [hg];exact (below_size (by repeat (first|(with_reducible first|exact HB.out|apply below_alloc|apply pw_below_drewN|apply below_drew1|refine below_set ?_ GE120.out)|exact HB.out))) : w.heap.size ≤ gb152));have n5_:=Aside0.mk ((by rw [hg];exact (below_size (by repeat (first|(with_reducible first|exact HB.out|apply below_alloc|apply pw_below_drewN|apply below_drew1|refine below_set ?_ GE120.out)|exact HB.out))) : w.heap.size ≤ gb152));have n6_:=Aside0.mk ((by rw [hg];exact Nat.ne_of_lt (blk_lt (g:=gb120) (o := .cells #[.int .i64 a0_0, .int .i64 a0_1, .string a0_2, .int .i64 a0_3, .slice (some ad151) l0_4.length c0_4] 24 (0,0)) (by (with_reducible repeat (first|refine blk_drewN ?_ _|refine blk_drew ?_|refine blk_alloc ?_ _));exact BK120.out)) : gb120 ≠ gb152));have n7_:=Aside0.mk ((by rw [hg];exact Nat.ne_of_gt (blk_lt (g:=gb120) (o := .cells #[.int .i64 a0_0, .int .i64 a0_1, .string a0_2, .int .i64 a0_3, .slice (some ad151) l0_4.length c0_4] 24 (0,0)) (by (with_reducible repeat (first|refine blk_drewN ?_ _|refine blk_drew ?_|refine blk_alloc ?_ _));exact BK120.out)) : gb152 ≠ gb120));clear HO_3;clear BK120;clear HB;have HO_3:=n0_;have BK120:=n1_;have HB:=n2_;have BK152:=n3_;have GW152:=n4_;have GE152:=n5_;have NB120_152:=n6_;have NB152_120:=n7_;clear n0_ n1_ n2_ n3_ n4_ n5_ n6_ n7_;clear hb hbox hg;have hnb55:=NB152_120.out;have hnc55:=NB120_152.out;have hcz56_0 : w54.cell? ⟨gb152,0,none⟩ = some (.int .i64 0):=(blk_cell BK152.out 0).trans rfl;have hcz56_1 : w54.cell? ⟨gb152,1,none⟩ = some (.int .i64 0):=(blk_cell BK152.out 1).trans rfl;have hcz56_2 : w54.cell? ⟨gb152,2,none⟩ = some (.string (⟨#[]⟩ : ByteArray)):=(blk_cell BK152.out 2).trans rfl;have hcz56_3 : w54.cell? ⟨gb152,3,none⟩ = some (.int .i64 0):=(blk_cell BK152.out 3).trans rfl;have hcz56_4 : w54.cell? ⟨gb152,4,none⟩ = some (.slice none 0 0):=(blk_cell BK152.out 4).trans rfl;have hfz56_0:=blk_frozen BK152.out 0;have hfz56_1:=blk_frozen BK152.out 1;have hfz56_2:=blk_frozen BK152.out 2;have hfz56_3:=blk_frozen BK152.out 3;have hfz56_4:=blk_frozen BK152.out 4)|((with_reducible refine gate_callee (f:=36) rfl ?_);refine goesL_ (some 56) rfl rfl Try.func36 (by kernel_rfl) rfl #[.agg #[.int .i64 ((rd_T24 l0_4 x50_1).f0), .int .i64 ((rd_T24 l0_4 x50_1).f1), .string ((rd_T24 l0_4 x50_1).f2), .int .i64 ((rd_T24 l0_4 x50_1).f3), .slice A151_4 ((rd_T24 l0_4 x50_1).f4).length c151_4]] rfl (by (try simp only [List.map_toArray,List.map_cons,List.map_nil]);first|done|rfl|(simp only [List.length_drop,List.length_take];rfl)|(go_simp;done)|(go_simp;simp;done)) ?_;(with_reducible refine (ih k1 (by have:=HK1.out;omega) ((rd_T24 l0_4 x50_1).f0) ((rd_T24 l0_4 x50_1).f1) ((rd_T24 l0_4 x50_1).f2) ((rd_T24 l0_4 x50_1).f3) _ _ ((rd_T24 l0_4 x50_1).f4) t153 _ ?side1 ?side2 A52.out).mono ?_);(case side1 => exact Kd.C_below HR151_4.out (by repeat (first|(with_reducible first|exact HB.out|apply below_alloc|apply pw_below_drewN|apply below_drew1|refine below_set ?_ GE120.out|refine below_set ?_ GE152.out)|exact HB.out)));(case side2 => exact HC151_4.out);rintro e w57 ⟨v154,rfl,ho0,hb⟩;refine ⟨_,rfl,?_⟩;have n0_:=Aside0.mk (Kd.R_elder' (by (with_reducible repeat (first|apply Kd.R_alloc|apply Kd.R_drewN|apply Kd.R_drew));exact (Kd.R_mono (Kd.R_far (p:=⟨gb152,4,none⟩) (Kd.R_far (p:=⟨gb152,3,none⟩) (Kd.R_far (p:=⟨gb152,2,none⟩) (Kd.R_far (p:=⟨gb152,1,none⟩) (Kd.R_far (p:=⟨gb152,0,none⟩) (Kd.R_types HO_3.out BK152.out (by decide)) (fun _ hk => hk.2) (.int .i64 ((rd_T24 l0_4 x50_1).f0))) (fun _ hk => hk.2) (.int .i64 ((rd_T24 l0_4 x50_1).f1))) (fun _ hk => hk.2) (.string ((rd_T24 l0_4 x50_1).f2))) (fun _ hk => hk.2) (.int .i64 ((rd_T24 l0_4 x50_1).f3))) (fun _ hk => hk.2) (.slice A151_4 ((rd_T24 l0_4 x50_1).f4).length c151_4)) (fun _ h_ => h_.1))) (Kd.R_base ho0) hb);have n1_:=Aside0.mk (Kd.R_lower (Kd.R_new' ho0 (Kd.R_lt (by (with_reducible repeat (first|apply Kd.R_alloc|apply Kd.R_drewN|apply Kd.R_drew));exact (Kd.R_mono (Kd.R_far (p:=⟨gb152,4,none⟩) (Kd.R_far (p:=⟨gb152,3,none⟩) (Kd.R_far (p:=⟨gb152,2,none⟩) (Kd.R_far (p:=⟨gb152,1,none⟩) (Kd.R_far (p:=⟨gb152,0,none⟩) (Kd.R_types HO_3.out BK152.out (by decide)) (fun _ hk => hk.2) (.int .i64 ((rd_T24 l0_4 x50_1).f0))) (fun _ hk => hk.2) (.int .i64 ((rd_T24 l0_4 x50_1).f1))) (fun _ hk => hk.2) (.string ((rd_T24 l0_4 x50_1).f2))) (fun _ hk => hk.2) (.int .i64 ((rd_T24 l0_4 x50_1).f3))) (fun _ hk => hk.2) (.slice A151_4 ((rd_T24 l0_4 x50_1).f4).length c151_4)) (fun _ h_ => h_.1))))) (below_size (by repeat (first|(with_reducible first|exact HB.out|apply below_alloc|apply pw_below_drewN|apply below_drew1|refine below_set ?_ GE120.out|refine below_set ?_ GE152.out)|exact HB.out))));have n2_:=Aside0.mk (blk_below (g:=gb120) (o := .cells #[.int .i64 a0_0, .int .i64 a0_1, .string a0_2, .int .i64 a0_3, .slice (some ad151) l0_4.length c0_4] 24 (0,0)) (by (with_reducible repeat (first|refine blk_drewN ?_ _|refine blk_drew ?_|refine blk_alloc ?_ _));refine blk_far ?_ NB120_152.out _;(with_reducible repeat (first|refine blk_drewN ?_ _|refine blk_drew ?_|refine blk_alloc ?_ _));refine blk_far ?_ NB120_152.out _;(with_reducible repeat (first|refine blk_drewN ?_ _|refine blk_drew ?_|refine blk_alloc ?_ _));refine blk_far ?_ NB120_152.out _;(with_reducible repeat (first|refine blk_drewN ?_ _|refine blk_drew ?_|refine blk_alloc ?_ _));refine blk_far ?_ NB120_152.out _;(with_reducible repeat (first|refine blk_drewN ?_ _|refine blk_drew ?_|refine blk_alloc ?_ _));refine blk_far ?_ NB120_152.out _;(with_reducible repeat (first|refine blk_drewN ?_ _|refine blk_drew ?_|refine blk_alloc ?_ _));exact BK120.out) hb);have n3_:=Aside0.mk (blk_below (g:=gb152) (o := .cells #[.int .i64 ((rd_T24 l0_4 x50_1).f0), .int .i64 ((rd_T24 l0_4 x50_1).f1), .string ((rd_T24 l0_4 x50_1).f2), .int .i64 ((rd_T24 l0_4 x50_1).f3), .slice A151_4 ((rd_T24 l0_4 x50_1).f4).length c151_4] 24 (0,0)) (by (with_reducible repeat (first|refine blk_drewN ?_ _|refine blk_drew ?_|refine blk_alloc ?_ _));refine blk_put (cs:=#[.int .i64 ((rd_T24 l0_4 x50_1).f0), .int .i64 ((rd_T24 l0_4 x50_1).f1), .string ((rd_T24 l0_4 x50_1).f2), .int .i64 ((rd_T24 l0_4 x50_1).f3), .slice none 0 0]) ?_ 4 _ rfl;(with_reducible repeat (first|refine blk_drewN ?_ _|refine blk_drew ?_|refine blk_alloc ?_ _));refine blk_put (cs:=#[.int .i64 ((rd_T24 l0_4 x50_1).f0), .int .i64 ((rd_T24 l0_4 x50_1).f1), .string ((rd_T24 l0_4 x50_1).f2), .int .i64 0, .slice none 0 0]) ?_ 3 _ rfl;(with_reducible repeat (first|refine blk_drewN ?_ _|refine blk_drew ?_|refine blk_alloc ?_ _));refine blk_put (cs:=#[.int .i64 ((rd_T24 l0_4 x50_1).f0), .int .i64 ((rd_T24 l0_4 x50_1).f1), .string (⟨#[]⟩ : ByteArray), .int .i64 0, .slice none 0 0]) ?_ 2 _ rfl;(with_reducible repeat (first|refine blk_drewN ?_ _|refine blk_drew ?_|refine blk_alloc ?_ _));refine blk_put (cs:=#[.int .i64 ((rd_T24 l0_4 x50_1).f0), .int .i64 0, .string (⟨#[]⟩ : ByteArray), .int .i64 0, .slice none 0 0]) ?_ 1 _ rfl;(with_reducible repeat (first|refine blk_drewN ?_ _|refine blk_drew ?_|refine blk_alloc ?_ _));refine blk_put (cs:=#[.int .i64 0, .int .i64 0, .string (⟨#[]⟩ : ByteArray), .int .i64 0, .slice none 0 0]) ?_ 0 _ rfl;(with_reducible repeat (first|refine blk_drewN ?_ _|refine blk_drew ?_|refine blk_alloc ?_ _));exact BK152.out) hb);have n4_:=Aside0.mk (below_step (by repeat (first|(with_reducible first|exact HB.out|apply below_alloc|apply pw_below_drewN|apply below_drew1|refine below_set ?_ GE120.out|refine below_set ?_ GE152.out)|exact HB.out)) hb);clear HO_3;clear BK120;clear BK152;clear HB;have HO_3:=n0_;have HO155:=n1_;have BK120:=n2_;have BK152:=n3_;have HB:=n4_;clear n0_ n1_ n2_ n3_ n4_;(try clear hb);(try clear hb2);(try clear hk);(try clear hi);(try clear ho0);obtain ⟨Ao59,co59,eo59⟩:=Kd.R_slice HO155.out;subst eo59)|((with_reducible refine gate_builtin (b := .append) (xs:=#[.tmp 54, .tmp 56]) rfl ?_);at_builtin;refine Kd.R_append_rows (Kd.int .u8) (w0:=w) w.heap.size rfl (.tmp 54) (.tmp 56) 30 5 (.int .u8 0) 1 rfl Try.underlying30 info5 rfl (by decide) (by omega) u3 x3_1 t153 _ _ _ (fun k_ => some k_ ≠ (.slice Ao59 t153.length co59 : Value).ownBlock) (fun _ => False) rfl rfl ?aO ?aR (fun _ _ h => h) (fun _ h => h.elim) ?aF ?aB ?aS ?aL ?_;(case aR => repeat (first|exact (Kd.R_reads' HO155.out).2.2|(with_reducible refine Kd.C_alloc ?_ _)|(with_reducible refine Kd.C_drewN ?_ _)|(with_reducible refine Kd.C_drew ?_)));(case aB => exact (by repeat (first|(with_reducible first|exact HB.out|apply below_alloc|apply pw_below_drewN|apply below_drew1|refine below_set ?_ GE120.out|refine below_set ?_ GE152.out)|exact HB.out)));(case aF => exact (fun k_ hk => Kd.fresh' (Kd.R_lt (by (with_reducible repeat (first|apply Kd.R_alloc|apply Kd.R_drewN|apply Kd.R_drew));exact HO155.out)) k_ hk));(case aO => exact (by (with_reducible repeat (first|apply Kd.R_alloc|apply Kd.R_drewN|apply Kd.R_drew));exact Kd.R_mono HO_3.out (fun _ hk => hk.2)));(case aS => exact (below_size (by repeat (first|(with_reducible first|exact HB.out|apply below_alloc|apply pw_below_drewN|apply below_drew1|refine below_set ?_ GE120.out|refine below_set ?_ GE152.out)|exact HB.out))));(case aL => have:=LMc53.out;omega);intro v157 w58 ho hb hg hat;rw [← Ny156.out] at ho;have n0_:=Aside0.mk (blk_grown (g:=gb120) (o := .cells #[.int .i64 a0_0, .int .i64 a0_1, .string a0_2, .int .i64 a0_3, .slice (some ad151) l0_4.length c0_4] 24 (0,0)) (by (with_reducible repeat (first|refine blk_drewN ?_ _|refine blk_drew ?_|refine blk_alloc ?_ _));exact BK120.out) hg (Kd.R_ne HO_3.out BK120.out (by decide)));have n1_:=Aside0.mk (blk_grown (g:=gb152) (o := .cells #[.int .i64 ((rd_T24 l0_4 x50_1).f0), .int .i64 ((rd_T24 l0_4 x50_1).f1), .string ((rd_T24 l0_4 x50_1).f2), .int .i64 ((rd_T24 l0_4 x50_1).f3), .slice A151_4 ((rd_T24 l0_4 x50_1).f4).length c151_4] 24 (0,0)) (by (with_reducible repeat (first|refine blk_drewN ?_ _|refine blk_drew ?_|refine blk_alloc ?_ _));exact BK152.out) hg (Kd.R_ne HO_3.out BK152.out (by decide)));have n2_:=Aside0.mk (Kd.R_after (ok:=(fun _ => True)) (by (with_reducible repeat (first|apply Kd.R_alloc|apply Kd.R_drewN|apply Kd.R_drew));exact HO155.out) hg hat);have n3_:=Aside0.mk (hb);have n4_:=Aside0.mk (ho);clear BK120;clear BK152;clear HO155;clear HB;clear HO_3;have BK120:=n0_;have BK152:=n1_;have HO155:=n2_;have HB:=n3_;have HO158:=n4_;clear n0_ n1_ n2_ n3_ n4_;clear ho hb hg hat))
            go_roundg k1
            case measure => have:=HK1.out;omega
            case rel => exact ⟨(y156),(wrap64 (x50_1 + 1)),(by first|rfl|(simp;done)|(simp [*];done)),H',⟨by have:=HK1.out;omega⟩,⟨by (with_reducible repeat (first|apply Kd.R_alloc|apply Kd.R_drewN|apply Kd.R_drew));exact Kd.R_mono HO158.out (fun _ hk => trivial)⟩,⟨by (with_reducible repeat (first|refine blk_drewN ?_ _|refine blk_drew ?_|refine blk_alloc ?_ _));exact BK120.out⟩,⟨by repeat (first|(with_reducible first|exact HB.out|apply below_alloc|apply pw_below_drewN|apply below_drew1|refine below_set ?_ GE120.out|refine below_set ?_ GE152.out)|exact HB.out)⟩⟩
           ·rw [if_neg c53] at H
            exact absurd H (by simp)
          ·rw [if_neg c51] at H
           exact absurd H (by simp)
         ·rw [if_neg c50] at H
          exact absurd H (by simp)
        ·rw [if_neg c49] at H
         have c49b0 : decide (x50_1 < (l0_4.length : Int)) = false:=decide_eq_false c49
         clear c49
         obtain rfl:=Option.some.inj H
         go_wp2
         go_ret
         exact ⟨_,by first|rfl|(simp [errW_none,errW_some] <;> rfl)|(simp [*,errW_none,errW_some] <;> rfl),by (with_reducible repeat (first|apply Kd.R_alloc|apply Kd.R_drewN|apply Kd.R_drew));exact HO_3.out,by repeat (first|(with_reducible first|exact HB.out|apply below_alloc|apply pw_below_drewN|apply below_drew1|refine below_set ?_ GE120.out)|exact HB.out)⟩
     ·rw [if_neg c35] at H
      exact absurd H (by simp)
    ·rw [if_neg c33] at H
     exact absurd H (by simp)

end Go.Proofs.Ythbnblmnamckmaa.PAll
-- Laid by a program of this seat (wip/xprint.py over the kit's print).
namespace Go.Proofs.Ythbnblmnamckmaa.PAll
open Go.RowKit Go.Proofs.YthbnblmnamckmaaW.PrintWords Go.Proofs.YthbnblmnamckmaaW.PrintLast Go.Proofs.YthbnblmnamckmaaW.PrintMore
attribute [local go_sem] max2_int min2_int max_two min_two max_three min_three max_four min_four   -- for this text's walks alone
set_option linter.unusedVariables false
set_option linter.unusedSimpArgs false

/-! ### codec_PutValue: function 12 -/
def codec_PutValue.f (k : Nat) (a0_0 : Int) (a0_1 : Int) (a0_2 : ByteArray) (a0_3 : Int) (l0_4 : List (S24)) : Option (List Int × Int) := (codec_Plain.f k a0_0 a0_1 a0_2 a0_3 l0_4).bind fun t160 => (if t160 = true then ((codec_put.f k a0_0 a0_1 a0_2 a0_3 l0_4).bind fun t161 => (some (t161, 0))) else (some (([] : List Int), 20)))
theorem codec_PutValue.mono : ∀ a0 a1 a2 a3 a4 k, LeO (codec_PutValue.f k a0 a1 a2 a3 a4) (codec_PutValue.f (k + 1) a0 a1 a2 a3 a4) := by
  intro a0 a1 a2 a3 a4 k
  unfold codec_PutValue.f
  repeat' first
      | (with_reducible exact codec_Plain.mono _ _ _ _ _ _)
      | (with_reducible exact codec_put.mono _ _ _ _ _ _)
      | (with_reducible exact LeO.refl _)
      | (with_reducible exact LeO.none _)
      | (with_reducible refine LeO.ite ?_ ?_)
      | (with_reducible refine LeO.bind ?_ (fun _ => ?_))
      | exact codec_Plain.mono _ _ _ _ _ _
      | exact codec_put.mono _ _ _ _ _ _
      | exact LeO.none _
      | refine LeO.ite ?_ ?_
      | refine LeO.bind ?_ (fun _ => ?_)
set_option maxHeartbeats 8000000 in
set_option maxRecDepth 100000 in
theorem codec_PutValue.calls (k : Nat) (a0_0 : Int) (a0_1 : Int) (a0_2 : ByteArray) (a0_3 : Int) (A0_4 : Option Addr) (c0_4 : Nat) (l0_4 : List (S24)) (r1 : List Int) (r2 : Int) (w : World) (hr0_4 : Kd.C k24 w A0_4 l0_4.length l0_4) (hc0_4 : l0_4.length ≤ c0_4) (h : codec_PutValue.f k a0_0 a0_1 a0_2 a0_3 l0_4 = some (r1, r2)) :
    Calls Try.prog 12 #[.agg #[.int .i64 a0_0, .int .i64 a0_1, .string a0_2, .int .i64 a0_3, .slice A0_4 l0_4.length c0_4]] w fun e w' => ∃ v0_ : Value, e = .returned (.tuple #[v0_, .int .i64 r2]) ∧ Kd.R (Kd.int .u8) 5 w' w.heap.size (fun _ => True) v0_ r1 ∧ Below w.heap.size w w' := by
  have hu24 := Try.underlying24
  have HR0_4 := Aside0.mk hr0_4
  have HC0_4 := Aside0.mk hc0_4
  clear hr0_4 hc0_4
  have HB := Aside0.mk (Below.refl w.heap.size w)
  have H : ((codec_Plain.f k a0_0 a0_1 a0_2 a0_3 l0_4).bind fun t160 => (if t160 = true then ((codec_put.f k a0_0 a0_1 a0_2 a0_3 l0_4).bind fun t161 => (some (t161, 0))) else (some (([] : List Int), 20)))) = some (r1, r2) := h
  clear h
  replace H := Option.bind_eq_some_iff.mp H
  obtain ⟨t160, A20, H⟩ := H
  replace H : (if t160 = true then ((codec_put.f k a0_0 a0_1 a0_2 a0_3 l0_4).bind fun t161 => (some (t161, 0))) else (some (([] : List Int), 20))) = some (r1, r2) := H
  have A2 := Aside0.mk A20
  clear A20
  by_cases c3 : t160 = true
  · subst c3
    have H1 : ((codec_put.f k a0_0 a0_1 a0_2 a0_3 l0_4).bind fun t161 => (some (t161, 0))) = some (r1, r2) := by rw [if_pos rfl] at H; exact H
    clear H
    have H := H1
    clear H1
    replace H := Option.bind_eq_some_iff.mp H
    obtain ⟨t161, A40, H⟩ := H
    replace H : (some (t161, 0)) = some (r1, r2) := H
    have A4 := Aside0.mk A40
    clear A40
    simp only [Option.some.injEq, Prod.mk.injEq] at H
    obtain ⟨rfl, rfl⟩ := H
    go_enter Try.func12, Try.ntmps12
    go_wp2_with (first | ((with_reducible refine gate_dst (N := 1) rfl ?_); refine box_event ?hg (N := 1) ?hd (cs := #[.int .i64 a0_0, .int .i64 a0_1, .string a0_2, .int .i64 a0_3, .slice A0_4 l0_4.length c0_4]) (t := 24) ?hr ?_; (case hd => rfl); (case hg => rfl); (case hr => first | (go_simp; done) | (go_simp; rfl)); intro gb159 hg w5 hbox hb; have n0_ := Aside0.mk (below_step (by repeat (first | (with_reducible first | exact HB.out | apply below_alloc | apply pw_below_drewN | apply below_drew1) | exact HB.out)) hb); have n1_ := Aside0.mk (hbox); have n2_ := Aside0.mk ((by rw [hg]; exact (below_size (by repeat (first | (with_reducible first | exact HB.out | apply below_alloc | apply pw_below_drewN | apply below_drew1) | exact HB.out))) : w.heap.size ≤ gb159)); have n3_ := Aside0.mk ((by rw [hg]; exact (below_size (by repeat (first | (with_reducible first | exact HB.out | apply below_alloc | apply pw_below_drewN | apply below_drew1) | exact HB.out))) : w.heap.size ≤ gb159)); clear HB; have HB := n0_; have BK159 := n1_; have GW159 := n2_; have GE159 := n3_; clear n0_ n1_ n2_ n3_; clear hb hbox hg; have hcz6_0 : w5.cell? ⟨gb159, 0, none⟩ = some (.int .i64 a0_0) := (blk_cell BK159.out 0).trans rfl; have hcz6_1 : w5.cell? ⟨gb159, 1, none⟩ = some (.int .i64 a0_1) := (blk_cell BK159.out 1).trans rfl; have hcz6_2 : w5.cell? ⟨gb159, 2, none⟩ = some (.string a0_2) := (blk_cell BK159.out 2).trans rfl; have hcz6_3 : w5.cell? ⟨gb159, 3, none⟩ = some (.int .i64 a0_3) := (blk_cell BK159.out 3).trans rfl; have hcz6_4 : w5.cell? ⟨gb159, 4, none⟩ = some (.slice A0_4 l0_4.length c0_4) := (blk_cell BK159.out 4).trans rfl; have hfz6_0 := blk_frozen BK159.out 0; have hfz6_1 := blk_frozen BK159.out 1; have hfz6_2 := blk_frozen BK159.out 2; have hfz6_3 := blk_frozen BK159.out 3; have hfz6_4 := blk_frozen BK159.out 4) | ((with_reducible refine gate_callee (f := 35) rfl ?_); refine goesL_ (some 5) rfl rfl Try.func35 (by kernel_rfl) rfl #[.agg #[.int .i64 a0_0, .int .i64 a0_1, .string a0_2, .int .i64 a0_3, .slice A0_4 l0_4.length c0_4]] rfl (by (try simp only [List.map_toArray, List.map_cons, List.map_nil]); first | done | rfl | (simp only [List.length_drop, List.length_take]; rfl) | (go_simp; done) | (go_simp; simp; done)) ?_; (with_reducible refine (codec_Plain.calls k a0_0 a0_1 a0_2 a0_3 _ _ l0_4 true _ ?side1 ?side2 A2.out).mono ?_); (case side1 => repeat (first | exact (Kd.C_below HR0_4.out HB.out) | (with_reducible refine Kd.C_alloc ?_ _) | (with_reducible refine Kd.C_drewN ?_ _) | (with_reducible refine Kd.C_drew ?_))); (case side2 => exact HC0_4.out); rintro e w7 ⟨rfl, hb⟩; refine ⟨_, rfl, ?_⟩; have n0_ := Aside0.mk (blk_below (g := gb159) (o := .cells #[.int .i64 a0_0, .int .i64 a0_1, .string a0_2, .int .i64 a0_3, .slice A0_4 l0_4.length c0_4] 24 (0, 0)) (by (with_reducible repeat (first | refine blk_drewN ?_ _ | refine blk_drew ?_ | refine blk_alloc ?_ _)); exact BK159.out) hb); have n1_ := Aside0.mk (below_step (by repeat (first | (with_reducible first | exact HB.out | apply below_alloc | apply pw_below_drewN | apply below_drew1 | refine below_set ?_ GE159.out) | exact HB.out)) hb); clear BK159; clear HB; have BK159 := n0_; have HB := n1_; clear n0_ n1_; (try clear hb); (try clear hb2); (try clear hk); (try clear hi); have hcz8_0 : w7.cell? ⟨gb159, 0, none⟩ = some (.int .i64 a0_0) := (blk_cell BK159.out 0).trans rfl; have hcz8_1 : w7.cell? ⟨gb159, 1, none⟩ = some (.int .i64 a0_1) := (blk_cell BK159.out 1).trans rfl; have hcz8_2 : w7.cell? ⟨gb159, 2, none⟩ = some (.string a0_2) := (blk_cell BK159.out 2).trans rfl; have hcz8_3 : w7.cell? ⟨gb159, 3, none⟩ = some (.int .i64 a0_3) := (blk_cell BK159.out 3).trans rfl; have hcz8_4 : w7.cell? ⟨gb159, 4, none⟩ = some (.slice A0_4 l0_4.length c0_4) := (blk_cell BK159.out 4).trans rfl; have hfz8_0 := blk_frozen BK159.out 0; have hfz8_1 := blk_frozen BK159.out 1; have hfz8_2 := blk_frozen BK159.out 2; have hfz8_3 := blk_frozen BK159.out 3; have hfz8_4 := blk_frozen BK159.out 4) | ((with_reducible refine gate_callee (f := 36) rfl ?_); refine goesL_ (some 8) rfl rfl Try.func36 (by kernel_rfl) rfl #[.agg #[.int .i64 a0_0, .int .i64 a0_1, .string a0_2, .int .i64 a0_3, .slice A0_4 l0_4.length c0_4]] rfl (by (try simp only [List.map_toArray, List.map_cons, List.map_nil]); first | done | rfl | (simp only [List.length_drop, List.length_take]; rfl) | (go_simp; done) | (go_simp; simp; done)) ?_; (with_reducible refine (codec_put.calls k a0_0 a0_1 a0_2 a0_3 _ _ l0_4 t161 _ ?side1 ?side2 A4.out).mono ?_); (case side1 => repeat (first | exact (Kd.C_below HR0_4.out HB.out) | (with_reducible refine Kd.C_alloc ?_ _) | (with_reducible refine Kd.C_drewN ?_ _) | (with_reducible refine Kd.C_drew ?_))); (case side2 => exact HC0_4.out); rintro e w9 ⟨v162, rfl, ho0, hb⟩; refine ⟨_, rfl, ?_⟩; have n0_ := Aside0.mk (Kd.R_lower ho0 (below_size (by repeat (first | (with_reducible first | exact HB.out | apply below_alloc | apply pw_below_drewN | apply below_drew1 | refine below_set ?_ GE159.out) | exact HB.out)))); have n1_ := Aside0.mk (blk_below (g := gb159) (o := .cells #[.int .i64 a0_0, .int .i64 a0_1, .string a0_2, .int .i64 a0_3, .slice A0_4 l0_4.length c0_4] 24 (0, 0)) (by (with_reducible repeat (first | refine blk_drewN ?_ _ | refine blk_drew ?_ | refine blk_alloc ?_ _)); exact BK159.out) hb); have n2_ := Aside0.mk (below_step (by repeat (first | (with_reducible first | exact HB.out | apply below_alloc | apply pw_below_drewN | apply below_drew1 | refine below_set ?_ GE159.out) | exact HB.out)) hb); clear BK159; clear HB; have HO163 := n0_; have BK159 := n1_; have HB := n2_; clear n0_ n1_ n2_; (try clear hb); (try clear hb2); (try clear hk); (try clear hi); (try clear ho0)))
    go_ret2
    exact ⟨_, by first | rfl | (simp [errW_none, errW_some] <;> rfl) | (simp [*, errW_none, errW_some] <;> rfl), by (with_reducible repeat (first | apply Kd.R_alloc | apply Kd.R_drewN | apply Kd.R_drew)); exact HO163.out, by repeat (first | (with_reducible first | exact HB.out | apply below_alloc | apply pw_below_drewN | apply below_drew1 | refine below_set ?_ GE159.out) | exact HB.out)⟩
  · replace c3 := Bool.eq_false_iff.mpr c3
    subst c3
    have H1 : (some (([] : List Int), 20)) = some (r1, r2) := by rw [if_neg (show ¬ (false = true) by decide)] at H; exact H
    clear H
    have H := H1
    clear H1
    simp only [Option.some.injEq, Prod.mk.injEq] at H
    obtain ⟨rfl, rfl⟩ := H
    go_enter Try.func12, Try.ntmps12
    go_wp2_with (first | ((with_reducible refine gate_dst (N := 1) rfl ?_); refine box_event ?hg (N := 1) ?hd (cs := #[.int .i64 a0_0, .int .i64 a0_1, .string a0_2, .int .i64 a0_3, .slice A0_4 l0_4.length c0_4]) (t := 24) ?hr ?_; (case hd => rfl); (case hg => rfl); (case hr => first | (go_simp; done) | (go_simp; rfl)); intro gb159 hg w10 hbox hb; have n0_ := Aside0.mk (below_step (by repeat (first | (with_reducible first | exact HB.out | apply below_alloc | apply pw_below_drewN | apply below_drew1) | exact HB.out)) hb); have n1_ := Aside0.mk (hbox); have n2_ := Aside0.mk ((by rw [hg]; exact (below_size (by repeat (first | (with_reducible first | exact HB.out | apply below_alloc | apply pw_below_drewN | apply below_drew1) | exact HB.out))) : w.heap.size ≤ gb159)); have n3_ := Aside0.mk ((by rw [hg]; exact (below_size (by repeat (first | (with_reducible first | exact HB.out | apply below_alloc | apply pw_below_drewN | apply below_drew1) | exact HB.out))) : w.heap.size ≤ gb159)); clear HB; have HB := n0_; have BK159 := n1_; have GW159 := n2_; have GE159 := n3_; clear n0_ n1_ n2_ n3_; clear hb hbox hg; have hcz11_0 : w10.cell? ⟨gb159, 0, none⟩ = some (.int .i64 a0_0) := (blk_cell BK159.out 0).trans rfl; have hcz11_1 : w10.cell? ⟨gb159, 1, none⟩ = some (.int .i64 a0_1) := (blk_cell BK159.out 1).trans rfl; have hcz11_2 : w10.cell? ⟨gb159, 2, none⟩ = some (.string a0_2) := (blk_cell BK159.out 2).trans rfl; have hcz11_3 : w10.cell? ⟨gb159, 3, none⟩ = some (.int .i64 a0_3) := (blk_cell BK159.out 3).trans rfl; have hcz11_4 : w10.cell? ⟨gb159, 4, none⟩ = some (.slice A0_4 l0_4.length c0_4) := (blk_cell BK159.out 4).trans rfl; have hfz11_0 := blk_frozen BK159.out 0; have hfz11_1 := blk_frozen BK159.out 1; have hfz11_2 := blk_frozen BK159.out 2; have hfz11_3 := blk_frozen BK159.out 3; have hfz11_4 := blk_frozen BK159.out 4) | ((with_reducible refine gate_callee (f := 35) rfl ?_); refine goesL_ (some 5) rfl rfl Try.func35 (by kernel_rfl) rfl #[.agg #[.int .i64 a0_0, .int .i64 a0_1, .string a0_2, .int .i64 a0_3, .slice A0_4 l0_4.length c0_4]] rfl (by (try simp only [List.map_toArray, List.map_cons, List.map_nil]); first | done | rfl | (simp only [List.length_drop, List.length_take]; rfl) | (go_simp; done) | (go_simp; simp; done)) ?_; (with_reducible refine (codec_Plain.calls k a0_0 a0_1 a0_2 a0_3 _ _ l0_4 false _ ?side1 ?side2 A2.out).mono ?_); (case side1 => repeat (first | exact (Kd.C_below HR0_4.out HB.out) | (with_reducible refine Kd.C_alloc ?_ _) | (with_reducible refine Kd.C_drewN ?_ _) | (with_reducible refine Kd.C_drew ?_))); (case side2 => exact HC0_4.out); rintro e w12 ⟨rfl, hb⟩; refine ⟨_, rfl, ?_⟩; have n0_ := Aside0.mk (blk_below (g := gb159) (o := .cells #[.int .i64 a0_0, .int .i64 a0_1, .string a0_2, .int .i64 a0_3, .slice A0_4 l0_4.length c0_4] 24 (0, 0)) (by (with_reducible repeat (first | refine blk_drewN ?_ _ | refine blk_drew ?_ | refine blk_alloc ?_ _)); exact BK159.out) hb); have n1_ := Aside0.mk (below_step (by repeat (first | (with_reducible first | exact HB.out | apply below_alloc | apply pw_below_drewN | apply below_drew1 | refine below_set ?_ GE159.out) | exact HB.out)) hb); clear BK159; clear HB; have BK159 := n0_; have HB := n1_; clear n0_ n1_; (try clear hb); (try clear hb2); (try clear hk); (try clear hi)))
    go_ret2
    exact ⟨_, by first | rfl | (simp [errW_none, errW_some] <;> rfl) | (simp [*, errW_none, errW_some] <;> rfl), by first | exact Kd.R_nil _ _ _ _ _ | exact Kd.N_nil _ _ _ _ _ | exact Kd.V_nil _ _ _ _ _ | exact Kd.Q_nil _ _ _ _ _ | exact Kd.S_nil _ _ _ _ _, by repeat (first | (with_reducible first | exact HB.out | apply below_alloc | apply pw_below_drewN | apply below_drew1 | refine below_set ?_ GE159.out) | exact HB.out)⟩

end Go.Proofs.Ythbnblmnamckmaa.PAll
-- Laid by a program of this seat (wip/xprint.py over the kit's print).
namespace Go.Proofs.Ythbnblmnamckmaa.PAll
open Go.RowKit Go.Proofs.YthbnblmnamckmaaW.PrintWords Go.Proofs.YthbnblmnamckmaaW.PrintLast Go.Proofs.YthbnblmnamckmaaW.PrintMore
attribute [local go_sem] max2_int min2_int max_two min_two max_three min_three max_four min_four   -- for this text's walks alone
set_option linter.unusedVariables false
set_option linter.unusedSimpArgs false

/-! ### windlasshelp_Bytes: function 16 -/
def windlasshelp_Bytes.f (l0 : List Int) (l1 : List Int) : Option (Bool) := some ((strOfNums l0).toList == (strOfNums l1).toList)
set_option maxHeartbeats 8000000 in
set_option maxRecDepth 100000 in
theorem windlasshelp_Bytes.calls (A0 : Option Addr) (c0 : Nat) (l0 : List Int) (A1 : Option Addr) (c1 : Nat) (l1 : List Int) (r : Bool) (w : World) (hr0 : Kd.C (Kd.int .u8) w A0 l0.length l0) (hc0 : l0.length ≤ c0) (hr1 : Kd.C (Kd.int .u8) w A1 l1.length l1) (hc1 : l1.length ≤ c1) (h : windlasshelp_Bytes.f l0 l1 = some r) :
    Calls Try.prog 16 #[.slice A0 l0.length c0, .slice A1 l1.length c1] w fun e w' => e = .returned (.bool r) ∧ Drawn0 w w' := by
  have HR0 := Aside0.mk hr0
  have HC0 := Aside0.mk hc0
  clear hr0 hc0
  have HR1 := Aside0.mk hr1
  have HC1 := Aside0.mk hc1
  clear hr1 hc1
  have H : (some ((strOfNums l0).toList == (strOfNums l1).toList)) = some r := h
  clear h
  obtain rfl := Option.some.inj H
  have hcv5 := Kd.C_string (P := Try.prog) (A := A0) (c := c0) Try.underlying30 Try.underlying5 Try.underlying9  HR0.out
  have hcv3 := fun nd_ : Nat => Kd.C_string (P := Try.prog) (A := A0) (c := c0) Try.underlying30 Try.underlying5 Try.underlying9  (Kd.C_drewN (HR0.out) nd_)
  have hcv4 := hcv3
  (try (simp only [List.length_drop, List.length_take] at hcv4))
  (try rw [Nat.min_eq_left (by omega)] at hcv4)
  have hcv8 := Kd.C_string (P := Try.prog) (A := A1) (c := c1) Try.underlying30 Try.underlying5 Try.underlying9  HR1.out
  have hcv6 := fun nd_ : Nat => Kd.C_string (P := Try.prog) (A := A1) (c := c1) Try.underlying30 Try.underlying5 Try.underlying9  (Kd.C_drewN (HR1.out) nd_)
  have hcv7 := hcv6
  (try (simp only [List.length_drop, List.length_take] at hcv7))
  (try rw [Nat.min_eq_left (by omega)] at hcv7)
  go_enter Try.func16, Try.ntmps16
  go_wp2
  go_ret
  exact ⟨by first | rfl | (simp; done) | (simp [*]; done), by repeat (first | exact Drawn0.refl _ | apply Drawn0.step)⟩

end Go.Proofs.Ythbnblmnamckmaa.PAll
-- Laid by a program of this seat (wip/xprint.py over the kit's print).
namespace Go.Proofs.Ythbnblmnamckmaa.PAll
open Go.RowKit Go.Proofs.YthbnblmnamckmaaW.PrintWords Go.Proofs.YthbnblmnamckmaaW.PrintLast Go.Proofs.YthbnblmnamckmaaW.PrintMore
attribute [local go_sem] max2_int min2_int max_two min_two max_three min_three max_four min_four   -- for this text's walks alone
set_option linter.unusedVariables false
set_option linter.unusedSimpArgs false

/-! ### windlasslaw2_known: function 9 -/
def windlasslaw2_known.f (k : Nat)  : Option (Bool):=(codec_PutValue.f k 2 0 (⟨#[97]⟩ : ByteArray) 0 ([] : List (S24))).bind fun bt164 => (if bt164.2 = 0 then ((windlasshelp_Bytes.f bt164.1 (([2,1,97] : List Int))).bind fun t171 => (if t171 = true then ((codec_PutUint.f k 300).bind fun t172 => ((windlasshelp_Bytes.f t172 (([172,2] : List Int))).bind fun t178 => (if t178 = true then ((codec_PutInt.f k (-1)).bind fun t179 => ((windlasshelp_Bytes.f t179 (([1] : List Int))).bind fun t185 => (some t185))) else (some false)))) else (some false))) else (some false))
theorem windlasslaw2_known.mono : ∀ k,LeO (windlasslaw2_known.f k ) (windlasslaw2_known.f (k + 1) ):=by
 intro  k
 unfold windlasslaw2_known.f
 repeat' first
   | (with_reducible exact codec_PutInt.mono _ _)
   | (with_reducible exact codec_PutUint.mono _ _)
   | (with_reducible exact codec_PutValue.mono _ _ _ _ _ _)
   | (with_reducible exact LeO.refl _)
   | (with_reducible exact LeO.none _)
   | (with_reducible refine LeO.ite ?_ ?_)
   | (with_reducible refine LeO.bind ?_ (fun _ => ?_))
   | exact codec_PutInt.mono _ _
   | exact codec_PutUint.mono _ _
   | exact codec_PutValue.mono _ _ _ _ _ _
   | exact LeO.none _
   | refine LeO.ite ?_ ?_
   | refine LeO.bind ?_ (fun _ => ?_)
set_option maxHeartbeats 8000000 in
set_option maxRecDepth 100000 in
theorem windlasslaw2_known.calls (k : Nat)  (r : Bool) (w : World) (h : windlasslaw2_known.f k  = some r) :
  Calls Try.prog 9 #[] w fun e w' => e = .returned (.bool r) ∧ Below w.heap.size w w':=by
 have hu24:=Try.underlying24
 have HB:=Aside0.mk (Below.refl w.heap.size w)
 have H : ((codec_PutValue.f k 2 0 (⟨#[97]⟩ : ByteArray) 0 ([] : List (S24))).bind fun bt164 => (if bt164.2 = 0 then ((windlasshelp_Bytes.f bt164.1 (([2,1,97] : List Int))).bind fun t171 => (if t171 = true then ((codec_PutUint.f k 300).bind fun t172 => ((windlasshelp_Bytes.f t172 (([172,2] : List Int))).bind fun t178 => (if t178 = true then ((codec_PutInt.f k (-1)).bind fun t179 => ((windlasshelp_Bytes.f t179 (([1] : List Int))).bind fun t185 => (some t185))) else (some false)))) else (some false))) else (some false))) = some r:=h
 clear h
 replace H:=Option.bind_eq_some_iff.mp H
 obtain ⟨⟨t164,t167⟩,A10,H⟩:=H
 replace H : (if t167 = 0 then ((windlasshelp_Bytes.f t164 (([2,1,97] : List Int))).bind fun t171 => (if t171 = true then ((codec_PutUint.f k 300).bind fun t172 => ((windlasshelp_Bytes.f t172 (([172,2] : List Int))).bind fun t178 => (if t178 = true then ((codec_PutInt.f k (-1)).bind fun t179 => ((windlasshelp_Bytes.f t179 (([1] : List Int))).bind fun t185 => (some t185))) else (some false)))) else (some false))) else (some false)) = some r:=H
 have A1:=Aside0.mk A10
 clear A10
 by_cases c2 : t167 = 0
 ·rw [if_pos c2] at H
  have c2b0 : (t167 == 0) = true:=beq_iff_eq.mpr c2
  have c2b1 : (t167 != 0) = false:=bne_eq_false_iff_eq.mpr c2
  clear c2
  obtain ⟨y168,hy168⟩ : ∃ y_ : List Int,y_ = (([2,1,97] : List Int)):=⟨_,rfl⟩
  replace H : ((windlasshelp_Bytes.f t164 y168).bind fun t171 => (if t171 = true then ((codec_PutUint.f k 300).bind fun t172 => ((windlasshelp_Bytes.f t172 (([172,2] : List Int))).bind fun t178 => (if t178 = true then ((codec_PutInt.f k (-1)).bind fun t179 => ((windlasshelp_Bytes.f t179 (([1] : List Int))).bind fun t185 => (some t185))) else (some false)))) else (some false))) = some r:=by first|(rw [hy168];with_reducible exact H)|(have H2_:=(Option.bind_some _ _).symm.trans H;rw [hy168];with_reducible exact H2_)|(have H2_:=(Option.bind_some _ _).symm.trans H;with_reducible exact H2_)|with_reducible exact H|(rw [hy168];exact H)|exact H
  have Ny168:=Aside0.mk hy168
  clear hy168
  replace H:=Option.bind_eq_some_iff.mp H
  obtain ⟨t171,A30,H⟩:=H
  replace H : (if t171 = true then ((codec_PutUint.f k 300).bind fun t172 => ((windlasshelp_Bytes.f t172 (([172,2] : List Int))).bind fun t178 => (if t178 = true then ((codec_PutInt.f k (-1)).bind fun t179 => ((windlasshelp_Bytes.f t179 (([1] : List Int))).bind fun t185 => (some t185))) else (some false)))) else (some false)) = some r:=H
  have A3:=Aside0.mk A30
  clear A30
  by_cases c4 : t171 = true
  ·subst c4
   have H1 : ((codec_PutUint.f k 300).bind fun t172 => ((windlasshelp_Bytes.f t172 (([172,2] : List Int))).bind fun t178 => (if t178 = true then ((codec_PutInt.f k (-1)).bind fun t179 => ((windlasshelp_Bytes.f t179 (([1] : List Int))).bind fun t185 => (some t185))) else (some false)))) = some r:=by rw [if_pos rfl] at H;exact H
   clear H
   have H:=H1
   clear H1
   replace H:=Option.bind_eq_some_iff.mp H
   obtain ⟨t172,A50,H⟩:=H
   replace H : ((windlasshelp_Bytes.f t172 (([172,2] : List Int))).bind fun t178 => (if t178 = true then ((codec_PutInt.f k (-1)).bind fun t179 => ((windlasshelp_Bytes.f t179 (([1] : List Int))).bind fun t185 => (some t185))) else (some false))) = some r:=H
   have A5:=Aside0.mk A50
   clear A50
   obtain ⟨y175,hy175⟩ : ∃ y_ : List Int,y_ = (([172,2] : List Int)):=⟨_,rfl⟩
   replace H : ((windlasshelp_Bytes.f t172 y175).bind fun t178 => (if t178 = true then ((codec_PutInt.f k (-1)).bind fun t179 => ((windlasshelp_Bytes.f t179 (([1] : List Int))).bind fun t185 => (some t185))) else (some false))) = some r:=by first|(rw [hy175];with_reducible exact H)|(have H2_:=(Option.bind_some _ _).symm.trans H;rw [hy175];with_reducible exact H2_)|(have H2_:=(Option.bind_some _ _).symm.trans H;with_reducible exact H2_)|with_reducible exact H|(rw [hy175];exact H)|exact H
   have Ny175:=Aside0.mk hy175
   clear hy175
   replace H:=Option.bind_eq_some_iff.mp H
   obtain ⟨t178,A60,H⟩:=H
   replace H : (if t178 = true then ((codec_PutInt.f k (-1)).bind fun t179 => ((windlasshelp_Bytes.f t179 (([1] : List Int))).bind fun t185 => (some t185))) else (some false)) = some r:=H
   have A6:=Aside0.mk A60
   clear A60
   by_cases c7 : t178 = true
   ·subst c7
    have H1 : ((codec_PutInt.f k (-1)).bind fun t179 => ((windlasshelp_Bytes.f t179 (([1] : List Int))).bind fun t185 => (some t185))) = some r:=by rw [if_pos rfl] at H;exact H
    clear H
    have H:=H1
    clear H1
    replace H:=Option.bind_eq_some_iff.mp H
    obtain ⟨t179,A80,H⟩:=H
    replace H : ((windlasshelp_Bytes.f t179 (([1] : List Int))).bind fun t185 => (some t185)) = some r:=H
    have A8:=Aside0.mk A80
    clear A80
    obtain ⟨y182,hy182⟩ : ∃ y_ : List Int,y_ = (([1] : List Int)):=⟨_,rfl⟩
    replace H : ((windlasshelp_Bytes.f t179 y182).bind fun t185 => (some t185)) = some r:=by first|(rw [hy182];with_reducible exact H)|(have H2_:=(Option.bind_some _ _).symm.trans H;rw [hy182];with_reducible exact H2_)|(have H2_:=(Option.bind_some _ _).symm.trans H;with_reducible exact H2_)|with_reducible exact H|(rw [hy182];exact H)|exact H
    have Ny182:=Aside0.mk hy182
    clear hy182
    replace H:=Option.bind_eq_some_iff.mp H
    obtain ⟨t185,A90,H⟩:=H
    replace H : (some t185) = some r:=H
    have A9:=Aside0.mk A90
    clear A90
    obtain rfl:=Option.some.inj H
    go_enter Try.func9,Try.ntmps9
    go_wp2_with (first|((with_reducible refine gate_callee (f:=12) rfl ?_);refine goesL_ (some 5) rfl rfl Try.func12 (by kernel_rfl) rfl #[.agg #[.int .i64 2, .int .i64 0, .string (⟨#[97]⟩ : ByteArray), .int .i64 0, .slice none 0 0]] rfl (by (try simp only [List.map_toArray,List.map_cons,List.map_nil]);first|done|rfl|(simp only [List.length_drop,List.length_take];rfl)|(go_simp;done)|(go_simp;simp;done)) ?_;(refine (codec_PutValue.calls k 2 0 (⟨#[97]⟩ : ByteArray) 0 _ _ ([] : List (S24)) t164 t167 _ ?side1 ?side2 A1.out).mono ?_);(case side1 => exact Kd.C_nil _ _);(case side2 => exact Nat.le_refl _);rintro e w10 ⟨v165,rfl,ho0,hb⟩;refine ⟨_,rfl,?_⟩;have n0_:=Aside0.mk (Kd.R_lower ho0 (below_size (by repeat (first|(with_reducible first|exact HB.out|apply below_alloc|apply pw_below_drewN|apply below_drew1)|exact HB.out))));have n1_:=Aside0.mk (below_step (by repeat (first|(with_reducible first|exact HB.out|apply below_alloc|apply pw_below_drewN|apply below_drew1)|exact HB.out)) hb);clear HB;have HO166:=n0_;have HB:=n1_;clear n0_ n1_;(try clear hb);(try clear hb2);(try clear hk);(try clear hi);(try clear ho0))|((with_reducible refine gate_dst (N:=12) rfl ?_);(try (refine gate_guard (by rfl) ?_;dsimp only));refine Kd.R_lit (Kd.int .u8) _ 5 ?hg (N:=12) ?hd (xs:=([2,1,97] : List Int)) (inner:=[.int .u8 2, .int .u8 1, .int .u8 97]) (ok:=fun _ => True) (okp:=fun _ => True) ?hr ?hp (fun _ hk => hk) trivial (Below.refl _ _) (Nat.le_refl _) (by simp) ?_;(case hd => rfl);(case hg => rfl);(case hr => first|(go_simp;done)|(go_simp;rfl));(case hp => exact (Reps.one (show Kd.M (Kd.int .u8) _ _ _ 2 [.int .u8 2] from rfl) (Reps.one (show Kd.M (Kd.int .u8) _ _ _ 1 [.int .u8 1] from rfl) (Reps.one (show Kd.M (Kd.int .u8) _ _ _ 97 [.int .u8 97] from rfl) (Reps.none _ _)))));intro v169 w11 ho12 hb hg_ hnew_;clear hg_ hnew_;(first|rw [← Ny168.out] at ho12|(simp only [Int.reduceToNat] at ho12;rw [← Ny168.out] at ho12));have n0_:=Aside0.mk (Kd.R_elder' (by (with_reducible repeat (first|apply Kd.R_alloc|apply Kd.R_drewN|apply Kd.R_drew));exact HO166.out) (Kd.R_base ho12) hb);have n1_:=Aside0.mk (Kd.R_lower (Kd.R_new' ho12 (Kd.R_lt (by (with_reducible repeat (first|apply Kd.R_alloc|apply Kd.R_drewN|apply Kd.R_drew));exact HO166.out))) (below_size (by repeat (first|(with_reducible first|exact HB.out|apply below_alloc|apply pw_below_drewN|apply below_drew1)|exact HB.out))));have n2_:=Aside0.mk (below_step (by repeat (first|(with_reducible first|exact HB.out|apply below_alloc|apply pw_below_drewN|apply below_drew1)|exact HB.out)) hb);clear HO166;clear HB;have HO166:=n0_;have HO170:=n1_;have HB:=n2_;clear n0_ n1_ n2_;clear hb ho12;obtain ⟨Ao13,co13,eo13⟩:=Kd.R_slice HO166.out;subst eo13;obtain ⟨Ao14,co14,eo14⟩:=Kd.R_slice HO170.out;subst eo14)|(go_at_call 16;(with_reducible refine (windlasshelp_Bytes.calls _ _ t164 _ _ y168 true _ ?side1 ?side2 ?side3 ?side4 A3.out).mono ?_);(case side1 => repeat (first|exact (Kd.R_reads' HO166.out).2.2|(with_reducible refine Kd.C_alloc ?_ _)|(with_reducible refine Kd.C_drewN ?_ _)|(with_reducible refine Kd.C_drew ?_)));(case side2 => exact (Kd.R_reads' HO166.out).2.1);(case side3 => repeat (first|exact (Kd.R_reads' HO170.out).2.2|(with_reducible refine Kd.C_alloc ?_ _)|(with_reducible refine Kd.C_drewN ?_ _)|(with_reducible refine Kd.C_drew ?_)));(case side4 => exact (Kd.R_reads' HO170.out).2.1);rintro e w' ⟨rfl,⟨nd,rfl⟩⟩)|(go_at_call 17;(with_reducible refine (codec_PutUint.calls k 300 t172 _ A5.out).mono ?_);rintro e w15 ⟨v173,rfl,ho0,hb⟩;have n0_:=Aside0.mk (Kd.R_elder' (by (with_reducible repeat (first|apply Kd.R_alloc|apply Kd.R_drewN|apply Kd.R_drew));exact HO166.out) (Kd.R_base ho0) hb);have n1_:=Aside0.mk (Kd.R_elder' (by (with_reducible repeat (first|apply Kd.R_alloc|apply Kd.R_drewN|apply Kd.R_drew));exact HO170.out) (Kd.R_base ho0) hb);have n2_:=Aside0.mk (Kd.R_lower (Kd.R_new' (Kd.R_new' ho0 (Kd.R_lt (by (with_reducible repeat (first|apply Kd.R_alloc|apply Kd.R_drewN|apply Kd.R_drew));exact HO166.out))) (Kd.R_lt (by (with_reducible repeat (first|apply Kd.R_alloc|apply Kd.R_drewN|apply Kd.R_drew));exact HO170.out))) (below_size (by repeat (first|(with_reducible first|exact HB.out|apply below_alloc|apply pw_below_drewN|apply below_drew1)|exact HB.out))));have n3_:=Aside0.mk (below_step (by repeat (first|(with_reducible first|exact HB.out|apply below_alloc|apply pw_below_drewN|apply below_drew1)|exact HB.out)) hb);clear HO166;clear HO170;clear HB;have HO166:=n0_;have HO170:=n1_;have HO174:=n2_;have HB:=n3_;clear n0_ n1_ n2_ n3_;(try clear hb);(try clear hb2);(try clear hk);(try clear hi);(try clear ho0))|((with_reducible refine gate_dst (N:=17) rfl ?_);(try (refine gate_guard (by rfl) ?_;dsimp only));refine Kd.R_lit (Kd.int .u8) _ 5 ?hg (N:=17) ?hd (xs:=([172,2] : List Int)) (inner:=[.int .u8 172, .int .u8 2]) (ok:=fun _ => True) (okp:=fun _ => True) ?hr ?hp (fun _ hk => hk) trivial (Below.refl _ _) (Nat.le_refl _) (by simp) ?_;(case hd => rfl);(case hg => rfl);(case hr => first|(go_simp;done)|(go_simp;rfl));(case hp => exact (Reps.one (show Kd.M (Kd.int .u8) _ _ _ 172 [.int .u8 172] from rfl) (Reps.one (show Kd.M (Kd.int .u8) _ _ _ 2 [.int .u8 2] from rfl) (Reps.none _ _))));intro v176 w16 ho17 hb hg_ hnew_;clear hg_ hnew_;(first|rw [← Ny175.out] at ho17|(simp only [Int.reduceToNat] at ho17;rw [← Ny175.out] at ho17));have n0_:=Aside0.mk (Kd.R_elder' (by (with_reducible repeat (first|apply Kd.R_alloc|apply Kd.R_drewN|apply Kd.R_drew));exact HO166.out) (Kd.R_base ho17) hb);have n1_:=Aside0.mk (Kd.R_elder' (by (with_reducible repeat (first|apply Kd.R_alloc|apply Kd.R_drewN|apply Kd.R_drew));exact HO170.out) (Kd.R_base ho17) hb);have n2_:=Aside0.mk (Kd.R_elder' (by (with_reducible repeat (first|apply Kd.R_alloc|apply Kd.R_drewN|apply Kd.R_drew));exact HO174.out) (Kd.R_base ho17) hb);have n3_:=Aside0.mk (Kd.R_lower (Kd.R_new' (Kd.R_new' (Kd.R_new' ho17 (Kd.R_lt (by (with_reducible repeat (first|apply Kd.R_alloc|apply Kd.R_drewN|apply Kd.R_drew));exact HO166.out))) (Kd.R_lt (by (with_reducible repeat (first|apply Kd.R_alloc|apply Kd.R_drewN|apply Kd.R_drew));exact HO170.out))) (Kd.R_lt (by (with_reducible repeat (first|apply Kd.R_alloc|apply Kd.R_drewN|apply Kd.R_drew));exact HO174.out))) (below_size (by repeat (first|(with_reducible first|exact HB.out|apply below_alloc|apply pw_below_drewN|apply below_drew1)|exact HB.out))));have n4_:=Aside0.mk (below_step (by repeat (first|(with_reducible first|exact HB.out|apply below_alloc|apply pw_below_drewN|apply below_drew1)|exact HB.out)) hb);clear HO166;clear HO170;clear HO174;clear HB;have HO166:=n0_;have HO170:=n1_;have HO174:=n2_;have HO177:=n3_;have HB:=n4_;clear n0_ n1_ n2_ n3_ n4_;clear hb ho17;obtain ⟨Ao18,co18,eo18⟩:=Kd.R_slice HO174.out;subst eo18;obtain ⟨Ao19,co19,eo19⟩:=Kd.R_slice HO177.out;subst eo19)|(go_at_call 16;(with_reducible refine (windlasshelp_Bytes.calls _ _ t172 _ _ y175 true _ ?side1 ?side2 ?side3 ?side4 A6.out).mono ?_);(case side1 => repeat (first|exact (Kd.R_reads' HO174.out).2.2|(with_reducible refine Kd.C_alloc ?_ _)|(with_reducible refine Kd.C_drewN ?_ _)|(with_reducible refine Kd.C_drew ?_)));(case side2 => exact (Kd.R_reads' HO174.out).2.1);(case side3 => repeat (first|exact (Kd.R_reads' HO177.out).2.2|(with_reducible refine Kd.C_alloc ?_ _)|(with_reducible refine Kd.C_drewN ?_ _)|(with_reducible refine Kd.C_drew ?_)));(case side4 => exact (Kd.R_reads' HO177.out).2.1);rintro e w' ⟨rfl,⟨nd,rfl⟩⟩)|(go_at_call 19;(with_reducible refine (codec_PutInt.calls k (-1) t179 _ A8.out).mono ?_);rintro e w20 ⟨v180,rfl,ho0,hb⟩;have n0_:=Aside0.mk (Kd.R_elder' (by (with_reducible repeat (first|apply Kd.R_alloc|apply Kd.R_drewN|apply Kd.R_drew));exact HO166.out) (Kd.R_base ho0) hb);have n1_:=Aside0.mk (Kd.R_elder' (by (with_reducible repeat (first|apply Kd.R_alloc|apply Kd.R_drewN|apply Kd.R_drew));exact HO170.out) (Kd.R_base ho0) hb);have n2_:=Aside0.mk (Kd.R_elder' (by (with_reducible repeat (first|apply Kd.R_alloc|apply Kd.R_drewN|apply Kd.R_drew));exact HO174.out) (Kd.R_base ho0) hb);have n3_:=Aside0.mk (Kd.R_elder' (by (with_reducible repeat (first|apply Kd.R_alloc|apply Kd.R_drewN|apply Kd.R_drew));exact HO177.out) (Kd.R_base ho0) hb);have n4_:=Aside0.mk (Kd.R_lower (Kd.R_new' (Kd.R_new' (Kd.R_new' (Kd.R_new' ho0 (Kd.R_lt (by (with_reducible repeat (first|apply Kd.R_alloc|apply Kd.R_drewN|apply Kd.R_drew));exact HO166.out))) (Kd.R_lt (by (with_reducible repeat (first|apply Kd.R_alloc|apply Kd.R_drewN|apply Kd.R_drew));exact HO170.out))) (Kd.R_lt (by (with_reducible repeat (first|apply Kd.R_alloc|apply Kd.R_drewN|apply Kd.R_drew));exact HO174.out))) (Kd.R_lt (by (with_reducible repeat (first|apply Kd.R_alloc|apply Kd.R_drewN|apply Kd.R_drew));exact HO177.out))) (below_size (by repeat (first|(with_reducible first|exact HB.out|apply below_alloc|apply pw_below_drewN|apply below_drew1)|exact HB.out))));have n5_:=Aside0.mk (below_step (by repeat (first|(with_reducible first|exact HB.out|apply below_alloc|apply pw_below_drewN|apply below_drew1)|exact HB.out)) hb);clear HO166;clear HO170;clear HO174;clear HO177;clear HB;have HO166:=n0_;have HO170:=n1_;have HO174:=n2_;have HO177:=n3_;have HO181:=n4_;have HB:=n5_;clear n0_ n1_ n2_ n3_ n4_ n5_;(try clear hb);(try clear hb2);(try clear hk);(try clear hi);(try clear ho0))|((with_reducible refine gate_dst (N:=22) rfl ?_);(try (refine gate_guard (by rfl) ?_;dsimp only));refine Kd.R_lit (Kd.int .u8) _ 5 ?hg (N:=22) ?hd (xs:=([1] : List Int)) (inner:=[.int .u8 1]) (ok:=fun _ => True) (okp:=fun _ => True) ?hr ?hp (fun _ hk => hk) trivial (Below.refl _ _) (Nat.le_refl _) (by simp) ?_;(case hd => rfl);(case hg => rfl);(case hr => first|(go_simp;done)|(go_simp;rfl));(case hp => exact (Reps.one (show Kd.M (Kd.int .u8) _ _ _ 1 [.int .u8 1] from rfl) (Reps.none _ _)));intro v183 w21 ho22 hb hg_ hnew_;clear hg_ hnew_;(first|rw [← Ny182.out] at ho22|(simp only [Int.reduceToNat] at ho22;rw [← Ny182.out] at ho22));have n0_:=Aside0.mk (Kd.R_elder' (by (with_reducible repeat (first|apply Kd.R_alloc|apply Kd.R_drewN|apply Kd.R_drew));exact HO166.out) (Kd.R_base ho22) hb);have n1_:=Aside0.mk (Kd.R_elder' (by (with_reducible repeat (first|apply Kd.R_alloc|apply Kd.R_drewN|apply Kd.R_drew));exact HO170.out) (Kd.R_base ho22) hb);have n2_:=Aside0.mk (Kd.R_elder' (by (with_reducible repeat (first|apply Kd.R_alloc|apply Kd.R_drewN|apply Kd.R_drew));exact HO174.out) (Kd.R_base ho22) hb);have n3_:=Aside0.mk (Kd.R_elder' (by (with_reducible repeat (first|apply Kd.R_alloc|apply Kd.R_drewN|apply Kd.R_drew));exact HO177.out) (Kd.R_base ho22) hb);have n4_:=Aside0.mk (Kd.R_elder' (by (with_reducible repeat (first|apply Kd.R_alloc|apply Kd.R_drewN|apply Kd.R_drew));exact HO181.out) (Kd.R_base ho22) hb);have n5_:=Aside0.mk (Kd.R_lower (Kd.R_new' (Kd.R_new' (Kd.R_new' (Kd.R_new' (Kd.R_new' ho22 (Kd.R_lt (by (with_reducible repeat (first|apply Kd.R_alloc|apply Kd.R_drewN|apply Kd.R_drew));exact HO166.out))) (Kd.R_lt (by (with_reducible repeat (first|apply Kd.R_alloc|apply Kd.R_drewN|apply Kd.R_drew));exact HO170.out))) (Kd.R_lt (by (with_reducible repeat (first|apply Kd.R_alloc|apply Kd.R_drewN|apply Kd.R_drew));exact HO174.out))) (Kd.R_lt (by (with_reducible repeat (first|apply Kd.R_alloc|apply Kd.R_drewN|apply Kd.R_drew));exact HO177.out))) (Kd.R_lt (by (with_reducible repeat (first|apply Kd.R_alloc|apply Kd.R_drewN|apply Kd.R_drew));exact HO181.out))) (below_size (by repeat (first|(with_reducible first|exact HB.out|apply below_alloc|apply pw_below_drewN|apply below_drew1)|exact HB.out))));have n6_:=Aside0.mk (below_step (by repeat (first|(with_reducible first|exact HB.out|apply below_alloc|apply pw_below_drewN|apply below_drew1)|exact HB.out)) hb);clear HO166;clear HO170;clear HO174;clear HO177;clear HO181;clear HB;have HO166:=n0_;have HO170:=n1_;have HO174:=n2_;have HO177:=n3_;have HO181:=n4_;have HO184:=n5_;have HB:=n6_;clear n0_ n1_ n2_ n3_ n4_ n5_ n6_;clear hb ho22;obtain ⟨Ao23,co23,eo23⟩:=Kd.R_slice HO181.out;subst eo23;obtain ⟨Ao24,co24,eo24⟩:=Kd.R_slice HO184.out;subst eo24)|(go_at_call 16;(with_reducible refine (windlasshelp_Bytes.calls _ _ t179 _ _ y182 t185 _ ?side1 ?side2 ?side3 ?side4 A9.out).mono ?_);(case side1 => repeat (first|exact (Kd.R_reads' HO181.out).2.2|(with_reducible refine Kd.C_alloc ?_ _)|(with_reducible refine Kd.C_drewN ?_ _)|(with_reducible refine Kd.C_drew ?_)));(case side2 => exact (Kd.R_reads' HO181.out).2.1);(case side3 => repeat (first|exact (Kd.R_reads' HO184.out).2.2|(with_reducible refine Kd.C_alloc ?_ _)|(with_reducible refine Kd.C_drewN ?_ _)|(with_reducible refine Kd.C_drew ?_)));(case side4 => exact (Kd.R_reads' HO184.out).2.1);rintro e w' ⟨rfl,⟨nd,rfl⟩⟩))
    go_ret
    exact ⟨by first|rfl|(simp [errW_none,errW_some] <;> rfl)|(simp [*,errW_none,errW_some] <;> rfl),by repeat (first|(with_reducible first|exact HB.out|apply below_alloc|apply pw_below_drewN|apply below_drew1)|exact HB.out)⟩
   ·replace c7:=Bool.eq_false_iff.mpr c7
    subst c7
    have H1 : (some false) = some r:=by rw [if_neg (show ¬ (false = true) by decide)] at H;exact H
    clear H
    have H:=H1
    clear H1
    obtain rfl:=Option.some.inj H
    go_enter Try.func9,Try.ntmps9
    go_wp2_with (first|((with_reducible refine gate_callee (f:=12) rfl ?_);refine goesL_ (some 5) rfl rfl Try.func12 (by kernel_rfl) rfl #[.agg #[.int .i64 2, .int .i64 0, .string (⟨#[97]⟩ : ByteArray), .int .i64 0, .slice none 0 0]] rfl (by (try simp only [List.map_toArray,List.map_cons,List.map_nil]);first|done|rfl|(simp only [List.length_drop,List.length_take];rfl)|(go_simp;done)|(go_simp;simp;done)) ?_;(refine (codec_PutValue.calls k 2 0 (⟨#[97]⟩ : ByteArray) 0 _ _ ([] : List (S24)) t164 t167 _ ?side1 ?side2 A1.out).mono ?_);(case side1 => exact Kd.C_nil _ _);(case side2 => exact Nat.le_refl _);rintro e w25 ⟨v165,rfl,ho0,hb⟩;refine ⟨_,rfl,?_⟩;have n0_:=Aside0.mk (Kd.R_lower ho0 (below_size (by repeat (first|(with_reducible first|exact HB.out|apply below_alloc|apply pw_below_drewN|apply below_drew1)|exact HB.out))));have n1_:=Aside0.mk (below_step (by repeat (first|(with_reducible first|exact HB.out|apply below_alloc|apply pw_below_drewN|apply below_drew1)|exact HB.out)) hb);clear HB;have HO166:=n0_;have HB:=n1_;clear n0_ n1_;(try clear hb);(try clear hb2);(try clear hk);(try clear hi);(try clear ho0))|((with_reducible refine gate_dst (N:=12) rfl ?_);(try (refine gate_guard (by rfl) ?_;dsimp only));refine Kd.R_lit (Kd.int .u8) _ 5 ?hg (N:=12) ?hd (xs:=([2,1,97] : List Int)) (inner:=[.int .u8 2, .int .u8 1, .int .u8 97]) (ok:=fun _ => True) (okp:=fun _ => True) ?hr ?hp (fun _ hk => hk) trivial (Below.refl _ _) (Nat.le_refl _) (by simp) ?_;(case hd => rfl);(case hg => rfl);(case hr => first|(go_simp;done)|(go_simp;rfl));(case hp => exact (Reps.one (show Kd.M (Kd.int .u8) _ _ _ 2 [.int .u8 2] from rfl) (Reps.one (show Kd.M (Kd.int .u8) _ _ _ 1 [.int .u8 1] from rfl) (Reps.one (show Kd.M (Kd.int .u8) _ _ _ 97 [.int .u8 97] from rfl) (Reps.none _ _)))));intro v169 w26 ho27 hb hg_ hnew_;clear hg_ hnew_;(first|rw [← Ny168.out] at ho27|(simp only [Int.reduceToNat] at ho27;rw [← Ny168.out] at ho27));have n0_:=Aside0.mk (Kd.R_elder' (by (with_reducible repeat (first|apply Kd.R_alloc|apply Kd.R_drewN|apply Kd.R_drew));exact HO166.out) (Kd.R_base ho27) hb);have n1_:=Aside0.mk (Kd.R_lower (Kd.R_new' ho27 (Kd.R_lt (by (with_reducible repeat (first|apply Kd.R_alloc|apply Kd.R_drewN|apply Kd.R_drew));exact HO166.out))) (below_size (by repeat (first|(with_reducible first|exact HB.out|apply below_alloc|apply pw_below_drewN|apply below_drew1)|exact HB.out))));have n2_:=Aside0.mk (below_step (by repeat (first|(with_reducible first|exact HB.out|apply below_alloc|apply pw_below_drewN|apply below_drew1)|exact HB.out)) hb);clear HO166;clear HB;have HO166:=n0_;have HO170:=n1_;have HB:=n2_;clear n0_ n1_ n2_;clear hb ho27;obtain ⟨Ao28,co28,eo28⟩:=Kd.R_slice HO166.out;subst eo28;obtain ⟨Ao29,co29,eo29⟩:=Kd.R_slice HO170.out;subst eo29)|(go_at_call 16;(with_reducible refine (windlasshelp_Bytes.calls _ _ t164 _ _ y168 true _ ?side1 ?side2 ?side3 ?side4 A3.out).mono ?_);(case side1 => repeat (first|exact (Kd.R_reads' HO166.out).2.2|(with_reducible refine Kd.C_alloc ?_ _)|(with_reducible refine Kd.C_drewN ?_ _)|(with_reducible refine Kd.C_drew ?_)));(case side2 => exact (Kd.R_reads' HO166.out).2.1);(case side3 => repeat (first|exact (Kd.R_reads' HO170.out).2.2|(with_reducible refine Kd.C_alloc ?_ _)|(with_reducible refine Kd.C_drewN ?_ _)|(with_reducible refine Kd.C_drew ?_)));(case side4 => exact (Kd.R_reads' HO170.out).2.1);rintro e w' ⟨rfl,⟨nd,rfl⟩⟩)|(go_at_call 17;(with_reducible refine (codec_PutUint.calls k 300 t172 _ A5.out).mono ?_);rintro e w30 ⟨v173,rfl,ho0,hb⟩;have n0_:=Aside0.mk (Kd.R_elder' (by (with_reducible repeat (first|apply Kd.R_alloc|apply Kd.R_drewN|apply Kd.R_drew));exact HO166.out) (Kd.R_base ho0) hb);have n1_:=Aside0.mk (Kd.R_elder' (by (with_reducible repeat (first|apply Kd.R_alloc|apply Kd.R_drewN|apply Kd.R_drew));exact HO170.out) (Kd.R_base ho0) hb);have n2_:=Aside0.mk (Kd.R_lower (Kd.R_new' (Kd.R_new' ho0 (Kd.R_lt (by (with_reducible repeat (first|apply Kd.R_alloc|apply Kd.R_drewN|apply Kd.R_drew));exact HO166.out))) (Kd.R_lt (by (with_reducible repeat (first|apply Kd.R_alloc|apply Kd.R_drewN|apply Kd.R_drew));exact HO170.out))) (below_size (by repeat (first|(with_reducible first|exact HB.out|apply below_alloc|apply pw_below_drewN|apply below_drew1)|exact HB.out))));have n3_:=Aside0.mk (below_step (by repeat (first|(with_reducible first|exact HB.out|apply below_alloc|apply pw_below_drewN|apply below_drew1)|exact HB.out)) hb);clear HO166;clear HO170;clear HB;have HO166:=n0_;have HO170:=n1_;have HO174:=n2_;have HB:=n3_;clear n0_ n1_ n2_ n3_;(try clear hb);(try clear hb2);(try clear hk);(try clear hi);(try clear ho0))|((with_reducible refine gate_dst (N:=17) rfl ?_);(try (refine gate_guard (by rfl) ?_;dsimp only));refine Kd.R_lit (Kd.int .u8) _ 5 ?hg (N:=17) ?hd (xs:=([172,2] : List Int)) (inner:=[.int .u8 172, .int .u8 2]) (ok:=fun _ => True) (okp:=fun _ => True) ?hr ?hp (fun _ hk => hk) trivial (Below.refl _ _) (Nat.le_refl _) (by simp) ?_;(case hd => rfl);(case hg => rfl);(case hr => first|(go_simp;done)|(go_simp;rfl));(case hp => exact (Reps.one (show Kd.M (Kd.int .u8) _ _ _ 172 [.int .u8 172] from rfl) (Reps.one (show Kd.M (Kd.int .u8) _ _ _ 2 [.int .u8 2] from rfl) (Reps.none _ _))));intro v176 w31 ho32 hb hg_ hnew_;clear hg_ hnew_;(first|rw [← Ny175.out] at ho32|(simp only [Int.reduceToNat] at ho32;rw [← Ny175.out] at ho32));have n0_:=Aside0.mk (Kd.R_elder' (by (with_reducible repeat (first|apply Kd.R_alloc|apply Kd.R_drewN|apply Kd.R_drew));exact HO166.out) (Kd.R_base ho32) hb);have n1_:=Aside0.mk (Kd.R_elder' (by (with_reducible repeat (first|apply Kd.R_alloc|apply Kd.R_drewN|apply Kd.R_drew));exact HO170.out) (Kd.R_base ho32) hb);have n2_:=Aside0.mk (Kd.R_elder' (by (with_reducible repeat (first|apply Kd.R_alloc|apply Kd.R_drewN|apply Kd.R_drew));exact HO174.out) (Kd.R_base ho32) hb);have n3_:=Aside0.mk (Kd.R_lower (Kd.R_new' (Kd.R_new' (Kd.R_new' ho32 (Kd.R_lt (by (with_reducible repeat (first|apply Kd.R_alloc|apply Kd.R_drewN|apply Kd.R_drew));exact HO166.out))) (Kd.R_lt (by (with_reducible repeat (first|apply Kd.R_alloc|apply Kd.R_drewN|apply Kd.R_drew));exact HO170.out))) (Kd.R_lt (by (with_reducible repeat (first|apply Kd.R_alloc|apply Kd.R_drewN|apply Kd.R_drew));exact HO174.out))) (below_size (by repeat (first|(with_reducible first|exact HB.out|apply below_alloc|apply pw_below_drewN|apply below_drew1)|exact HB.out))));have n4_:=Aside0.mk (below_step (by repeat (first|(with_reducible first|exact HB.out|apply below_alloc|apply pw_below_drewN|apply below_drew1)|exact HB.out)) hb);clear HO166;clear HO170;clear HO174;clear HB;have HO166:=n0_;have HO170:=n1_;have HO174:=n2_;have HO177:=n3_;have HB:=n4_;clear n0_ n1_ n2_ n3_ n4_;clear hb ho32;obtain ⟨Ao33,co33,eo33⟩:=Kd.R_slice HO174.out;subst eo33;obtain ⟨Ao34,co34,eo34⟩:=Kd.R_slice HO177.out;subst eo34)|(go_at_call 16;(with_reducible refine (windlasshelp_Bytes.calls _ _ t172 _ _ y175 false _ ?side1 ?side2 ?side3 ?side4 A6.out).mono ?_);(case side1 => repeat (first|exact (Kd.R_reads' HO174.out).2.2|(with_reducible refine Kd.C_alloc ?_ _)|(with_reducible refine Kd.C_drewN ?_ _)|(with_reducible refine Kd.C_drew ?_)));(case side2 => exact (Kd.R_reads' HO174.out).2.1);(case side3 => repeat (first|exact (Kd.R_reads' HO177.out).2.2|(with_reducible refine Kd.C_alloc ?_ _)|(with_reducible refine Kd.C_drewN ?_ _)|(with_reducible refine Kd.C_drew ?_)));(case side4 => exact (Kd.R_reads' HO177.out).2.1);rintro e w' ⟨rfl,⟨nd,rfl⟩⟩))
    go_ret
    exact ⟨by first|rfl|(simp [errW_none,errW_some] <;> rfl)|(simp [*,errW_none,errW_some] <;> rfl),by repeat (first|(with_reducible first|exact HB.out|apply below_alloc|apply pw_below_drewN|apply below_drew1)|exact HB.out)⟩
  ·replace c4:=Bool.eq_false_iff.mpr c4
   subst c4
   have H1 : (some false) = some r:=by rw [if_neg (show ¬ (false = true) by decide)] at H;exact H
   clear H
   have H:=H1
   clear H1
   obtain rfl:=Option.some.inj H
   go_enter Try.func9,Try.ntmps9
   go_wp2_with (first|((with_reducible refine gate_callee (f:=12) rfl ?_);refine goesL_ (some 5) rfl rfl Try.func12 (by kernel_rfl) rfl #[.agg #[.int .i64 2, .int .i64 0, .string (⟨#[97]⟩ : ByteArray), .int .i64 0, .slice none 0 0]] rfl (by (try simp only [List.map_toArray,List.map_cons,List.map_nil]);first|done|rfl|(simp only [List.length_drop,List.length_take];rfl)|(go_simp;done)|(go_simp;simp;done)) ?_;(refine (codec_PutValue.calls k 2 0 (⟨#[97]⟩ : ByteArray) 0 _ _ ([] : List (S24)) t164 t167 _ ?side1 ?side2 A1.out).mono ?_);(case side1 => exact Kd.C_nil _ _);(case side2 => exact Nat.le_refl _);rintro e w35 ⟨v165,rfl,ho0,hb⟩;refine ⟨_,rfl,?_⟩;have n0_:=Aside0.mk (Kd.R_lower ho0 (below_size (by repeat (first|(with_reducible first|exact HB.out|apply below_alloc|apply pw_below_drewN|apply below_drew1)|exact HB.out))));have n1_:=Aside0.mk (below_step (by repeat (first|(with_reducible first|exact HB.out|apply below_alloc|apply pw_below_drewN|apply below_drew1)|exact HB.out)) hb);clear HB;have HO166:=n0_;have HB:=n1_;clear n0_ n1_;(try clear hb);(try clear hb2);(try clear hk);(try clear hi);(try clear ho0))|((with_reducible refine gate_dst (N:=12) rfl ?_);(try (refine gate_guard (by rfl) ?_;dsimp only));refine Kd.R_lit (Kd.int .u8) _ 5 ?hg (N:=12) ?hd (xs:=([2,1,97] : List Int)) (inner:=[.int .u8 2, .int .u8 1, .int .u8 97]) (ok:=fun _ => True) (okp:=fun _ => True) ?hr ?hp (fun _ hk => hk) trivial (Below.refl _ _) (Nat.le_refl _) (by simp) ?_;(case hd => rfl);(case hg => rfl);(case hr => first|(go_simp;done)|(go_simp;rfl));(case hp => exact (Reps.one (show Kd.M (Kd.int .u8) _ _ _ 2 [.int .u8 2] from rfl) (Reps.one (show Kd.M (Kd.int .u8) _ _ _ 1 [.int .u8 1] from rfl) (Reps.one (show Kd.M (Kd.int .u8) _ _ _ 97 [.int .u8 97] from rfl) (Reps.none _ _)))));intro v169 w36 ho37 hb hg_ hnew_;clear hg_ hnew_;(first|rw [← Ny168.out] at ho37|(simp only [Int.reduceToNat] at ho37;rw [← Ny168.out] at ho37));have n0_:=Aside0.mk (Kd.R_elder' (by (with_reducible repeat (first|apply Kd.R_alloc|apply Kd.R_drewN|apply Kd.R_drew));exact HO166.out) (Kd.R_base ho37) hb);have n1_:=Aside0.mk (Kd.R_lower (Kd.R_new' ho37 (Kd.R_lt (by (with_reducible repeat (first|apply Kd.R_alloc|apply Kd.R_drewN|apply Kd.R_drew));exact HO166.out))) (below_size (by repeat (first|(with_reducible first|exact HB.out|apply below_alloc|apply pw_below_drewN|apply below_drew1)|exact HB.out))));have n2_:=Aside0.mk (below_step (by repeat (first|(with_reducible first|exact HB.out|apply below_alloc|apply pw_below_drewN|apply below_drew1)|exact HB.out)) hb);clear HO166;clear HB;have HO166:=n0_;have HO170:=n1_;have HB:=n2_;clear n0_ n1_ n2_;clear hb ho37;obtain ⟨Ao38,co38,eo38⟩:=Kd.R_slice HO166.out;subst eo38;obtain ⟨Ao39,co39,eo39⟩:=Kd.R_slice HO170.out;subst eo39)|(go_at_call 16;(with_reducible refine (windlasshelp_Bytes.calls _ _ t164 _ _ y168 false _ ?side1 ?side2 ?side3 ?side4 A3.out).mono ?_);(case side1 => repeat (first|exact (Kd.R_reads' HO166.out).2.2|(with_reducible refine Kd.C_alloc ?_ _)|(with_reducible refine Kd.C_drewN ?_ _)|(with_reducible refine Kd.C_drew ?_)));(case side2 => exact (Kd.R_reads' HO166.out).2.1);(case side3 => repeat (first|exact (Kd.R_reads' HO170.out).2.2|(with_reducible refine Kd.C_alloc ?_ _)|(with_reducible refine Kd.C_drewN ?_ _)|(with_reducible refine Kd.C_drew ?_)));(case side4 => exact (Kd.R_reads' HO170.out).2.1);rintro e w' ⟨rfl,⟨nd,rfl⟩⟩))
   go_ret
   exact ⟨by first|rfl|(simp [errW_none,errW_some] <;> rfl)|(simp [*,errW_none,errW_some] <;> rfl),by repeat (first|(with_reducible first|exact HB.out|apply below_alloc|apply pw_below_drewN|apply below_drew1)|exact HB.out)⟩
 ·rw [if_neg c2] at H
  have c2b0 : (t167 == 0) = false:=beq_eq_false_iff_ne.mpr c2
  have c2b1 : (t167 != 0) = true:=bne_iff_ne.mpr c2
  obtain rfl:=Option.some.inj H
  go_enter Try.func9,Try.ntmps9
  go_wp2_with (first|((with_reducible refine gate_callee (f:=12) rfl ?_);refine goesL_ (some 5) rfl rfl Try.func12 (by kernel_rfl) rfl #[.agg #[.int .i64 2, .int .i64 0, .string (⟨#[97]⟩ : ByteArray), .int .i64 0, .slice none 0 0]] rfl (by (try simp only [List.map_toArray,List.map_cons,List.map_nil]);first|done|rfl|(simp only [List.length_drop,List.length_take];rfl)|(go_simp;done)|(go_simp;simp;done)) ?_;(refine (codec_PutValue.calls k 2 0 (⟨#[97]⟩ : ByteArray) 0 _ _ ([] : List (S24)) t164 t167 _ ?side1 ?side2 A1.out).mono ?_);(case side1 => exact Kd.C_nil _ _);(case side2 => exact Nat.le_refl _);rintro e w40 ⟨v165,rfl,ho0,hb⟩;refine ⟨_,rfl,?_⟩;have n0_:=Aside0.mk (Kd.R_lower ho0 (below_size (by repeat (first|(with_reducible first|exact HB.out|apply below_alloc|apply pw_below_drewN|apply below_drew1)|exact HB.out))));have n1_:=Aside0.mk (below_step (by repeat (first|(with_reducible first|exact HB.out|apply below_alloc|apply pw_below_drewN|apply below_drew1)|exact HB.out)) hb);clear HB;have HO166:=n0_;have HB:=n1_;clear n0_ n1_;(try clear hb);(try clear hb2);(try clear hk);(try clear hi);(try clear ho0)))
  go_ret
  exact ⟨by first|rfl|(simp [errW_none,errW_some] <;> rfl)|(simp [*,errW_none,errW_some] <;> rfl),by repeat (first|(with_reducible first|exact HB.out|apply below_alloc|apply pw_below_drewN|apply below_drew1)|exact HB.out)⟩

end Go.Proofs.Ythbnblmnamckmaa.PAll
-- Laid by a program of this seat (wip/xprint.py over the kit's print).
namespace Go.Proofs.Ythbnblmnamckmaa.PAll
open Go.RowKit Go.Proofs.YthbnblmnamckmaaW.PrintWords Go.Proofs.YthbnblmnamckmaaW.PrintLast Go.Proofs.YthbnblmnamckmaaW.PrintMore
attribute [local go_sem] max2_int min2_int max_two min_two max_three min_three max_four min_four   -- for this text's walks alone
set_option linter.unusedVariables false
set_option linter.unusedSimpArgs false

/-! ### windlasshelp_Small: function 10 -/
mutual
def windlasshelp_Small.j0 : Nat → Bool → Int → Int → ByteArray → Int → List (S24) → Option (Bool)
 | 0,_,_,_,_,_,_ => none
 | k + 1,x14,x187000,x187001,x187002,x187003,x187004 => if x14 = true then (some false) else (windlasshelp_Small.l0 k 0 x187000 x187001 x187002 x187003 x187004)
def windlasshelp_Small.l0 : Nat → Int → Int → Int → ByteArray → Int → List (S24) → Option (Bool)
 | 0,_,_,_,_,_,_ => none
 | k + 1,x3,x187000,x187001,x187002,x187003,x187004 => if x3 < (x187004.length : Int) then (if 0 ≤ x3 then (if (((rd_T24 x187004 x3).f2).size : Int) > 300 then (windlasshelp_Small.j2 k x3 true x187000 x187001 x187002 x187003 x187004) else (windlasshelp_Small.j2 k x3 (decide ((((rd_T24 x187004 x3).f4).length : Int) > 3)) x187000 x187001 x187002 x187003 x187004)) else (none)) else (some true)
def windlasshelp_Small.j2 : Nat → Int → Bool → Int → Int → ByteArray → Int → List (S24) → Option (Bool)
 | 0,_,_,_,_,_,_,_ => none
 | k + 1,x3,x39,x187000,x187001,x187002,x187003,x187004 => if x39 = true then (some false) else (windlasshelp_Small.l1 k x3 0 x187000 x187001 x187002 x187003 x187004)
def windlasshelp_Small.l1 : Nat → Int → Int → Int → Int → ByteArray → Int → List (S24) → Option (Bool)
 | 0,_,_,_,_,_,_,_ => none
 | k + 1,x3,x4,x187000,x187001,x187002,x187003,x187004 => if 0 ≤ x3 then (if x3 < (x187004.length : Int) then (if x4 < (((rd_T24 x187004 x3).f4).length : Int) then (if 0 ≤ x4 then (if (((rd_T24 ((rd_T24 x187004 x3).f4) x4).f4).length : Int) > 0 then (some false) else (if (((rd_T24 ((rd_T24 x187004 x3).f4) x4).f2).size : Int) > 300 then (some false) else (windlasshelp_Small.l1 k x3 (wrap64 (x4 + 1)) x187000 x187001 x187002 x187003 x187004))) else (none)) else (windlasshelp_Small.l0 k (wrap64 (x3 + 1)) x187000 x187001 x187002 x187003 x187004)) else (none)) else (none)
end
def windlasshelp_Small.f (k : Nat) (a0_0 : Int) (a0_1 : Int) (a0_2 : ByteArray) (a0_3 : Int) (l0_4 : List (S24)) : Option (Bool):=if (a0_2.size : Int) > 300 then (windlasshelp_Small.j0 k true a0_0 a0_1 a0_2 a0_3 l0_4) else (windlasshelp_Small.j0 k (decide ((l0_4.length : Int) > 20)) a0_0 a0_1 a0_2 a0_3 l0_4)
theorem windlasshelp_Small.mono_l : ∀ k,(∀ y0 y1 y2 y3 y4 y5,LeO (windlasshelp_Small.j0 k y0 y1 y2 y3 y4 y5) (windlasshelp_Small.j0 (k + 1) y0 y1 y2 y3 y4 y5)) ∧ (∀ y0 y1 y2 y3 y4 y5,LeO (windlasshelp_Small.l0 k y0 y1 y2 y3 y4 y5) (windlasshelp_Small.l0 (k + 1) y0 y1 y2 y3 y4 y5)) ∧ (∀ y0 y1 y2 y3 y4 y5 y6,LeO (windlasshelp_Small.j2 k y0 y1 y2 y3 y4 y5 y6) (windlasshelp_Small.j2 (k + 1) y0 y1 y2 y3 y4 y5 y6)) ∧ (∀ y0 y1 y2 y3 y4 y5 y6,LeO (windlasshelp_Small.l1 k y0 y1 y2 y3 y4 y5 y6) (windlasshelp_Small.l1 (k + 1) y0 y1 y2 y3 y4 y5 y6))
 | 0 => ⟨fun _ _ _ _ _ _ r h => by simp [windlasshelp_Small.j0] at h,fun _ _ _ _ _ _ r h => by simp [windlasshelp_Small.l0] at h,fun _ _ _ _ _ _ _ r h => by simp [windlasshelp_Small.j2] at h,fun _ _ _ _ _ _ _ r h => by simp [windlasshelp_Small.l1] at h⟩
 | k + 1 => by
  obtain ⟨ih0,ih1,ih2,ih3⟩:=windlasshelp_Small.mono_l k
  refine ⟨?_,?_,?_,?_⟩
  ·intro y0 y1 y2 y3 y4 y5
   unfold windlasshelp_Small.j0
   repeat' first
   | (with_reducible exact ih0 _ _ _ _ _ _)
   | (with_reducible exact ih1 _ _ _ _ _ _)
   | (with_reducible exact ih2 _ _ _ _ _ _ _)
   | (with_reducible exact ih3 _ _ _ _ _ _ _)
   | (with_reducible exact LeO.refl _)
   | (with_reducible exact LeO.none _)
   | (with_reducible refine LeO.ite ?_ ?_)
   | (with_reducible refine LeO.bind ?_ (fun _ => ?_))
   | exact ih0 _ _ _ _ _ _
   | exact ih1 _ _ _ _ _ _
   | exact ih2 _ _ _ _ _ _ _
   | exact ih3 _ _ _ _ _ _ _
   | exact LeO.none _
   | refine LeO.ite ?_ ?_
   | refine LeO.bind ?_ (fun _ => ?_)
  ·intro y0 y1 y2 y3 y4 y5
   unfold windlasshelp_Small.l0
   repeat' first
   | (with_reducible exact ih0 _ _ _ _ _ _)
   | (with_reducible exact ih1 _ _ _ _ _ _)
   | (with_reducible exact ih2 _ _ _ _ _ _ _)
   | (with_reducible exact ih3 _ _ _ _ _ _ _)
   | (with_reducible exact LeO.refl _)
   | (with_reducible exact LeO.none _)
   | (with_reducible refine LeO.ite ?_ ?_)
   | (with_reducible refine LeO.bind ?_ (fun _ => ?_))
   | exact ih0 _ _ _ _ _ _
   | exact ih1 _ _ _ _ _ _
   | exact ih2 _ _ _ _ _ _ _
   | exact ih3 _ _ _ _ _ _ _
   | exact LeO.none _
   | refine LeO.ite ?_ ?_
   | refine LeO.bind ?_ (fun _ => ?_)
  ·intro y0 y1 y2 y3 y4 y5 y6
   unfold windlasshelp_Small.j2
   repeat' first
   | (with_reducible exact ih0 _ _ _ _ _ _)
   | (with_reducible exact ih1 _ _ _ _ _ _)
   | (with_reducible exact ih2 _ _ _ _ _ _ _)
   | (with_reducible exact ih3 _ _ _ _ _ _ _)
   | (with_reducible exact LeO.refl _)
   | (with_reducible exact LeO.none _)
   | (with_reducible refine LeO.ite ?_ ?_)
   | (with_reducible refine LeO.bind ?_ (fun _ => ?_))
   | exact ih0 _ _ _ _ _ _
   | exact ih1 _ _ _ _ _ _
   | exact ih2 _ _ _ _ _ _ _
   | exact ih3 _ _ _ _ _ _ _
   | exact LeO.none _
   | refine LeO.ite ?_ ?_
   | refine LeO.bind ?_ (fun _ => ?_)
  ·intro y0 y1 y2 y3 y4 y5 y6
   unfold windlasshelp_Small.l1
   repeat' first
   | (with_reducible exact ih0 _ _ _ _ _ _)
   | (with_reducible exact ih1 _ _ _ _ _ _)
   | (with_reducible exact ih2 _ _ _ _ _ _ _)
   | (with_reducible exact ih3 _ _ _ _ _ _ _)
   | (with_reducible exact LeO.refl _)
   | (with_reducible exact LeO.none _)
   | (with_reducible refine LeO.ite ?_ ?_)
   | (with_reducible refine LeO.bind ?_ (fun _ => ?_))
   | exact ih0 _ _ _ _ _ _
   | exact ih1 _ _ _ _ _ _
   | exact ih2 _ _ _ _ _ _ _
   | exact ih3 _ _ _ _ _ _ _
   | exact LeO.none _
   | refine LeO.ite ?_ ?_
   | refine LeO.bind ?_ (fun _ => ?_)
theorem windlasshelp_Small.mono : ∀ a0 a1 a2 a3 a4 k,LeO (windlasshelp_Small.f k a0 a1 a2 a3 a4) (windlasshelp_Small.f (k + 1) a0 a1 a2 a3 a4):=by
 intro a0 a1 a2 a3 a4 k
 obtain ⟨ih0,ih1,ih2,ih3⟩:=windlasshelp_Small.mono_l k
 unfold windlasshelp_Small.f
 repeat' first
   | (with_reducible exact ih0 _ _ _ _ _ _)
   | (with_reducible exact ih1 _ _ _ _ _ _)
   | (with_reducible exact ih2 _ _ _ _ _ _ _)
   | (with_reducible exact ih3 _ _ _ _ _ _ _)
   | (with_reducible exact LeO.refl _)
   | (with_reducible exact LeO.none _)
   | (with_reducible refine LeO.ite ?_ ?_)
   | (with_reducible refine LeO.bind ?_ (fun _ => ?_))
   | exact ih0 _ _ _ _ _ _
   | exact ih1 _ _ _ _ _ _
   | exact ih2 _ _ _ _ _ _ _
   | exact ih3 _ _ _ _ _ _ _
   | exact LeO.none _
   | refine LeO.ite ?_ ?_
   | refine LeO.bind ?_ (fun _ => ?_)
set_option maxHeartbeats 8000000 in
set_option maxRecDepth 100000 in
theorem windlasshelp_Small.calls (k : Nat) (a0_0 : Int) (a0_1 : Int) (a0_2 : ByteArray) (a0_3 : Int) (A0_4 : Option Addr) (c0_4 : Nat) (l0_4 : List (S24)) (r : Bool) (w : World) (hr0_4 : Kd.C k24 w A0_4 l0_4.length l0_4) (hc0_4 : l0_4.length ≤ c0_4) (h : windlasshelp_Small.f k a0_0 a0_1 a0_2 a0_3 l0_4 = some r) :
  Calls Try.prog 10 #[.agg #[.int .i64 a0_0, .int .i64 a0_1, .string a0_2, .int .i64 a0_3, .slice A0_4 l0_4.length c0_4]] w fun e w' => e = .returned (.bool r) ∧ Below w.heap.size w w':=by
 have hu24:=Try.underlying24
 have HR0_4:=Aside0.mk hr0_4
 have HC0_4:=Aside0.mk hc0_4
 clear hr0_4 hc0_4
 have HB:=Aside0.mk (Below.refl w.heap.size w)
 have H : (if (a0_2.size : Int) > 300 then (windlasshelp_Small.j0 k true a0_0 a0_1 a0_2 a0_3 l0_4) else (windlasshelp_Small.j0 k (decide ((l0_4.length : Int) > 20)) a0_0 a0_1 a0_2 a0_3 l0_4)) = some r:=h
 clear h
 have HC2:=Aside0.mk H
 clear H
 go_enter Try.func10,Try.ntmps10
 go_upto_region 1 with (first|((with_reducible refine gate_dst (N:=1) rfl ?_);(try (refine gate_guard (by rfl) ?_;dsimp only));refine box_event ?hg (N:=1) ?hd (cs:=#[.int .i64 a0_0, .int .i64 a0_1, .string a0_2, .int .i64 a0_3, .slice A0_4 l0_4.length c0_4]) (t:=24) ?hr ?_;(case hd => rfl);(case hg => rfl);(case hr => first|(go_simp;done)|(go_simp;rfl));intro gb186 hg w3 hbox hb;have n0_:=Aside0.mk (below_step (by repeat (first|(with_reducible first|exact HB.out|apply below_alloc|apply pw_below_drewN|apply below_drew1)|exact HB.out)) hb);have n1_:=Aside0.mk (hbox);have n2_:=Aside0.mk ((by rw [hg];exact (below_size (by repeat (first|(with_reducible first|exact HB.out|apply below_alloc|apply pw_below_drewN|apply below_drew1)|exact HB.out))) : w.heap.size ≤ gb186));have n3_:=Aside0.mk ((by rw [hg];exact (below_size (by repeat (first|(with_reducible first|exact HB.out|apply below_alloc|apply pw_below_drewN|apply below_drew1)|exact HB.out))) : w.heap.size ≤ gb186));clear HB;have HB:=n0_;have BK186:=n1_;have GW186:=n2_;have GE186:=n3_;clear n0_ n1_ n2_ n3_;clear hb hbox hg))
 (try simp only [Act.put,List.setIfInBounds_toArray,List.set_cons_zero,List.set_cons_succ])
 go_cut [14] (fun v14 wc => ∃ (kq : Nat) (x14_1 : Bool),v14 = .bool x14_1 ∧ Aside0 (windlasshelp_Small.j0 kq x14_1 a0_0 a0_1 a0_2 a0_3 l0_4 = some r) ∧ Aside0 (kq ≤ k) ∧ Aside0 (wc.heap[gb186]? = some (.cells #[.int .i64 a0_0, .int .i64 a0_1, .string a0_2, .int .i64 a0_3,(.slice A0_4 l0_4.length c0_4)] 24 (0,0))) ∧ Aside0 (Below w.heap.size w wc))
 case first =>
  have H:=HC2.out
  clear HC2
  by_cases c4 : (a0_2.size : Int) > 300
  ·rw [if_pos c4] at H
   have c4b0 : decide (300 < (a0_2.size : Int)) = true:=decide_eq_true c4
   have c4b1 : decide (300 < a0_2.size) = true:=decide_eq_true (by omega)
   clear c4
   (first|rw [c4b0]|(simp only [i64_w,i32_w];rw [c4b0])|skip)
   have H':=Aside0.mk H
   clear H
   have hcz5_0 : w3.cell? ⟨gb186,0,none⟩ = some (.int .i64 a0_0):=(blk_cell BK186.out 0).trans rfl
   have hcz5_1 : w3.cell? ⟨gb186,1,none⟩ = some (.int .i64 a0_1):=(blk_cell BK186.out 1).trans rfl
   have hcz5_2 : w3.cell? ⟨gb186,2,none⟩ = some (.string a0_2):=(blk_cell BK186.out 2).trans rfl
   have hcz5_3 : w3.cell? ⟨gb186,3,none⟩ = some (.int .i64 a0_3):=(blk_cell BK186.out 3).trans rfl
   have hcz5_4 : w3.cell? ⟨gb186,4,none⟩ = some (.slice A0_4 l0_4.length c0_4):=(blk_cell BK186.out 4).trans rfl
   have hfz5_0:=blk_frozen BK186.out 0
   have hfz5_1:=blk_frozen BK186.out 1
   have hfz5_2:=blk_frozen BK186.out 2
   have hfz5_3:=blk_frozen BK186.out 3
   have hfz5_4:=blk_frozen BK186.out 4
   go_wp2
   go_meet
   case rel => exact ⟨_,(true),(by first|rfl|(simp;done)|(simp [*];done)),H',⟨by first|omega|exact Nat.le_refl _⟩,⟨by (with_reducible repeat (first|refine blk_drewN ?_ _|refine blk_drew ?_|refine blk_alloc ?_ _));exact BK186.out⟩,⟨by repeat (first|(with_reducible first|exact HB.out|apply below_alloc|apply pw_below_drewN|apply below_drew1|refine below_set ?_ GE186.out)|exact HB.out)⟩⟩
  ·rw [if_neg c4] at H
   have c4b0 : decide (300 < (a0_2.size : Int)) = false:=decide_eq_false c4
   have c4b1 : decide (300 < a0_2.size) = false:=decide_eq_false (by omega)
   clear c4
   (first|rw [c4b0]|(simp only [i64_w,i32_w];rw [c4b0])|skip)
   have H':=Aside0.mk H
   clear H
   have hcz6_0 : w3.cell? ⟨gb186,0,none⟩ = some (.int .i64 a0_0):=(blk_cell BK186.out 0).trans rfl
   have hcz6_1 : w3.cell? ⟨gb186,1,none⟩ = some (.int .i64 a0_1):=(blk_cell BK186.out 1).trans rfl
   have hcz6_2 : w3.cell? ⟨gb186,2,none⟩ = some (.string a0_2):=(blk_cell BK186.out 2).trans rfl
   have hcz6_3 : w3.cell? ⟨gb186,3,none⟩ = some (.int .i64 a0_3):=(blk_cell BK186.out 3).trans rfl
   have hcz6_4 : w3.cell? ⟨gb186,4,none⟩ = some (.slice A0_4 l0_4.length c0_4):=(blk_cell BK186.out 4).trans rfl
   have hfz6_0:=blk_frozen BK186.out 0
   have hfz6_1:=blk_frozen BK186.out 1
   have hfz6_2:=blk_frozen BK186.out 2
   have hfz6_3:=blk_frozen BK186.out 3
   have hfz6_4:=blk_frozen BK186.out 4
   go_wp2
   go_meet
   case rel => exact ⟨_,(decide ((l0_4.length : Int) > 20)),(by first|rfl|(simp;done)|(simp [*];done)),H',⟨by first|omega|exact Nat.le_refl _⟩,⟨by (with_reducible repeat (first|refine blk_drewN ?_ _|refine blk_drew ?_|refine blk_alloc ?_ _));exact BK186.out⟩,⟨by repeat (first|(with_reducible first|exact HB.out|apply below_alloc|apply pw_below_drewN|apply below_drew1|refine below_set ?_ GE186.out)|exact HB.out)⟩⟩
 case rest =>
  clear HC2
  try clear c1
  try clear p2
  try clear c4
  try clear c4b0
  try clear c4b1
  try clear hcz5_0
  try clear hcz5_1
  try clear hcz5_2
  try clear hcz5_3
  try clear hcz5_4
  try clear hcz6_0
  try clear hcz6_1
  try clear hcz6_2
  try clear hcz6_3
  try clear hcz6_4
  try clear hfz5_0
  try clear hfz5_1
  try clear hfz5_2
  try clear hfz5_3
  try clear hfz5_4
  try clear hfz6_0
  try clear hfz6_1
  try clear hfz6_2
  try clear hfz6_3
  try clear hfz6_4
  obtain ⟨kq,x14_1,rfl,HA,HJ1,BK186,HB⟩:=hcut
  cases kq with
  | zero => exact absurd HA.out (by simp [windlasshelp_Small.j0])
  | succ kj1 =>
   have H:=HA.out
   clear HA
   simp only [windlasshelp_Small.j0] at H
   by_cases c7 : x14_1 = true
   ·subst c7
    have H1 : (some false) = some r:=by rw [if_pos rfl] at H;exact H
    clear H
    have H:=H1
    clear H1
    obtain rfl:=Option.some.inj H
    go_wp2
    go_ret
    exact ⟨by first|rfl|(simp [errW_none,errW_some] <;> rfl)|(simp [*,errW_none,errW_some] <;> rfl),by repeat (first|(with_reducible first|exact HB.out|apply below_alloc|apply pw_below_drewN|apply below_drew1|refine below_set ?_ GE186.out)|exact HB.out)⟩
   ·replace c7:=Bool.eq_false_iff.mpr c7
    subst c7
    have H1 : (windlasshelp_Small.l0 kj1 0 a0_0 a0_1 a0_2 a0_3 l0_4) = some r:=by rw [if_neg (show ¬ (false = true) by decide)] at H;exact H
    clear H
    have H:=H1
    clear H1
    have H':=Aside0.mk H
    clear H
    go_wp2
    go_loopg [3] kj1 (fun kq v3 w' => ∃ (x3_2 : Int),v3 = .int .i64 x3_2 ∧ Aside0 (windlasshelp_Small.l0 kq x3_2 a0_0 a0_1 a0_2 a0_3 l0_4 = some r) ∧ Aside0 (kq ≤ kj1) ∧ Aside0 (w'.heap[gb186]? = some (.cells #[.int .i64 a0_0, .int .i64 a0_1, .string a0_2, .int .i64 a0_3,(.slice A0_4 l0_4.length c0_4)] 24 (0,0))) ∧ Aside0 (Below w.heap.size w w'))
    case atStart => exact ⟨(0),(by first|rfl|(simp;done)|(simp [*];done)),H',⟨Nat.le_refl _⟩,⟨by (with_reducible repeat (first|refine blk_drewN ?_ _|refine blk_drew ?_|refine blk_alloc ?_ _));exact BK186.out⟩,⟨by repeat (first|(with_reducible first|exact HB.out|apply below_alloc|apply pw_below_drewN|apply below_drew1|refine below_set ?_ GE186.out)|exact HB.out)⟩⟩
    case round =>
     clear H'
     try clear c1
     try clear p2
     try clear c4
     try clear c4b0
     try clear c4b1
     try clear c7
     try clear hcz5_0
     try clear hcz5_1
     try clear hcz5_2
     try clear hcz5_3
     try clear hcz5_4
     try clear hcz6_0
     try clear hcz6_1
     try clear hcz6_2
     try clear hcz6_3
     try clear hcz6_4
     try clear hfz5_0
     try clear hfz5_1
     try clear hfz5_2
     try clear hfz5_3
     try clear hfz5_4
     try clear hfz6_0
     try clear hfz6_1
     try clear hfz6_2
     try clear hfz6_3
     try clear hfz6_4
     try clear p2
     obtain ⟨x3_2,rfl,HA,HK2,BK186,HB⟩:=hrel
     cases gk with
     | zero => exact absurd HA.out (by simp [windlasshelp_Small.l0])
     | succ k2 =>
      have H:=HA.out
      clear HA
      simp only [windlasshelp_Small.l0] at H
      by_cases c8 : x3_2 < (l0_4.length : Int)
      ·rw [if_pos c8] at H
       have c8b0 : decide (x3_2 < (l0_4.length : Int)) = true:=decide_eq_true c8
       clear c8
       have HC9:=Aside0.mk H
       clear H
       have hcz10_0 : wr.cell? ⟨gb186,0,none⟩ = some (.int .i64 a0_0):=(blk_cell BK186.out 0).trans rfl
       have hcz10_1 : wr.cell? ⟨gb186,1,none⟩ = some (.int .i64 a0_1):=(blk_cell BK186.out 1).trans rfl
       have hcz10_2 : wr.cell? ⟨gb186,2,none⟩ = some (.string a0_2):=(blk_cell BK186.out 2).trans rfl
       have hcz10_3 : wr.cell? ⟨gb186,3,none⟩ = some (.int .i64 a0_3):=(blk_cell BK186.out 3).trans rfl
       have hcz10_4 : wr.cell? ⟨gb186,4,none⟩ = some (.slice A0_4 l0_4.length c0_4):=(blk_cell BK186.out 4).trans rfl
       have hfz10_0:=blk_frozen BK186.out 0
       have hfz10_1:=blk_frozen BK186.out 1
       have hfz10_2:=blk_frozen BK186.out 2
       have hfz10_3:=blk_frozen BK186.out 3
       have hfz10_4:=blk_frozen BK186.out 4
       go_upto_region 6 with (fail)
       go_cut [39] (fun v39 wc => ∃ (kq : Nat) (x39_8 : Bool),v39 = .bool x39_8 ∧ Aside0 (windlasshelp_Small.j2 kq x3_2 x39_8 a0_0 a0_1 a0_2 a0_3 l0_4 = some r) ∧ Aside0 (kq ≤ k2) ∧ Aside0 (wc.heap[gb186]? = some (.cells #[.int .i64 a0_0, .int .i64 a0_1, .string a0_2, .int .i64 a0_3,(.slice A0_4 l0_4.length c0_4)] 24 (0,0))) ∧ Aside0 (Below w.heap.size w wc))
       case first =>
        have H:=HC9.out
        clear HC9
        by_cases c11 : 0 ≤ x3_2
        ·rw [if_pos c11] at H
         have c11b0 : decide (0 ≤ x3_2) = true:=decide_eq_true c11
         clear c11
         (first|rw [c11b0]|(simp only [i64_w,i32_w];rw [c11b0])|skip)
         by_cases c12 : (((rd_T24 l0_4 x3_2).f2).size : Int) > 300
         ·rw [if_pos c12] at H
          have c12b0 : decide (300 < (((rd_T24 l0_4 x3_2).f2).size : Int)) = true:=decide_eq_true c12
          have c12b1 : decide (300 < ((rd_T24 l0_4 x3_2).f2).size) = true:=decide_eq_true (by omega)
          clear c12
          have H':=Aside0.mk H
          clear H
          have hcz13_0 : wr.cell? ⟨gb186,0,none⟩ = some (.int .i64 a0_0):=(blk_cell BK186.out 0).trans rfl
          have hcz13_1 : wr.cell? ⟨gb186,1,none⟩ = some (.int .i64 a0_1):=(blk_cell BK186.out 1).trans rfl
          have hcz13_2 : wr.cell? ⟨gb186,2,none⟩ = some (.string a0_2):=(blk_cell BK186.out 2).trans rfl
          have hcz13_3 : wr.cell? ⟨gb186,3,none⟩ = some (.int .i64 a0_3):=(blk_cell BK186.out 3).trans rfl
          have hcz13_4 : wr.cell? ⟨gb186,4,none⟩ = some (.slice A0_4 l0_4.length c0_4):=(blk_cell BK186.out 4).trans rfl
          have hfz13_0:=blk_frozen BK186.out 0
          have hfz13_1:=blk_frozen BK186.out 1
          have hfz13_2:=blk_frozen BK186.out 2
          have hfz13_3:=blk_frozen BK186.out 3
          have hfz13_4:=blk_frozen BK186.out 4
          have p187 : 0 ≤ (x3_2 : Int):=of_decide_eq_true (by first|(with_reducible assumption)|assumption)
          have q187 : x3_2 < (l0_4.length : Int):=of_decide_eq_true (by first|(with_reducible assumption)|assumption)
          obtain ⟨ad187,A187_4,c187_4,e187,hx187_0,hx187_1,hx187_2,hx187_3,hx187_4,hl187_4,hi187_4⟩:=at_T24 HR0_4.out x3_2 p187 q187
          cases e187
          replace hx187_0:=(HB.out.cell (World.block_lt_of_cell? w _ hx187_0)).trans hx187_0
          replace hx187_1:=(HB.out.cell (World.block_lt_of_cell? w _ hx187_1)).trans hx187_1
          replace hx187_2:=(HB.out.cell (World.block_lt_of_cell? w _ hx187_2)).trans hx187_2
          replace hx187_3:=(HB.out.cell (World.block_lt_of_cell? w _ hx187_3)).trans hx187_3
          replace hx187_4:=(HB.out.cell (World.block_lt_of_cell? w _ hx187_4)).trans hx187_4
          have HR187_4:=Aside0.mk hi187_4
          have HC187_4:=Aside0.mk hl187_4
          clear hi187_4 hl187_4
          replace p187:=eq_true p187
          replace q187:=eq_true q187
          go_wp2
          go_meet
          case rel => exact ⟨_,(true),(by first|rfl|(simp;done)|(simp [*];done)),H',⟨by have:=HJ1.out;have:=HK2.out;first|omega|exact Nat.le_refl _⟩,⟨by (with_reducible repeat (first|refine blk_drewN ?_ _|refine blk_drew ?_|refine blk_alloc ?_ _));exact BK186.out⟩,⟨by repeat (first|(with_reducible first|exact HB.out|apply below_alloc|apply pw_below_drewN|apply below_drew1|refine below_set ?_ GE186.out)|exact HB.out)⟩⟩
         ·rw [if_neg c12] at H
          have c12b0 : decide (300 < (((rd_T24 l0_4 x3_2).f2).size : Int)) = false:=decide_eq_false c12
          have c12b1 : decide (300 < ((rd_T24 l0_4 x3_2).f2).size) = false:=decide_eq_false (by omega)
          clear c12
          have H':=Aside0.mk H
          clear H
          have hcz14_0 : wr.cell? ⟨gb186,0,none⟩ = some (.int .i64 a0_0):=(blk_cell BK186.out 0).trans rfl
          have hcz14_1 : wr.cell? ⟨gb186,1,none⟩ = some (.int .i64 a0_1):=(blk_cell BK186.out 1).trans rfl
          have hcz14_2 : wr.cell? ⟨gb186,2,none⟩ = some (.string a0_2):=(blk_cell BK186.out 2).trans rfl
          have hcz14_3 : wr.cell? ⟨gb186,3,none⟩ = some (.int .i64 a0_3):=(blk_cell BK186.out 3).trans rfl
          have hcz14_4 : wr.cell? ⟨gb186,4,none⟩ = some (.slice A0_4 l0_4.length c0_4):=(blk_cell BK186.out 4).trans rfl
          have hfz14_0:=blk_frozen BK186.out 0
          have hfz14_1:=blk_frozen BK186.out 1
          have hfz14_2:=blk_frozen BK186.out 2
          have hfz14_3:=blk_frozen BK186.out 3
          have hfz14_4:=blk_frozen BK186.out 4
          have p187 : 0 ≤ (x3_2 : Int):=of_decide_eq_true (by first|(with_reducible assumption)|assumption)
          have q187 : x3_2 < (l0_4.length : Int):=of_decide_eq_true (by first|(with_reducible assumption)|assumption)
          obtain ⟨ad187,A187_4,c187_4,e187,hx187_0,hx187_1,hx187_2,hx187_3,hx187_4,hl187_4,hi187_4⟩:=at_T24 HR0_4.out x3_2 p187 q187
          cases e187
          replace hx187_0:=(HB.out.cell (World.block_lt_of_cell? w _ hx187_0)).trans hx187_0
          replace hx187_1:=(HB.out.cell (World.block_lt_of_cell? w _ hx187_1)).trans hx187_1
          replace hx187_2:=(HB.out.cell (World.block_lt_of_cell? w _ hx187_2)).trans hx187_2
          replace hx187_3:=(HB.out.cell (World.block_lt_of_cell? w _ hx187_3)).trans hx187_3
          replace hx187_4:=(HB.out.cell (World.block_lt_of_cell? w _ hx187_4)).trans hx187_4
          have HR187_4:=Aside0.mk hi187_4
          have HC187_4:=Aside0.mk hl187_4
          clear hi187_4 hl187_4
          replace p187:=eq_true p187
          replace q187:=eq_true q187
          have p188 : 0 ≤ (x3_2 : Int):=of_decide_eq_true (by first|(with_reducible assumption)|assumption)
          have q188 : x3_2 < (l0_4.length : Int):=of_decide_eq_true (by first|(with_reducible assumption)|assumption)
          obtain ⟨ad188,A188_4,c188_4,e188,hx188_0,hx188_1,hx188_2,hx188_3,hx188_4,hl188_4,hi188_4⟩:=at_T24 HR0_4.out x3_2 p188 q188
          obtain rfl : ad187 = ad188:=(by injection e188)
          replace hx188_0:=(HB.out.cell (World.block_lt_of_cell? w _ hx188_0)).trans hx188_0
          replace hx188_1:=(HB.out.cell (World.block_lt_of_cell? w _ hx188_1)).trans hx188_1
          replace hx188_2:=(HB.out.cell (World.block_lt_of_cell? w _ hx188_2)).trans hx188_2
          replace hx188_3:=(HB.out.cell (World.block_lt_of_cell? w _ hx188_3)).trans hx188_3
          replace hx188_4:=(HB.out.cell (World.block_lt_of_cell? w _ hx188_4)).trans hx188_4
          have HR188_4:=Aside0.mk hi188_4
          have HC188_4:=Aside0.mk hl188_4
          clear hi188_4 hl188_4
          replace p188:=eq_true p188
          replace q188:=eq_true q188
          have ea_:=Option.some.inj (hx187_4.symm.trans hx188_4)
          injection ea_ with ea_ en_ ec_
          subst ea_
          subst ec_
          clear en_
          go_wp2
          go_meet
          case rel => exact ⟨_,(decide ((((rd_T24 l0_4 x3_2).f4).length : Int) > 3)),(by first|rfl|(simp;done)|(simp [*];done)),H',⟨by have:=HJ1.out;have:=HK2.out;first|omega|exact Nat.le_refl _⟩,⟨by (with_reducible repeat (first|refine blk_drewN ?_ _|refine blk_drew ?_|refine blk_alloc ?_ _));exact BK186.out⟩,⟨by repeat (first|(with_reducible first|exact HB.out|apply below_alloc|apply pw_below_drewN|apply below_drew1|refine below_set ?_ GE186.out)|exact HB.out)⟩⟩
        ·rw [if_neg c11] at H
         exact absurd H (by simp)
       case rest =>
        clear HC9
        try clear c1
        try clear p1
        try clear q1
        try clear hx1
        try clear p2
        try clear c4
        try clear c4b0
        try clear c4b1
        try clear c7
        try clear c8
        try clear c8b0
        try clear c10
        try clear c11
        try clear c11b0
        try clear c12
        try clear c12b0
        try clear c12b1
        try clear hcz10_0
        try clear hcz10_1
        try clear hcz10_2
        try clear hcz10_3
        try clear hcz10_4
        try clear hcz13_0
        try clear hcz13_1
        try clear hcz13_2
        try clear hcz13_3
        try clear hcz13_4
        try clear hcz14_0
        try clear hcz14_1
        try clear hcz14_2
        try clear hcz14_3
        try clear hcz14_4
        try clear hcz5_0
        try clear hcz5_1
        try clear hcz5_2
        try clear hcz5_3
        try clear hcz5_4
        try clear hcz6_0
        try clear hcz6_1
        try clear hcz6_2
        try clear hcz6_3
        try clear hcz6_4
        try clear hfz10_0
        try clear hfz10_1
        try clear hfz10_2
        try clear hfz10_3
        try clear hfz10_4
        try clear hfz13_0
        try clear hfz13_1
        try clear hfz13_2
        try clear hfz13_3
        try clear hfz13_4
        try clear hfz14_0
        try clear hfz14_1
        try clear hfz14_2
        try clear hfz14_3
        try clear hfz14_4
        try clear hfz5_0
        try clear hfz5_1
        try clear hfz5_2
        try clear hfz5_3
        try clear hfz5_4
        try clear hfz6_0
        try clear hfz6_1
        try clear hfz6_2
        try clear hfz6_3
        try clear hfz6_4
        try clear hx187_0
        try clear hx187_1
        try clear hx187_2
        try clear hx187_3
        try clear hx187_4
        try clear hx188_0
        try clear hx188_1
        try clear hx188_2
        try clear hx188_3
        try clear hx188_4
        try clear p187
        try clear p188
        try clear p2
        try clear q187
        try clear q188
        obtain ⟨kq,x39_8,rfl,HA,HJ8,BK186,HB⟩:=hcut
        cases kq with
        | zero => exact absurd HA.out (by simp [windlasshelp_Small.j2])
        | succ kj8 =>
         have H:=HA.out
         clear HA
         simp only [windlasshelp_Small.j2] at H
         by_cases c15 : x39_8 = true
         ·subst c15
          have H1 : (some false) = some r:=by rw [if_pos rfl] at H;exact H
          clear H
          have H:=H1
          clear H1
          obtain rfl:=Option.some.inj H
          go_wp2
          go_ret
          exact ⟨by first|rfl|(simp [errW_none,errW_some] <;> rfl)|(simp [*,errW_none,errW_some] <;> rfl),by repeat (first|(with_reducible first|exact HB.out|apply below_alloc|apply pw_below_drewN|apply below_drew1|refine below_set ?_ GE186.out)|exact HB.out)⟩
         ·replace c15:=Bool.eq_false_iff.mpr c15
          subst c15
          have H1 : (windlasshelp_Small.l1 kj8 x3_2 0 a0_0 a0_1 a0_2 a0_3 l0_4) = some r:=by rw [if_neg (show ¬ (false = true) by decide)] at H;exact H
          clear H
          have H:=H1
          clear H1
          have H':=Aside0.mk H
          clear H
          go_wp2
          go_loopg [4] kj8 (fun kq v4 w' => ∃ (x4_4 : Int),v4 = .int .i64 x4_4 ∧ Aside0 (windlasshelp_Small.l1 kq x3_2 x4_4 a0_0 a0_1 a0_2 a0_3 l0_4 = some r) ∧ Aside0 (kq ≤ kj8) ∧ Aside0 (w'.heap[gb186]? = some (.cells #[.int .i64 a0_0, .int .i64 a0_1, .string a0_2, .int .i64 a0_3,(.slice A0_4 l0_4.length c0_4)] 24 (0,0))) ∧ Aside0 (Below w.heap.size w w'))
          case atStart => exact ⟨(0),(by first|rfl|(simp;done)|(simp [*];done)),H',⟨Nat.le_refl _⟩,⟨by (with_reducible repeat (first|refine blk_drewN ?_ _|refine blk_drew ?_|refine blk_alloc ?_ _));exact BK186.out⟩,⟨by repeat (first|(with_reducible first|exact HB.out|apply below_alloc|apply pw_below_drewN|apply below_drew1|refine below_set ?_ GE186.out)|exact HB.out)⟩⟩
          case round =>
           clear H'
           try clear c1
           try clear p1
           try clear q1
           try clear hx1
           try clear p2
           try clear c4
           try clear c4b0
           try clear c4b1
           try clear c7
           try clear c8
           try clear c8b0
           try clear c10
           try clear c11
           try clear c11b0
           try clear c12
           try clear c12b0
           try clear c12b1
           try clear c15
           try clear hcz10_0
           try clear hcz10_1
           try clear hcz10_2
           try clear hcz10_3
           try clear hcz10_4
           try clear hcz13_0
           try clear hcz13_1
           try clear hcz13_2
           try clear hcz13_3
           try clear hcz13_4
           try clear hcz14_0
           try clear hcz14_1
           try clear hcz14_2
           try clear hcz14_3
           try clear hcz14_4
           try clear hcz5_0
           try clear hcz5_1
           try clear hcz5_2
           try clear hcz5_3
           try clear hcz5_4
           try clear hcz6_0
           try clear hcz6_1
           try clear hcz6_2
           try clear hcz6_3
           try clear hcz6_4
           try clear hfz10_0
           try clear hfz10_1
           try clear hfz10_2
           try clear hfz10_3
           try clear hfz10_4
           try clear hfz13_0
           try clear hfz13_1
           try clear hfz13_2
           try clear hfz13_3
           try clear hfz13_4
           try clear hfz14_0
           try clear hfz14_1
           try clear hfz14_2
           try clear hfz14_3
           try clear hfz14_4
           try clear hfz5_0
           try clear hfz5_1
           try clear hfz5_2
           try clear hfz5_3
           try clear hfz5_4
           try clear hfz6_0
           try clear hfz6_1
           try clear hfz6_2
           try clear hfz6_3
           try clear hfz6_4
           try clear hx187_0
           try clear hx187_1
           try clear hx187_2
           try clear hx187_3
           try clear hx187_4
           try clear hx188_0
           try clear hx188_1
           try clear hx188_2
           try clear hx188_3
           try clear hx188_4
           try clear p1
           try clear p187
           try clear p188
           try clear p2
           try clear q1
           try clear q187
           try clear q188
           obtain ⟨x4_4,rfl,HA,HK4,BK186,HB⟩:=hrel
           cases gk with
           | zero => exact absurd HA.out (by simp [windlasshelp_Small.l1])
           | succ k4 =>
            have H:=HA.out
            clear HA
            simp only [windlasshelp_Small.l1] at H
            by_cases c16 : 0 ≤ x3_2
            ·rw [if_pos c16] at H
             have c16b0 : decide (0 ≤ x3_2) = true:=decide_eq_true c16
             clear c16
             by_cases c17 : x3_2 < (l0_4.length : Int)
             ·rw [if_pos c17] at H
              have c17b0 : decide (x3_2 < (l0_4.length : Int)) = true:=decide_eq_true c17
              clear c17
              by_cases c18 : x4_4 < (((rd_T24 l0_4 x3_2).f4).length : Int)
              ·rw [if_pos c18] at H
               have c18b0 : decide (x4_4 < (((rd_T24 l0_4 x3_2).f4).length : Int)) = true:=decide_eq_true c18
               clear c18
               by_cases c19 : 0 ≤ x4_4
               ·rw [if_pos c19] at H
                have c19b0 : decide (0 ≤ x4_4) = true:=decide_eq_true c19
                clear c19
                by_cases c20 : (((rd_T24 ((rd_T24 l0_4 x3_2).f4) x4_4).f4).length : Int) > 0
                ·rw [if_pos c20] at H
                 have c20b0 : decide (0 < (((rd_T24 ((rd_T24 l0_4 x3_2).f4) x4_4).f4).length : Int)) = true:=decide_eq_true c20
                 have c20b1 : decide (0 < ((rd_T24 ((rd_T24 l0_4 x3_2).f4) x4_4).f4).length) = true:=decide_eq_true (by omega)
                 clear c20
                 obtain rfl:=Option.some.inj H
                 have hcz21_0 : wr.cell? ⟨gb186,0,none⟩ = some (.int .i64 a0_0):=(blk_cell BK186.out 0).trans rfl
                 have hcz21_1 : wr.cell? ⟨gb186,1,none⟩ = some (.int .i64 a0_1):=(blk_cell BK186.out 1).trans rfl
                 have hcz21_2 : wr.cell? ⟨gb186,2,none⟩ = some (.string a0_2):=(blk_cell BK186.out 2).trans rfl
                 have hcz21_3 : wr.cell? ⟨gb186,3,none⟩ = some (.int .i64 a0_3):=(blk_cell BK186.out 3).trans rfl
                 have hcz21_4 : wr.cell? ⟨gb186,4,none⟩ = some (.slice A0_4 l0_4.length c0_4):=(blk_cell BK186.out 4).trans rfl
                 have hfz21_0:=blk_frozen BK186.out 0
                 have hfz21_1:=blk_frozen BK186.out 1
                 have hfz21_2:=blk_frozen BK186.out 2
                 have hfz21_3:=blk_frozen BK186.out 3
                 have hfz21_4:=blk_frozen BK186.out 4
                 have p189 : 0 ≤ (x3_2 : Int):=of_decide_eq_true (by first|(with_reducible assumption)|assumption)
                 have q189 : x3_2 < (l0_4.length : Int):=of_decide_eq_true (by first|(with_reducible assumption)|assumption)
                 obtain ⟨ad189,A189_4,c189_4,e189,hx189_0,hx189_1,hx189_2,hx189_3,hx189_4,hl189_4,hi189_4⟩:=at_T24 HR0_4.out x3_2 p189 q189
                 cases e189
                 replace hx189_0:=(HB.out.cell (World.block_lt_of_cell? w _ hx189_0)).trans hx189_0
                 replace hx189_1:=(HB.out.cell (World.block_lt_of_cell? w _ hx189_1)).trans hx189_1
                 replace hx189_2:=(HB.out.cell (World.block_lt_of_cell? w _ hx189_2)).trans hx189_2
                 replace hx189_3:=(HB.out.cell (World.block_lt_of_cell? w _ hx189_3)).trans hx189_3
                 replace hx189_4:=(HB.out.cell (World.block_lt_of_cell? w _ hx189_4)).trans hx189_4
                 have HR189_4:=Aside0.mk hi189_4
                 have HC189_4:=Aside0.mk hl189_4
                 clear hi189_4 hl189_4
                 replace p189:=eq_true p189
                 replace q189:=eq_true q189
                 have p190 : 0 ≤ (x3_2 : Int):=of_decide_eq_true (by first|(with_reducible assumption)|assumption)
                 have q190 : x3_2 < (l0_4.length : Int):=of_decide_eq_true (by first|(with_reducible assumption)|assumption)
                 obtain ⟨ad190,A190_4,c190_4,e190,hx190_0,hx190_1,hx190_2,hx190_3,hx190_4,hl190_4,hi190_4⟩:=at_T24 HR0_4.out x3_2 p190 q190
                 obtain rfl : ad189 = ad190:=(by injection e190)
                 replace hx190_0:=(HB.out.cell (World.block_lt_of_cell? w _ hx190_0)).trans hx190_0
                 replace hx190_1:=(HB.out.cell (World.block_lt_of_cell? w _ hx190_1)).trans hx190_1
                 replace hx190_2:=(HB.out.cell (World.block_lt_of_cell? w _ hx190_2)).trans hx190_2
                 replace hx190_3:=(HB.out.cell (World.block_lt_of_cell? w _ hx190_3)).trans hx190_3
                 replace hx190_4:=(HB.out.cell (World.block_lt_of_cell? w _ hx190_4)).trans hx190_4
                 have HR190_4:=Aside0.mk hi190_4
                 have HC190_4:=Aside0.mk hl190_4
                 clear hi190_4 hl190_4
                 replace p190:=eq_true p190
                 replace q190:=eq_true q190
                 have ea_:=Option.some.inj (hx189_4.symm.trans hx190_4)
                 injection ea_ with ea_ en_ ec_
                 subst ea_
                 subst ec_
                 clear en_
                 have p191 : 0 ≤ (x4_4 : Int):=of_decide_eq_true (by first|(with_reducible assumption)|assumption)
                 have q191 : x4_4 < (((rd_T24 l0_4 x3_2).f4).length : Int):=of_decide_eq_true (by first|(with_reducible assumption)|assumption)
                 obtain ⟨ad191,A191_4,c191_4,e191,hx191_0,hx191_1,hx191_2,hx191_3,hx191_4,hl191_4,hi191_4⟩:=at_T24 HR190_4.out x4_4 p191 q191
                 cases e191
                 replace hx191_0:=(HB.out.cell (World.block_lt_of_cell? w _ hx191_0)).trans hx191_0
                 replace hx191_1:=(HB.out.cell (World.block_lt_of_cell? w _ hx191_1)).trans hx191_1
                 replace hx191_2:=(HB.out.cell (World.block_lt_of_cell? w _ hx191_2)).trans hx191_2
                 replace hx191_3:=(HB.out.cell (World.block_lt_of_cell? w _ hx191_3)).trans hx191_3
                 replace hx191_4:=(HB.out.cell (World.block_lt_of_cell? w _ hx191_4)).trans hx191_4
                 have HR191_4:=Aside0.mk hi191_4
                 have HC191_4:=Aside0.mk hl191_4
                 clear hi191_4 hl191_4
                 replace p191:=eq_true p191
                 replace q191:=eq_true q191
                 go_wp2
                 go_ret
                 exact ⟨by first|rfl|(simp [errW_none,errW_some] <;> rfl)|(simp [*,errW_none,errW_some] <;> rfl),by repeat (first|(with_reducible first|exact HB.out|apply below_alloc|apply pw_below_drewN|apply below_drew1|refine below_set ?_ GE186.out)|exact HB.out)⟩
                ·rw [if_neg c20] at H
                 have c20b0 : decide (0 < (((rd_T24 ((rd_T24 l0_4 x3_2).f4) x4_4).f4).length : Int)) = false:=decide_eq_false c20
                 have c20b1 : decide (0 < ((rd_T24 ((rd_T24 l0_4 x3_2).f4) x4_4).f4).length) = false:=decide_eq_false (by omega)
                 clear c20
                 by_cases c22 : (((rd_T24 ((rd_T24 l0_4 x3_2).f4) x4_4).f2).size : Int) > 300
                 ·rw [if_pos c22] at H
                  have c22b0 : decide (300 < (((rd_T24 ((rd_T24 l0_4 x3_2).f4) x4_4).f2).size : Int)) = true:=decide_eq_true c22
                  have c22b1 : decide (300 < ((rd_T24 ((rd_T24 l0_4 x3_2).f4) x4_4).f2).size) = true:=decide_eq_true (by omega)
                  clear c22
                  obtain rfl:=Option.some.inj H
                  have hcz23_0 : wr.cell? ⟨gb186,0,none⟩ = some (.int .i64 a0_0):=(blk_cell BK186.out 0).trans rfl
                  have hcz23_1 : wr.cell? ⟨gb186,1,none⟩ = some (.int .i64 a0_1):=(blk_cell BK186.out 1).trans rfl
                  have hcz23_2 : wr.cell? ⟨gb186,2,none⟩ = some (.string a0_2):=(blk_cell BK186.out 2).trans rfl
                  have hcz23_3 : wr.cell? ⟨gb186,3,none⟩ = some (.int .i64 a0_3):=(blk_cell BK186.out 3).trans rfl
                  have hcz23_4 : wr.cell? ⟨gb186,4,none⟩ = some (.slice A0_4 l0_4.length c0_4):=(blk_cell BK186.out 4).trans rfl
                  have hfz23_0:=blk_frozen BK186.out 0
                  have hfz23_1:=blk_frozen BK186.out 1
                  have hfz23_2:=blk_frozen BK186.out 2
                  have hfz23_3:=blk_frozen BK186.out 3
                  have hfz23_4:=blk_frozen BK186.out 4
                  have p189 : 0 ≤ (x3_2 : Int):=of_decide_eq_true (by first|(with_reducible assumption)|assumption)
                  have q189 : x3_2 < (l0_4.length : Int):=of_decide_eq_true (by first|(with_reducible assumption)|assumption)
                  obtain ⟨ad189,A189_4,c189_4,e189,hx189_0,hx189_1,hx189_2,hx189_3,hx189_4,hl189_4,hi189_4⟩:=at_T24 HR0_4.out x3_2 p189 q189
                  cases e189
                  replace hx189_0:=(HB.out.cell (World.block_lt_of_cell? w _ hx189_0)).trans hx189_0
                  replace hx189_1:=(HB.out.cell (World.block_lt_of_cell? w _ hx189_1)).trans hx189_1
                  replace hx189_2:=(HB.out.cell (World.block_lt_of_cell? w _ hx189_2)).trans hx189_2
                  replace hx189_3:=(HB.out.cell (World.block_lt_of_cell? w _ hx189_3)).trans hx189_3
                  replace hx189_4:=(HB.out.cell (World.block_lt_of_cell? w _ hx189_4)).trans hx189_4
                  have HR189_4:=Aside0.mk hi189_4
                  have HC189_4:=Aside0.mk hl189_4
                  clear hi189_4 hl189_4
                  replace p189:=eq_true p189
                  replace q189:=eq_true q189
                  have p190 : 0 ≤ (x3_2 : Int):=of_decide_eq_true (by first|(with_reducible assumption)|assumption)
                  have q190 : x3_2 < (l0_4.length : Int):=of_decide_eq_true (by first|(with_reducible assumption)|assumption)
                  obtain ⟨ad190,A190_4,c190_4,e190,hx190_0,hx190_1,hx190_2,hx190_3,hx190_4,hl190_4,hi190_4⟩:=at_T24 HR0_4.out x3_2 p190 q190
                  obtain rfl : ad189 = ad190:=(by injection e190)
                  replace hx190_0:=(HB.out.cell (World.block_lt_of_cell? w _ hx190_0)).trans hx190_0
                  replace hx190_1:=(HB.out.cell (World.block_lt_of_cell? w _ hx190_1)).trans hx190_1
                  replace hx190_2:=(HB.out.cell (World.block_lt_of_cell? w _ hx190_2)).trans hx190_2
                  replace hx190_3:=(HB.out.cell (World.block_lt_of_cell? w _ hx190_3)).trans hx190_3
                  replace hx190_4:=(HB.out.cell (World.block_lt_of_cell? w _ hx190_4)).trans hx190_4
                  have HR190_4:=Aside0.mk hi190_4
                  have HC190_4:=Aside0.mk hl190_4
                  clear hi190_4 hl190_4
                  replace p190:=eq_true p190
                  replace q190:=eq_true q190
                  have ea_:=Option.some.inj (hx189_4.symm.trans hx190_4)
                  injection ea_ with ea_ en_ ec_
                  subst ea_
                  subst ec_
                  clear en_
                  have p191 : 0 ≤ (x4_4 : Int):=of_decide_eq_true (by first|(with_reducible assumption)|assumption)
                  have q191 : x4_4 < (((rd_T24 l0_4 x3_2).f4).length : Int):=of_decide_eq_true (by first|(with_reducible assumption)|assumption)
                  obtain ⟨ad191,A191_4,c191_4,e191,hx191_0,hx191_1,hx191_2,hx191_3,hx191_4,hl191_4,hi191_4⟩:=at_T24 HR190_4.out x4_4 p191 q191
                  cases e191
                  replace hx191_0:=(HB.out.cell (World.block_lt_of_cell? w _ hx191_0)).trans hx191_0
                  replace hx191_1:=(HB.out.cell (World.block_lt_of_cell? w _ hx191_1)).trans hx191_1
                  replace hx191_2:=(HB.out.cell (World.block_lt_of_cell? w _ hx191_2)).trans hx191_2
                  replace hx191_3:=(HB.out.cell (World.block_lt_of_cell? w _ hx191_3)).trans hx191_3
                  replace hx191_4:=(HB.out.cell (World.block_lt_of_cell? w _ hx191_4)).trans hx191_4
                  have HR191_4:=Aside0.mk hi191_4
                  have HC191_4:=Aside0.mk hl191_4
                  clear hi191_4 hl191_4
                  replace p191:=eq_true p191
                  replace q191:=eq_true q191
                  have p192 : 0 ≤ (x3_2 : Int):=of_decide_eq_true (by first|(with_reducible assumption)|assumption)
                  have q192 : x3_2 < (l0_4.length : Int):=of_decide_eq_true (by first|(with_reducible assumption)|assumption)
                  obtain ⟨ad192,A192_4,c192_4,e192,hx192_0,hx192_1,hx192_2,hx192_3,hx192_4,hl192_4,hi192_4⟩:=at_T24 HR0_4.out x3_2 p192 q192
                  obtain rfl : ad189 = ad192:=(by injection e192)
                  replace hx192_0:=(HB.out.cell (World.block_lt_of_cell? w _ hx192_0)).trans hx192_0
                  replace hx192_1:=(HB.out.cell (World.block_lt_of_cell? w _ hx192_1)).trans hx192_1
                  replace hx192_2:=(HB.out.cell (World.block_lt_of_cell? w _ hx192_2)).trans hx192_2
                  replace hx192_3:=(HB.out.cell (World.block_lt_of_cell? w _ hx192_3)).trans hx192_3
                  replace hx192_4:=(HB.out.cell (World.block_lt_of_cell? w _ hx192_4)).trans hx192_4
                  have HR192_4:=Aside0.mk hi192_4
                  have HC192_4:=Aside0.mk hl192_4
                  clear hi192_4 hl192_4
                  replace p192:=eq_true p192
                  replace q192:=eq_true q192
                  have ea_:=Option.some.inj (hx189_4.symm.trans hx192_4)
                  injection ea_ with ea_ en_ ec_
                  subst ea_
                  subst ec_
                  clear en_
                  have p193 : 0 ≤ (x4_4 : Int):=of_decide_eq_true (by first|(with_reducible assumption)|assumption)
                  have q193 : x4_4 < (((rd_T24 l0_4 x3_2).f4).length : Int):=of_decide_eq_true (by first|(with_reducible assumption)|assumption)
                  obtain ⟨ad193,A193_4,c193_4,e193,hx193_0,hx193_1,hx193_2,hx193_3,hx193_4,hl193_4,hi193_4⟩:=at_T24 HR192_4.out x4_4 p193 q193
                  cases e193
                  replace hx193_0:=(HB.out.cell (World.block_lt_of_cell? w _ hx193_0)).trans hx193_0
                  replace hx193_1:=(HB.out.cell (World.block_lt_of_cell? w _ hx193_1)).trans hx193_1
                  replace hx193_2:=(HB.out.cell (World.block_lt_of_cell? w _ hx193_2)).trans hx193_2
                  replace hx193_3:=(HB.out.cell (World.block_lt_of_cell? w _ hx193_3)).trans hx193_3
                  replace hx193_4:=(HB.out.cell (World.block_lt_of_cell? w _ hx193_4)).trans hx193_4
                  have HR193_4:=Aside0.mk hi193_4
                  have HC193_4:=Aside0.mk hl193_4
                  clear hi193_4 hl193_4
                  replace p193:=eq_true p193
                  replace q193:=eq_true q193
                  go_wp2
                  go_ret
                  exact ⟨by first|rfl|(simp [errW_none,errW_some] <;> rfl)|(simp [*,errW_none,errW_some] <;> rfl),by repeat (first|(with_reducible first|exact HB.out|apply below_alloc|apply pw_below_drewN|apply below_drew1|refine below_set ?_ GE186.out)|exact HB.out)⟩
                 ·rw [if_neg c22] at H
                  have c22b0 : decide (300 < (((rd_T24 ((rd_T24 l0_4 x3_2).f4) x4_4).f2).size : Int)) = false:=decide_eq_false c22
                  have c22b1 : decide (300 < ((rd_T24 ((rd_T24 l0_4 x3_2).f4) x4_4).f2).size) = false:=decide_eq_false (by omega)
                  clear c22
                  have H':=Aside0.mk H
                  clear H
                  have hcz24_0 : wr.cell? ⟨gb186,0,none⟩ = some (.int .i64 a0_0):=(blk_cell BK186.out 0).trans rfl
                  have hcz24_1 : wr.cell? ⟨gb186,1,none⟩ = some (.int .i64 a0_1):=(blk_cell BK186.out 1).trans rfl
                  have hcz24_2 : wr.cell? ⟨gb186,2,none⟩ = some (.string a0_2):=(blk_cell BK186.out 2).trans rfl
                  have hcz24_3 : wr.cell? ⟨gb186,3,none⟩ = some (.int .i64 a0_3):=(blk_cell BK186.out 3).trans rfl
                  have hcz24_4 : wr.cell? ⟨gb186,4,none⟩ = some (.slice A0_4 l0_4.length c0_4):=(blk_cell BK186.out 4).trans rfl
                  have hfz24_0:=blk_frozen BK186.out 0
                  have hfz24_1:=blk_frozen BK186.out 1
                  have hfz24_2:=blk_frozen BK186.out 2
                  have hfz24_3:=blk_frozen BK186.out 3
                  have hfz24_4:=blk_frozen BK186.out 4
                  have p189 : 0 ≤ (x3_2 : Int):=of_decide_eq_true (by first|(with_reducible assumption)|assumption)
                  have q189 : x3_2 < (l0_4.length : Int):=of_decide_eq_true (by first|(with_reducible assumption)|assumption)
                  obtain ⟨ad189,A189_4,c189_4,e189,hx189_0,hx189_1,hx189_2,hx189_3,hx189_4,hl189_4,hi189_4⟩:=at_T24 HR0_4.out x3_2 p189 q189
                  cases e189
                  replace hx189_0:=(HB.out.cell (World.block_lt_of_cell? w _ hx189_0)).trans hx189_0
                  replace hx189_1:=(HB.out.cell (World.block_lt_of_cell? w _ hx189_1)).trans hx189_1
                  replace hx189_2:=(HB.out.cell (World.block_lt_of_cell? w _ hx189_2)).trans hx189_2
                  replace hx189_3:=(HB.out.cell (World.block_lt_of_cell? w _ hx189_3)).trans hx189_3
                  replace hx189_4:=(HB.out.cell (World.block_lt_of_cell? w _ hx189_4)).trans hx189_4
                  have HR189_4:=Aside0.mk hi189_4
                  have HC189_4:=Aside0.mk hl189_4
                  clear hi189_4 hl189_4
                  replace p189:=eq_true p189
                  replace q189:=eq_true q189
                  have p190 : 0 ≤ (x3_2 : Int):=of_decide_eq_true (by first|(with_reducible assumption)|assumption)
                  have q190 : x3_2 < (l0_4.length : Int):=of_decide_eq_true (by first|(with_reducible assumption)|assumption)
                  obtain ⟨ad190,A190_4,c190_4,e190,hx190_0,hx190_1,hx190_2,hx190_3,hx190_4,hl190_4,hi190_4⟩:=at_T24 HR0_4.out x3_2 p190 q190
                  obtain rfl : ad189 = ad190:=(by injection e190)
                  replace hx190_0:=(HB.out.cell (World.block_lt_of_cell? w _ hx190_0)).trans hx190_0
                  replace hx190_1:=(HB.out.cell (World.block_lt_of_cell? w _ hx190_1)).trans hx190_1
                  replace hx190_2:=(HB.out.cell (World.block_lt_of_cell? w _ hx190_2)).trans hx190_2
                  replace hx190_3:=(HB.out.cell (World.block_lt_of_cell? w _ hx190_3)).trans hx190_3
                  replace hx190_4:=(HB.out.cell (World.block_lt_of_cell? w _ hx190_4)).trans hx190_4
                  have HR190_4:=Aside0.mk hi190_4
                  have HC190_4:=Aside0.mk hl190_4
                  clear hi190_4 hl190_4
                  replace p190:=eq_true p190
                  replace q190:=eq_true q190
                  have ea_:=Option.some.inj (hx189_4.symm.trans hx190_4)
                  injection ea_ with ea_ en_ ec_
                  subst ea_
                  subst ec_
                  clear en_
                  have p191 : 0 ≤ (x4_4 : Int):=of_decide_eq_true (by first|(with_reducible assumption)|assumption)
                  have q191 : x4_4 < (((rd_T24 l0_4 x3_2).f4).length : Int):=of_decide_eq_true (by first|(with_reducible assumption)|assumption)
                  obtain ⟨ad191,A191_4,c191_4,e191,hx191_0,hx191_1,hx191_2,hx191_3,hx191_4,hl191_4,hi191_4⟩:=at_T24 HR190_4.out x4_4 p191 q191
                  cases e191
                  replace hx191_0:=(HB.out.cell (World.block_lt_of_cell? w _ hx191_0)).trans hx191_0
                  replace hx191_1:=(HB.out.cell (World.block_lt_of_cell? w _ hx191_1)).trans hx191_1
                  replace hx191_2:=(HB.out.cell (World.block_lt_of_cell? w _ hx191_2)).trans hx191_2
                  replace hx191_3:=(HB.out.cell (World.block_lt_of_cell? w _ hx191_3)).trans hx191_3
                  replace hx191_4:=(HB.out.cell (World.block_lt_of_cell? w _ hx191_4)).trans hx191_4
                  have HR191_4:=Aside0.mk hi191_4
                  have HC191_4:=Aside0.mk hl191_4
                  clear hi191_4 hl191_4
                  replace p191:=eq_true p191
                  replace q191:=eq_true q191
                  have p192 : 0 ≤ (x3_2 : Int):=of_decide_eq_true (by first|(with_reducible assumption)|assumption)
                  have q192 : x3_2 < (l0_4.length : Int):=of_decide_eq_true (by first|(with_reducible assumption)|assumption)
                  obtain ⟨ad192,A192_4,c192_4,e192,hx192_0,hx192_1,hx192_2,hx192_3,hx192_4,hl192_4,hi192_4⟩:=at_T24 HR0_4.out x3_2 p192 q192
                  obtain rfl : ad189 = ad192:=(by injection e192)
                  replace hx192_0:=(HB.out.cell (World.block_lt_of_cell? w _ hx192_0)).trans hx192_0
                  replace hx192_1:=(HB.out.cell (World.block_lt_of_cell? w _ hx192_1)).trans hx192_1
                  replace hx192_2:=(HB.out.cell (World.block_lt_of_cell? w _ hx192_2)).trans hx192_2
                  replace hx192_3:=(HB.out.cell (World.block_lt_of_cell? w _ hx192_3)).trans hx192_3
                  replace hx192_4:=(HB.out.cell (World.block_lt_of_cell? w _ hx192_4)).trans hx192_4
                  have HR192_4:=Aside0.mk hi192_4
                  have HC192_4:=Aside0.mk hl192_4
                  clear hi192_4 hl192_4
                  replace p192:=eq_true p192
                  replace q192:=eq_true q192
                  have ea_:=Option.some.inj (hx189_4.symm.trans hx192_4)
                  injection ea_ with ea_ en_ ec_
                  subst ea_
                  subst ec_
                  clear en_
                  have p193 : 0 ≤ (x4_4 : Int):=of_decide_eq_true (by first|(with_reducible assumption)|assumption)
                  have q193 : x4_4 < (((rd_T24 l0_4 x3_2).f4).length : Int):=of_decide_eq_true (by first|(with_reducible assumption)|assumption)
                  obtain ⟨ad193,A193_4,c193_4,e193,hx193_0,hx193_1,hx193_2,hx193_3,hx193_4,hl193_4,hi193_4⟩:=at_T24 HR192_4.out x4_4 p193 q193
                  cases e193
                  replace hx193_0:=(HB.out.cell (World.block_lt_of_cell? w _ hx193_0)).trans hx193_0
                  replace hx193_1:=(HB.out.cell (World.block_lt_of_cell? w _ hx193_1)).trans hx193_1
                  replace hx193_2:=(HB.out.cell (World.block_lt_of_cell? w _ hx193_2)).trans hx193_2
                  replace hx193_3:=(HB.out.cell (World.block_lt_of_cell? w _ hx193_3)).trans hx193_3
                  replace hx193_4:=(HB.out.cell (World.block_lt_of_cell? w _ hx193_4)).trans hx193_4
                  have HR193_4:=Aside0.mk hi193_4
                  have HC193_4:=Aside0.mk hl193_4
                  clear hi193_4 hl193_4
                  replace p193:=eq_true p193
                  replace q193:=eq_true q193
                  go_wp2
                  go_roundg k4
                  case measure => have:=HJ1.out;have:=HK2.out;have:=HJ8.out;have:=HK4.out;omega
                  case rel => exact ⟨(wrap64 (x4_4 + 1)),(by first|rfl|(simp;done)|(simp [*];done)),H',⟨by have:=HJ1.out;have:=HK2.out;have:=HJ8.out;have:=HK4.out;omega⟩,⟨by (with_reducible repeat (first|refine blk_drewN ?_ _|refine blk_drew ?_|refine blk_alloc ?_ _));exact BK186.out⟩,⟨by repeat (first|(with_reducible first|exact HB.out|apply below_alloc|apply pw_below_drewN|apply below_drew1|refine below_set ?_ GE186.out)|exact HB.out)⟩⟩
               ·rw [if_neg c19] at H
                exact absurd H (by simp)
              ·rw [if_neg c18] at H
               have c18b0 : decide (x4_4 < (((rd_T24 l0_4 x3_2).f4).length : Int)) = false:=decide_eq_false c18
               clear c18
               have H':=Aside0.mk H
               clear H
               have hcz25_0 : wr.cell? ⟨gb186,0,none⟩ = some (.int .i64 a0_0):=(blk_cell BK186.out 0).trans rfl
               have hcz25_1 : wr.cell? ⟨gb186,1,none⟩ = some (.int .i64 a0_1):=(blk_cell BK186.out 1).trans rfl
               have hcz25_2 : wr.cell? ⟨gb186,2,none⟩ = some (.string a0_2):=(blk_cell BK186.out 2).trans rfl
               have hcz25_3 : wr.cell? ⟨gb186,3,none⟩ = some (.int .i64 a0_3):=(blk_cell BK186.out 3).trans rfl
               have hcz25_4 : wr.cell? ⟨gb186,4,none⟩ = some (.slice A0_4 l0_4.length c0_4):=(blk_cell BK186.out 4).trans rfl
               have hfz25_0:=blk_frozen BK186.out 0
               have hfz25_1:=blk_frozen BK186.out 1
               have hfz25_2:=blk_frozen BK186.out 2
               have hfz25_3:=blk_frozen BK186.out 3
               have hfz25_4:=blk_frozen BK186.out 4
               have p189 : 0 ≤ (x3_2 : Int):=of_decide_eq_true (by first|(with_reducible assumption)|assumption)
               have q189 : x3_2 < (l0_4.length : Int):=of_decide_eq_true (by first|(with_reducible assumption)|assumption)
               obtain ⟨ad189,A189_4,c189_4,e189,hx189_0,hx189_1,hx189_2,hx189_3,hx189_4,hl189_4,hi189_4⟩:=at_T24 HR0_4.out x3_2 p189 q189
               cases e189
               replace hx189_0:=(HB.out.cell (World.block_lt_of_cell? w _ hx189_0)).trans hx189_0
               replace hx189_1:=(HB.out.cell (World.block_lt_of_cell? w _ hx189_1)).trans hx189_1
               replace hx189_2:=(HB.out.cell (World.block_lt_of_cell? w _ hx189_2)).trans hx189_2
               replace hx189_3:=(HB.out.cell (World.block_lt_of_cell? w _ hx189_3)).trans hx189_3
               replace hx189_4:=(HB.out.cell (World.block_lt_of_cell? w _ hx189_4)).trans hx189_4
               have HR189_4:=Aside0.mk hi189_4
               have HC189_4:=Aside0.mk hl189_4
               clear hi189_4 hl189_4
               replace p189:=eq_true p189
               replace q189:=eq_true q189
               go_wp2
               go_roundg k4
               case measure => have:=HJ1.out;have:=HK2.out;have:=HJ8.out;have:=HK4.out;omega
               case rel => exact ⟨(wrap64 (x3_2 + 1)),(by first|rfl|(simp;done)|(simp [*];done)),H',⟨by have:=HJ1.out;have:=HK2.out;have:=HJ8.out;have:=HK4.out;omega⟩,⟨by (with_reducible repeat (first|refine blk_drewN ?_ _|refine blk_drew ?_|refine blk_alloc ?_ _));exact BK186.out⟩,⟨by repeat (first|(with_reducible first|exact HB.out|apply below_alloc|apply pw_below_drewN|apply below_drew1|refine below_set ?_ GE186.out)|exact HB.out)⟩⟩
             ·rw [if_neg c17] at H
              exact absurd H (by simp)
            ·rw [if_neg c16] at H
             exact absurd H (by simp)
      ·rw [if_neg c8] at H
       have c8b0 : decide (x3_2 < (l0_4.length : Int)) = false:=decide_eq_false c8
       clear c8
       obtain rfl:=Option.some.inj H
       have hcz26_0 : wr.cell? ⟨gb186,0,none⟩ = some (.int .i64 a0_0):=(blk_cell BK186.out 0).trans rfl
       have hcz26_1 : wr.cell? ⟨gb186,1,none⟩ = some (.int .i64 a0_1):=(blk_cell BK186.out 1).trans rfl
       have hcz26_2 : wr.cell? ⟨gb186,2,none⟩ = some (.string a0_2):=(blk_cell BK186.out 2).trans rfl
       have hcz26_3 : wr.cell? ⟨gb186,3,none⟩ = some (.int .i64 a0_3):=(blk_cell BK186.out 3).trans rfl
       have hcz26_4 : wr.cell? ⟨gb186,4,none⟩ = some (.slice A0_4 l0_4.length c0_4):=(blk_cell BK186.out 4).trans rfl
       have hfz26_0:=blk_frozen BK186.out 0
       have hfz26_1:=blk_frozen BK186.out 1
       have hfz26_2:=blk_frozen BK186.out 2
       have hfz26_3:=blk_frozen BK186.out 3
       have hfz26_4:=blk_frozen BK186.out 4
       go_wp2
       go_ret
       exact ⟨by first|rfl|(simp [errW_none,errW_some] <;> rfl)|(simp [*,errW_none,errW_some] <;> rfl),by repeat (first|(with_reducible first|exact HB.out|apply below_alloc|apply pw_below_drewN|apply below_drew1|refine below_set ?_ GE186.out)|exact HB.out)⟩

end Go.Proofs.Ythbnblmnamckmaa.PAll
-- Laid by a program of this seat (wip/xprint.py over the kit's print).
namespace Go.Proofs.Ythbnblmnamckmaa.PAll
open Go.RowKit Go.Proofs.YthbnblmnamckmaaW.PrintWords Go.Proofs.YthbnblmnamckmaaW.PrintLast Go.Proofs.YthbnblmnamckmaaW.PrintMore
attribute [local go_sem] max2_int min2_int max_two min_two max_three min_three max_four min_four   -- for this text's walks alone
set_option linter.unusedVariables false
set_option linter.unusedSimpArgs false

/-! ### windlasshelp_Smalls: function 11 -/
def windlasshelp_Smalls.l0 : Nat → List (S24) → Int → Option (Bool)
  | 0, _, _ => none
  | k + 1, x0, x3 => if x3 < (x0.length : Int) then (if 0 ≤ x3 then ((windlasshelp_Small.f k ((rd_T24 x0 x3).f0) ((rd_T24 x0 x3).f1) ((rd_T24 x0 x3).f2) ((rd_T24 x0 x3).f3) ((rd_T24 x0 x3).f4)).bind fun t195 => (if t195 = true then (windlasshelp_Smalls.l0 k x0 (wrap64 (x3 + 1))) else (some false))) else (none)) else (some (decide ((x0.length : Int) ≤ 20)))
def windlasshelp_Smalls.f (k : Nat) (l0 : List (S24)) : Option (Bool) := windlasshelp_Smalls.l0 k l0 0
theorem windlasshelp_Smalls.mono_l : ∀ k, (∀ y0 y1, LeO (windlasshelp_Smalls.l0 k y0 y1) (windlasshelp_Smalls.l0 (k + 1) y0 y1))
  | 0 => fun _ _ r h => by simp [windlasshelp_Smalls.l0] at h
  | k + 1 => by
    have ih0 := windlasshelp_Smalls.mono_l k
    · intro y0 y1
      unfold windlasshelp_Smalls.l0
      repeat' first
      | (with_reducible exact ih0 _ _)
      | (with_reducible exact windlasshelp_Small.mono _ _ _ _ _ _)
      | (with_reducible exact LeO.refl _)
      | (with_reducible exact LeO.none _)
      | (with_reducible refine LeO.ite ?_ ?_)
      | (with_reducible refine LeO.bind ?_ (fun _ => ?_))
      | exact ih0 _ _
      | exact windlasshelp_Small.mono _ _ _ _ _ _
      | exact LeO.none _
      | refine LeO.ite ?_ ?_
      | refine LeO.bind ?_ (fun _ => ?_)
theorem windlasshelp_Smalls.mono : ∀ a0 k, LeO (windlasshelp_Smalls.f k a0) (windlasshelp_Smalls.f (k + 1) a0) := by
  intro a0 k
  have ih0 := windlasshelp_Smalls.mono_l k
  unfold windlasshelp_Smalls.f
  repeat' first
      | (with_reducible exact ih0 _ _)
      | (with_reducible exact windlasshelp_Small.mono _ _ _ _ _ _)
      | (with_reducible exact LeO.refl _)
      | (with_reducible exact LeO.none _)
      | (with_reducible refine LeO.ite ?_ ?_)
      | (with_reducible refine LeO.bind ?_ (fun _ => ?_))
      | exact ih0 _ _
      | exact windlasshelp_Small.mono _ _ _ _ _ _
      | exact LeO.none _
      | refine LeO.ite ?_ ?_
      | refine LeO.bind ?_ (fun _ => ?_)
set_option maxHeartbeats 8000000 in
set_option maxRecDepth 100000 in
theorem windlasshelp_Smalls.calls (k : Nat) (A0 : Option Addr) (c0 : Nat) (l0 : List (S24)) (r : Bool) (w : World) (hr0 : Kd.C k24 w A0 l0.length l0) (hc0 : l0.length ≤ c0) (h : windlasshelp_Smalls.f k l0 = some r) :
    Calls Try.prog 11 #[.slice A0 l0.length c0] w fun e w' => e = .returned (.bool r) ∧ Below w.heap.size w w' := by
  have hu24 := Try.underlying24
  have HR0 := Aside0.mk hr0
  have HC0 := Aside0.mk hc0
  clear hr0 hc0
  have HB := Aside0.mk (Below.refl w.heap.size w)
  have H : (windlasshelp_Smalls.l0 k l0 0) = some r := h
  clear h
  have H' := Aside0.mk H
  clear H
  go_enter Try.func11, Try.ntmps11
  go_wp2
  go_loopg [3] k (fun kq v3 w' => ∃ (x3_1 : Int), v3 = .int .i64 x3_1 ∧ Aside0 (windlasshelp_Smalls.l0 kq l0 x3_1 = some r) ∧ Aside0 (kq ≤ k) ∧ Aside0 (Below w.heap.size w w'))
  case atStart => exact ⟨(0), (by first | rfl | (simp; done) | (simp [*]; done)), H', ⟨Nat.le_refl _⟩, ⟨by repeat (first | (with_reducible first | exact HB.out | apply below_alloc | apply pw_below_drewN | apply below_drew1) | exact HB.out)⟩⟩
  case round =>
    clear H'
    try clear c1
    obtain ⟨x3_1, rfl, HA, HK1, HB⟩ := hrel
    cases gk with
    | zero => exact absurd HA.out (by simp [windlasshelp_Smalls.l0])
    | succ k1 =>
      have H := HA.out
      clear HA
      simp only [windlasshelp_Smalls.l0] at H
      by_cases c2 : x3_1 < (l0.length : Int)
      · rw [if_pos c2] at H
        have c2b0 : decide (x3_1 < (l0.length : Int)) = true := decide_eq_true c2
        clear c2
        by_cases c3 : 0 ≤ x3_1
        · rw [if_pos c3] at H
          have c3b0 : decide (0 ≤ x3_1) = true := decide_eq_true c3
          clear c3
          replace H := Option.bind_eq_some_iff.mp H
          obtain ⟨t195, A40, H⟩ := H
          replace H : (if t195 = true then (windlasshelp_Smalls.l0 k1 l0 (wrap64 (x3_1 + 1))) else (some false)) = some r := H
          have A4 := Aside0.mk A40
          clear A40
          by_cases c5 : t195 = true
          · subst c5
            have H1 : (windlasshelp_Smalls.l0 k1 l0 (wrap64 (x3_1 + 1))) = some r := by rw [if_pos rfl] at H; exact H
            clear H
            have H := H1
            clear H1
            have H' := Aside0.mk H
            clear H
            have p194 : 0 ≤ (x3_1 : Int) := of_decide_eq_true (by first | (with_reducible assumption) | assumption)
            have q194 : x3_1 < (l0.length : Int) := of_decide_eq_true (by first | (with_reducible assumption) | assumption)
            obtain ⟨ad194, A194_4, c194_4, e194, hx194_0, hx194_1, hx194_2, hx194_3, hx194_4, hl194_4, hi194_4⟩ := at_T24 HR0.out x3_1 p194 q194
            cases e194
            replace hx194_0 := (HB.out.cell (World.block_lt_of_cell? w _ hx194_0)).trans hx194_0
            replace hx194_1 := (HB.out.cell (World.block_lt_of_cell? w _ hx194_1)).trans hx194_1
            replace hx194_2 := (HB.out.cell (World.block_lt_of_cell? w _ hx194_2)).trans hx194_2
            replace hx194_3 := (HB.out.cell (World.block_lt_of_cell? w _ hx194_3)).trans hx194_3
            replace hx194_4 := (HB.out.cell (World.block_lt_of_cell? w _ hx194_4)).trans hx194_4
            have HR194_4 := Aside0.mk hi194_4
            have HC194_4 := Aside0.mk hl194_4
            clear hi194_4 hl194_4
            replace p194 := eq_true p194
            replace q194 := eq_true q194
            go_wp2_with (first | ((with_reducible refine gate_callee (f := 10) rfl ?_); refine goesL_ (some 14) rfl rfl Try.func10 (by kernel_rfl) rfl #[.agg #[.int .i64 ((rd_T24 l0 x3_1).f0), .int .i64 ((rd_T24 l0 x3_1).f1), .string ((rd_T24 l0 x3_1).f2), .int .i64 ((rd_T24 l0 x3_1).f3), .slice A194_4 ((rd_T24 l0 x3_1).f4).length c194_4]] rfl (by (try simp only [List.map_toArray, List.map_cons, List.map_nil]); first | done | rfl | (simp only [List.length_drop, List.length_take]; rfl) | (go_simp; done) | (go_simp; simp; done)) ?_; (with_reducible refine (windlasshelp_Small.calls k1 ((rd_T24 l0 x3_1).f0) ((rd_T24 l0 x3_1).f1) ((rd_T24 l0 x3_1).f2) ((rd_T24 l0 x3_1).f3) _ _ ((rd_T24 l0 x3_1).f4) true _ ?side1 ?side2 A4.out).mono ?_); (case side1 => repeat (first | exact (Kd.C_below HR194_4.out HB.out) | (with_reducible refine Kd.C_alloc ?_ _) | (with_reducible refine Kd.C_drewN ?_ _) | (with_reducible refine Kd.C_drew ?_))); (case side2 => exact HC194_4.out); rintro e w6 ⟨rfl, hb⟩; refine ⟨_, rfl, ?_⟩; have n0_ := Aside0.mk (below_step (by repeat (first | (with_reducible first | exact HB.out | apply below_alloc | apply pw_below_drewN | apply below_drew1) | exact HB.out)) hb); clear HB; have HB := n0_; clear n0_; (try clear hb); (try clear hb2); (try clear hk); (try clear hi)))
            go_roundg k1
            case measure => have := HK1.out; omega
            case rel => exact ⟨(wrap64 (x3_1 + 1)), (by first | rfl | (simp; done) | (simp [*]; done)), H', ⟨by have := HK1.out; omega⟩, ⟨by repeat (first | (with_reducible first | exact HB.out | apply below_alloc | apply pw_below_drewN | apply below_drew1) | exact HB.out)⟩⟩
          · replace c5 := Bool.eq_false_iff.mpr c5
            subst c5
            have H1 : (some false) = some r := by rw [if_neg (show ¬ (false = true) by decide)] at H; exact H
            clear H
            have H := H1
            clear H1
            obtain rfl := Option.some.inj H
            have p194 : 0 ≤ (x3_1 : Int) := of_decide_eq_true (by first | (with_reducible assumption) | assumption)
            have q194 : x3_1 < (l0.length : Int) := of_decide_eq_true (by first | (with_reducible assumption) | assumption)
            obtain ⟨ad194, A194_4, c194_4, e194, hx194_0, hx194_1, hx194_2, hx194_3, hx194_4, hl194_4, hi194_4⟩ := at_T24 HR0.out x3_1 p194 q194
            cases e194
            replace hx194_0 := (HB.out.cell (World.block_lt_of_cell? w _ hx194_0)).trans hx194_0
            replace hx194_1 := (HB.out.cell (World.block_lt_of_cell? w _ hx194_1)).trans hx194_1
            replace hx194_2 := (HB.out.cell (World.block_lt_of_cell? w _ hx194_2)).trans hx194_2
            replace hx194_3 := (HB.out.cell (World.block_lt_of_cell? w _ hx194_3)).trans hx194_3
            replace hx194_4 := (HB.out.cell (World.block_lt_of_cell? w _ hx194_4)).trans hx194_4
            have HR194_4 := Aside0.mk hi194_4
            have HC194_4 := Aside0.mk hl194_4
            clear hi194_4 hl194_4
            replace p194 := eq_true p194
            replace q194 := eq_true q194
            go_wp2_with (first | ((with_reducible refine gate_callee (f := 10) rfl ?_); refine goesL_ (some 14) rfl rfl Try.func10 (by kernel_rfl) rfl #[.agg #[.int .i64 ((rd_T24 l0 x3_1).f0), .int .i64 ((rd_T24 l0 x3_1).f1), .string ((rd_T24 l0 x3_1).f2), .int .i64 ((rd_T24 l0 x3_1).f3), .slice A194_4 ((rd_T24 l0 x3_1).f4).length c194_4]] rfl (by (try simp only [List.map_toArray, List.map_cons, List.map_nil]); first | done | rfl | (simp only [List.length_drop, List.length_take]; rfl) | (go_simp; done) | (go_simp; simp; done)) ?_; (with_reducible refine (windlasshelp_Small.calls k1 ((rd_T24 l0 x3_1).f0) ((rd_T24 l0 x3_1).f1) ((rd_T24 l0 x3_1).f2) ((rd_T24 l0 x3_1).f3) _ _ ((rd_T24 l0 x3_1).f4) false _ ?side1 ?side2 A4.out).mono ?_); (case side1 => repeat (first | exact (Kd.C_below HR194_4.out HB.out) | (with_reducible refine Kd.C_alloc ?_ _) | (with_reducible refine Kd.C_drewN ?_ _) | (with_reducible refine Kd.C_drew ?_))); (case side2 => exact HC194_4.out); rintro e w7 ⟨rfl, hb⟩; refine ⟨_, rfl, ?_⟩; have n0_ := Aside0.mk (below_step (by repeat (first | (with_reducible first | exact HB.out | apply below_alloc | apply pw_below_drewN | apply below_drew1) | exact HB.out)) hb); clear HB; have HB := n0_; clear n0_; (try clear hb); (try clear hb2); (try clear hk); (try clear hi)))
            go_ret
            exact ⟨by first | rfl | (simp [errW_none, errW_some] <;> rfl) | (simp [*, errW_none, errW_some] <;> rfl), by repeat (first | (with_reducible first | exact HB.out | apply below_alloc | apply pw_below_drewN | apply below_drew1) | exact HB.out)⟩
        · rw [if_neg c3] at H
          exact absurd H (by simp)
      · rw [if_neg c2] at H
        have c2b0 : decide (x3_1 < (l0.length : Int)) = false := decide_eq_false c2
        clear c2
        obtain rfl := Option.some.inj H
        go_wp2
        go_ret
        exact ⟨by first | rfl | (simp [errW_none, errW_some] <;> rfl) | (simp [*, errW_none, errW_some] <;> rfl), by repeat (first | (with_reducible first | exact HB.out | apply below_alloc | apply pw_below_drewN | apply below_drew1) | exact HB.out)⟩

end Go.Proofs.Ythbnblmnamckmaa.PAll
-- Laid by a program of this seat (wip/xprint.py over the kit's print).
namespace Go.Proofs.Ythbnblmnamckmaa.PAll
open Go.RowKit Go.Proofs.YthbnblmnamckmaaW.PrintWords Go.Proofs.YthbnblmnamckmaaW.PrintLast Go.Proofs.YthbnblmnamckmaaW.PrintMore
attribute [local go_sem] max2_int min2_int max_two min_two max_three min_three max_four min_four   -- for this text's walks alone
set_option linter.unusedVariables false
set_option linter.unusedSimpArgs false

/-! ### codec_PutEvent: function 14 -/
mutual
def codec_PutEvent.j0 : Nat → Bool → ByteArray → List (S24) → Option (List Int × Int)
 | 0,_,_,_ => none
 | k + 1,x24,x197000,x197001 => if x24 = true then (some (([] : List Int),20)) else ((codec_PutText.f k x197000).bind fun t197 => ((codec_PutUint.f k (IntKind.u64.wrap ((x197001.length : Int)))).bind fun t200 => (if t197.length + t200.length < 140737488355328 then (codec_PutEvent.l0 k (t197 ++ t200) x197001 (x197001.length : Int) 0) else (none))))
def codec_PutEvent.l0 : Nat → List Int → List (S24) → Int → Int → Option (List Int × Int)
 | 0,_,_,_,_ => none
 | k + 1,x4,x35,x36,x37 => if x37 < x36 then (if 0 ≤ x37 then (if x37 < (x35.length : Int) then ((codec_PutValue.f k ((rd_T24 x35 x37).f0) ((rd_T24 x35 x37).f1) ((rd_T24 x35 x37).f2) ((rd_T24 x35 x37).f3) ((rd_T24 x35 x37).f4)).bind fun bt208 => (if bt208.2 = 0 then (if x4.length + bt208.1.length < 140737488355328 then (codec_PutEvent.l0 k (x4 ++ bt208.1) x35 x36 (wrap64 (x37 + 1))) else (none)) else (some (([] : List Int),bt208.2)))) else (none)) else (none)) else (some (x4,0))
end
def codec_PutEvent.f (k : Nat) (a0_0 : ByteArray) (l0_1 : List (S24)) : Option (List Int × Int):=if (a0_0.size : Int) < 1 then (codec_PutEvent.j0 k true a0_0 l0_1) else (if (a0_0.size : Int) > 20 then (codec_PutEvent.j0 k true a0_0 l0_1) else (codec_PutEvent.j0 k (decide ((l0_1.length : Int) > 12)) a0_0 l0_1))
theorem codec_PutEvent.mono_l : ∀ k,(∀ y0 y1 y2,LeO (codec_PutEvent.j0 k y0 y1 y2) (codec_PutEvent.j0 (k + 1) y0 y1 y2)) ∧ (∀ y0 y1 y2 y3,LeO (codec_PutEvent.l0 k y0 y1 y2 y3) (codec_PutEvent.l0 (k + 1) y0 y1 y2 y3))
 | 0 => ⟨fun _ _ _ r h => by simp [codec_PutEvent.j0] at h,fun _ _ _ _ r h => by simp [codec_PutEvent.l0] at h⟩
 | k + 1 => by
  obtain ⟨ih0,ih1⟩:=codec_PutEvent.mono_l k
  refine ⟨?_,?_⟩
  ·intro y0 y1 y2
   unfold codec_PutEvent.j0
   repeat' first
   | (with_reducible exact ih0 _ _ _)
   | (with_reducible exact ih1 _ _ _ _)
   | (with_reducible exact codec_PutText.mono _ _)
   | (with_reducible exact codec_PutUint.mono _ _)
   | (with_reducible exact codec_PutValue.mono _ _ _ _ _ _)
   | (with_reducible exact LeO.refl _)
   | (with_reducible exact LeO.none _)
   | (with_reducible refine LeO.ite ?_ ?_)
   | (with_reducible refine LeO.bind ?_ (fun _ => ?_))
   | exact ih0 _ _ _
   | exact ih1 _ _ _ _
   | exact codec_PutText.mono _ _
   | exact codec_PutUint.mono _ _
   | exact codec_PutValue.mono _ _ _ _ _ _
   | exact LeO.none _
   | refine LeO.ite ?_ ?_
   | refine LeO.bind ?_ (fun _ => ?_)
  ·intro y0 y1 y2 y3
   unfold codec_PutEvent.l0
   repeat' first
   | (with_reducible exact ih0 _ _ _)
   | (with_reducible exact ih1 _ _ _ _)
   | (with_reducible exact codec_PutText.mono _ _)
   | (with_reducible exact codec_PutUint.mono _ _)
   | (with_reducible exact codec_PutValue.mono _ _ _ _ _ _)
   | (with_reducible exact LeO.refl _)
   | (with_reducible exact LeO.none _)
   | (with_reducible refine LeO.ite ?_ ?_)
   | (with_reducible refine LeO.bind ?_ (fun _ => ?_))
   | exact ih0 _ _ _
   | exact ih1 _ _ _ _
   | exact codec_PutText.mono _ _
   | exact codec_PutUint.mono _ _
   | exact codec_PutValue.mono _ _ _ _ _ _
   | exact LeO.none _
   | refine LeO.ite ?_ ?_
   | refine LeO.bind ?_ (fun _ => ?_)
theorem codec_PutEvent.mono : ∀ a0 a1 k,LeO (codec_PutEvent.f k a0 a1) (codec_PutEvent.f (k + 1) a0 a1):=by
 intro a0 a1 k
 obtain ⟨ih0,ih1⟩:=codec_PutEvent.mono_l k
 unfold codec_PutEvent.f
 repeat' first
   | (with_reducible exact ih0 _ _ _)
   | (with_reducible exact ih1 _ _ _ _)
   | (with_reducible exact codec_PutText.mono _ _)
   | (with_reducible exact codec_PutUint.mono _ _)
   | (with_reducible exact codec_PutValue.mono _ _ _ _ _ _)
   | (with_reducible exact LeO.refl _)
   | (with_reducible exact LeO.none _)
   | (with_reducible refine LeO.ite ?_ ?_)
   | (with_reducible refine LeO.bind ?_ (fun _ => ?_))
   | exact ih0 _ _ _
   | exact ih1 _ _ _ _
   | exact codec_PutText.mono _ _
   | exact codec_PutUint.mono _ _
   | exact codec_PutValue.mono _ _ _ _ _ _
   | exact LeO.none _
   | refine LeO.ite ?_ ?_
   | refine LeO.bind ?_ (fun _ => ?_)
def codec_PutEvent.T3 : Bool × List (List Nat × List Nat):=(true,[([],[]),([0],[0]),([1],[1]),([],[]),([3],[3]),([4],[4]),([5],[5]),([6,2],[6]),([2,7,7],[2,7]),([8,8,0,1,2,3,4,5,6,7,8],[8])])
def codec_PutEvent.B3 : List Nat:=[0,1,3,0,8,24,56,127,255,511]
theorem codec_PutEvent.tab3 : rtab .any (opsOf Try.f14 3) = codec_PutEvent.T3:=by kernel_rfl
theorem codec_PutEvent.bits3 : waitsOk codec_PutEvent.T3.2 codec_PutEvent.B3 = true:=by kernel_rfl
set_option maxHeartbeats 8000000 in
set_option maxRecDepth 100000 in
theorem codec_PutEvent.calls (k : Nat) (a0_0 : ByteArray) (A0_1 : Option Addr) (c0_1 : Nat) (l0_1 : List (S24)) (r1 : List Int) (r2 : Int) (w : World) (hr0_1 : Kd.C k24 w A0_1 l0_1.length l0_1) (hc0_1 : l0_1.length ≤ c0_1) (h : codec_PutEvent.f k a0_0 l0_1 = some (r1,r2)) :
  Calls Try.prog 14 #[.agg #[.string a0_0, .slice A0_1 l0_1.length c0_1]] w fun e w' => ∃ v0_ : Value,e = .returned (.tuple #[v0_, .int .i64 r2]) ∧ Kd.R (Kd.int .u8) 5 w' w.heap.size (fun _ => True) v0_ r1 ∧ Below w.heap.size w w':=by
 have hu26:=Try.underlying26
 have hu24:=Try.underlying24
 have HR0_1:=Aside0.mk hr0_1
 have HC0_1:=Aside0.mk hc0_1
 clear hr0_1 hc0_1
 have HB:=Aside0.mk (Below.refl w.heap.size w)
 have H : (if (a0_0.size : Int) < 1 then (codec_PutEvent.j0 k true a0_0 l0_1) else (if (a0_0.size : Int) > 20 then (codec_PutEvent.j0 k true a0_0 l0_1) else (codec_PutEvent.j0 k (decide ((l0_1.length : Int) > 12)) a0_0 l0_1))) = some (r1,r2):=h
 clear h
 have HC2:=Aside0.mk H
 clear H
 go_enter Try.func14,Try.ntmps14
 go_upto_region 1 with (first|((with_reducible refine gate_dst (N:=1) rfl ?_);(try (refine gate_guard (by rfl) ?_;dsimp only));refine box_event ?hg (N:=1) ?hd (cs:=#[.string a0_0, .slice A0_1 l0_1.length c0_1]) (t:=26) ?hr ?_;(case hd => rfl);(case hg => rfl);(case hr => first|(go_simp;done)|(go_simp;rfl));intro gb196 hg w3 hbox hb;have n0_:=Aside0.mk (below_step (by repeat (first|(with_reducible first|exact HB.out|apply below_alloc|apply pw_below_drewN|apply below_drew1)|exact HB.out)) hb);have n1_:=Aside0.mk (hbox);have n2_:=Aside0.mk ((by rw [hg];exact (below_size (by repeat (first|(with_reducible first|exact HB.out|apply below_alloc|apply pw_below_drewN|apply below_drew1)|exact HB.out))) : w.heap.size ≤ gb196));have n3_:=Aside0.mk ((by rw [hg];exact (below_size (by repeat (first|(with_reducible first|exact HB.out|apply below_alloc|apply pw_below_drewN|apply below_drew1)|exact HB.out))) : w.heap.size ≤ gb196));clear HB;have HB:=n0_;have BK196:=n1_;have GW196:=n2_;have GE196:=n3_;clear n0_ n1_ n2_ n3_;clear hb hbox hg))
 (try simp only [Act.put,List.setIfInBounds_toArray,List.set_cons_zero,List.set_cons_succ])
 go_cut [24] (fun v24 wc => ∃ (kq : Nat) (x24_1 : Bool),v24 = .bool x24_1 ∧ Aside0 (codec_PutEvent.j0 kq x24_1 a0_0 l0_1 = some (r1,r2)) ∧ Aside0 (kq ≤ k) ∧ Aside0 (wc.heap[gb196]? = some (.cells #[.string a0_0,(.slice A0_1 l0_1.length c0_1)] 26 (0,0))) ∧ Aside0 (Below w.heap.size w wc))
 case first =>
  have H:=HC2.out
  clear HC2
  by_cases c4 : (a0_0.size : Int) < 1
  ·rw [if_pos c4] at H
   have c4b0 : decide ((a0_0.size : Int) < 1) = true:=decide_eq_true c4
   have c4b1 : decide (a0_0.size < 1) = true:=decide_eq_true (by omega)
   clear c4
   (first|rw [c4b0]|(simp only [i64_w,i32_w];rw [c4b0])|skip)
   have H':=Aside0.mk H
   clear H
   have hcz5_0 : w3.cell? ⟨gb196,0,none⟩ = some (.string a0_0):=(blk_cell BK196.out 0).trans rfl
   have hcz5_1 : w3.cell? ⟨gb196,1,none⟩ = some (.slice A0_1 l0_1.length c0_1):=(blk_cell BK196.out 1).trans rfl
   have hfz5_0:=blk_frozen BK196.out 0
   have hfz5_1:=blk_frozen BK196.out 1
   go_wp2
   go_meet
   case rel => exact ⟨_,(true),(by first|rfl|(simp;done)|(simp [*];done)),H',⟨by first|omega|exact Nat.le_refl _⟩,⟨by (with_reducible repeat (first|refine blk_drewN ?_ _|refine blk_drew ?_|refine blk_alloc ?_ _));exact BK196.out⟩,⟨by repeat (first|(with_reducible first|exact HB.out|apply below_alloc|apply pw_below_drewN|apply below_drew1|refine below_set ?_ GE196.out)|exact HB.out)⟩⟩
  ·rw [if_neg c4] at H
   have c4b0 : decide ((a0_0.size : Int) < 1) = false:=decide_eq_false c4
   have c4b1 : decide (a0_0.size < 1) = false:=decide_eq_false (by omega)
   clear c4
   (first|rw [c4b0]|(simp only [i64_w,i32_w];rw [c4b0])|skip)
   by_cases c6 : (a0_0.size : Int) > 20
   ·rw [if_pos c6] at H
    have c6b0 : decide (20 < (a0_0.size : Int)) = true:=decide_eq_true c6
    have c6b1 : decide (20 < a0_0.size) = true:=decide_eq_true (by omega)
    clear c6
    have H':=Aside0.mk H
    clear H
    have hcz7_0 : w3.cell? ⟨gb196,0,none⟩ = some (.string a0_0):=(blk_cell BK196.out 0).trans rfl
    have hcz7_1 : w3.cell? ⟨gb196,1,none⟩ = some (.slice A0_1 l0_1.length c0_1):=(blk_cell BK196.out 1).trans rfl
    have hfz7_0:=blk_frozen BK196.out 0
    have hfz7_1:=blk_frozen BK196.out 1
    go_wp2
    go_meet
    case rel => exact ⟨_,(true),(by first|rfl|(simp;done)|(simp [*];done)),H',⟨by first|omega|exact Nat.le_refl _⟩,⟨by (with_reducible repeat (first|refine blk_drewN ?_ _|refine blk_drew ?_|refine blk_alloc ?_ _));exact BK196.out⟩,⟨by repeat (first|(with_reducible first|exact HB.out|apply below_alloc|apply pw_below_drewN|apply below_drew1|refine below_set ?_ GE196.out)|exact HB.out)⟩⟩
   ·rw [if_neg c6] at H
    have c6b0 : decide (20 < (a0_0.size : Int)) = false:=decide_eq_false c6
    have c6b1 : decide (20 < a0_0.size) = false:=decide_eq_false (by omega)
    clear c6
    have H':=Aside0.mk H
    clear H
    have hcz8_0 : w3.cell? ⟨gb196,0,none⟩ = some (.string a0_0):=(blk_cell BK196.out 0).trans rfl
    have hcz8_1 : w3.cell? ⟨gb196,1,none⟩ = some (.slice A0_1 l0_1.length c0_1):=(blk_cell BK196.out 1).trans rfl
    have hfz8_0:=blk_frozen BK196.out 0
    have hfz8_1:=blk_frozen BK196.out 1
    go_wp2
    go_meet
    case rel => exact ⟨_,(decide ((l0_1.length : Int) > 12)),(by first|rfl|(simp;done)|(simp [*];done)),H',⟨by first|omega|exact Nat.le_refl _⟩,⟨by (with_reducible repeat (first|refine blk_drewN ?_ _|refine blk_drew ?_|refine blk_alloc ?_ _));exact BK196.out⟩,⟨by repeat (first|(with_reducible first|exact HB.out|apply below_alloc|apply pw_below_drewN|apply below_drew1|refine below_set ?_ GE196.out)|exact HB.out)⟩⟩
 case rest =>
  clear HC2
  try clear c1
  try clear p2
  try clear c4
  try clear c4b0
  try clear c4b1
  try clear c6
  try clear c6b0
  try clear c6b1
  try clear hcz5_0
  try clear hcz5_1
  try clear hcz7_0
  try clear hcz7_1
  try clear hcz8_0
  try clear hcz8_1
  try clear hfz5_0
  try clear hfz5_1
  try clear hfz7_0
  try clear hfz7_1
  try clear hfz8_0
  try clear hfz8_1
  obtain ⟨kq,x24_1,rfl,HA,HJ1,BK196,HB⟩:=hcut
  cases kq with
  | zero => exact absurd HA.out (by simp [codec_PutEvent.j0])
  | succ kj1 =>
   have H:=HA.out
   clear HA
   simp only [codec_PutEvent.j0] at H
   by_cases c9 : x24_1 = true
   ·subst c9
    have H1 : (some (([] : List Int),20)) = some (r1,r2):=by rw [if_pos rfl] at H;exact H
    clear H
    have H:=H1
    clear H1
    simp only [Option.some.injEq,Prod.mk.injEq] at H
    obtain ⟨rfl,rfl⟩:=H
    go_wp2
    go_ret2
    exact ⟨_,by first|rfl|(simp [errW_none,errW_some] <;> rfl)|(simp [*,errW_none,errW_some] <;> rfl),by first|exact Kd.R_nil _ _ _ _ _|exact Kd.N_nil _ _ _ _ _|exact Kd.V_nil _ _ _ _ _|exact Kd.Q_nil _ _ _ _ _|exact Kd.S_nil _ _ _ _ _,by repeat (first|(with_reducible first|exact HB.out|apply below_alloc|apply pw_below_drewN|apply below_drew1|refine below_set ?_ GE196.out)|exact HB.out)⟩
   ·replace c9:=Bool.eq_false_iff.mpr c9
    subst c9
    have H1 : ((codec_PutText.f kj1 a0_0).bind fun t197 => ((codec_PutUint.f kj1 (IntKind.u64.wrap ((l0_1.length : Int)))).bind fun t200 => (if t197.length + t200.length < 140737488355328 then (codec_PutEvent.l0 kj1 (t197 ++ t200) l0_1 (l0_1.length : Int) 0) else (none)))) = some (r1,r2):=by rw [if_neg (show ¬ (false = true) by decide)] at H;exact H
    clear H
    have H:=H1
    clear H1
    replace H:=Option.bind_eq_some_iff.mp H
    obtain ⟨t197,A100,H⟩:=H
    replace H : ((codec_PutUint.f kj1 (IntKind.u64.wrap ((l0_1.length : Int)))).bind fun t200 => (if t197.length + t200.length < 140737488355328 then (codec_PutEvent.l0 kj1 (t197 ++ t200) l0_1 (l0_1.length : Int) 0) else (none))) = some (r1,r2):=H
    have A10:=Aside0.mk A100
    clear A100
    replace H:=Option.bind_eq_some_iff.mp H
    obtain ⟨t200,A110,H⟩:=H
    replace H : (if t197.length + t200.length < 140737488355328 then (codec_PutEvent.l0 kj1 (t197 ++ t200) l0_1 (l0_1.length : Int) 0) else (none)) = some (r1,r2):=H
    have A11:=Aside0.mk A110
    clear A110
    by_cases c12 : t197.length + t200.length < 140737488355328
    ·rw [if_pos c12] at H
     have LMc12:=Aside0.mk c12
     clear c12
     obtain ⟨y203,hy203⟩ : ∃ y_ : List Int,y_ = (t197 ++ t200):=⟨_,rfl⟩
     replace H : (codec_PutEvent.l0 kj1 y203 l0_1 (l0_1.length : Int) 0) = some (r1,r2):=by first|(rw [hy203];with_reducible exact H)|(have H2_:=(Option.bind_some _ _).symm.trans H;rw [hy203];with_reducible exact H2_)|(have H2_:=(Option.bind_some _ _).symm.trans H;with_reducible exact H2_)|with_reducible exact H|(rw [hy203];exact H)|exact H
     have Ny203:=Aside0.mk hy203
     clear hy203
     have H':=Aside0.mk H
     clear H
     try go_wp2
     have n0_:=Aside0.mk (blk_drew BK196.out)
     have n1_:=Aside0.mk (below_drew1 HB.out)
     clear BK196
     clear HB
     have BK196:=n0_
     have HB:=n1_
     clear n0_ n1_
     refine start_ (n:=10) (S:=fun w' => w'.cell? ⟨gb196,0,none⟩ = some (.string a0_0) ∧ w'.cell? ⟨gb196,1,none⟩ = some (.slice A0_1 l0_1.length c0_1)) (ds:=[]) #[false,false,false,false,false,false,false,false,false,false] (by kernel_rfl) rfl rfl ⟨(blk_cell BK196.out 0).trans rfl,(blk_cell BK196.out 1).trans rfl⟩ (fun hHeld => ?_);refine with_tabW codec_PutEvent.tab3 codec_PutEvent.bits3 (fun HT_ HW_ => ?_)
     generalize wc.drew = w13 at BK196 HB hHeld ⊢
     refine pure_ (i:=0) (N:=some 25) (v:=?_) (a':=?_) #[true,false,false,false,false,false,false,false,false,false] rfl rfl (any_of HT_.out (by kernel_rfl)) (fun _ _ _ h => h) (Or.inl ⟨by rfl,?_⟩) ?_ ?_
     rotate_left
     ·intro w'
      go_simp
      with_reducible rfl
     rotate_left
     ·simp only [Act.put,List.setIfInBounds_toArray,List.set_cons_zero,List.set_cons_succ,i64_w,i32_w]
      rfl
     refine pure_ (i:=3) (N:=some 28) (v:=?_) (a':=?_) #[true,false,false,true,false,false,false,false,false,false] rfl rfl (any_of HT_.out (by kernel_rfl)) (fun _ _ _ h => h) (Or.inl ⟨by rfl,?_⟩) ?_ ?_
     rotate_left
     ·intro w'
      go_simp
      with_reducible rfl
     rotate_left
     ·simp only [Act.put,List.setIfInBounds_toArray,List.set_cons_zero,List.set_cons_succ,i64_w,i32_w]
      rfl
     refine take_ (i:=1) (N:=some 26) (v:=?_) (a':=?_) #[true,true,false,true,false,false,false,false,false,false] rfl rfl (take_ofW HT_.out HW_.out (by kernel_rfl)) (fun _ _ _ h => h) (Or.inl ⟨by rfl,?_⟩) hHeld ?_ ?_
     rotate_left
     ·rintro w' ⟨s0,s1⟩
      go_simp
      with_reducible rfl
     rotate_left
     ·simp only [Act.put,List.setIfInBounds_toArray,List.set_cons_zero,List.set_cons_succ,i64_w,i32_w]
      rfl
     refine take_ (i:=4) (N:=some 29) (v:=?_) (a':=?_) #[true,true,false,true,true,false,false,false,false,false] rfl rfl (take_ofW HT_.out HW_.out (by kernel_rfl)) (fun _ _ _ h => h) (Or.inl ⟨by rfl,?_⟩) hHeld ?_ ?_
     rotate_left
     ·rintro w' ⟨s0,s1⟩
      go_simp
      with_reducible rfl
     rotate_left
     ·simp only [Act.put,List.setIfInBounds_toArray,List.set_cons_zero,List.set_cons_succ,i64_w,i32_w]
      rfl
     refine pure_ (i:=5) (N:=some 30) (v:=?_) (a':=?_) #[true,true,false,true,true,true,false,false,false,false] rfl rfl (any_of HT_.out (by kernel_rfl)) (fun _ _ _ h => h) (Or.inl ⟨by rfl,?_⟩) ?_ ?_
     rotate_left
     ·intro w'
      go_simp
      with_reducible rfl
     rotate_left
     ·simp only [Act.put,List.setIfInBounds_toArray,List.set_cons_zero,List.set_cons_succ,i64_w,i32_w]
      rfl
     refine pure_ (i:=6) (N:=some 31) (v:=?_) (a':=?_) #[true,true,false,true,true,true,true,false,false,false] rfl rfl (any_of HT_.out (by kernel_rfl)) (fun _ _ _ h => h) (Or.inl ⟨by rfl,?_⟩) ?_ ?_
     rotate_left
     ·intro w'
      go_simp
      with_reducible rfl
     rotate_left
     ·simp only [Act.put,List.setIfInBounds_toArray,List.set_cons_zero,List.set_cons_succ,i64_w,i32_w]
      rfl
     refine one_ (i:=2) (N:=some 27) #[true,true,true,true,true,true,true,false,false,false] rfl rfl (one_of HT_.out (by kernel_rfl)) (by decide) (fun K hK => ?_)
     refine goes_ Try.func20 (by kernel_rfl) rfl #[.string a0_0] (by rfl) rfl rfl (by (try simp only [List.map_toArray,List.map_cons,List.map_nil]);first|done|rfl|(simp only [List.length_drop,List.length_take];rfl)|(go_simp;done)|(go_simp;simp;done)) ?_
     with_reducible refine (codec_PutText.calls kj1 a0_0 t197 _ A10.out).mono ?_
     rintro e w14 ⟨v198,rfl,ho0,hb⟩
     refine ⟨_,rfl,?_⟩
     have n0_:=Aside0.mk (Kd.R_lower ho0 (below_size (by repeat (first|(with_reducible first|exact HB.out|apply below_alloc|apply pw_below_drewN|apply below_drew1|refine below_set ?_ GE196.out)|exact HB.out))))
     have n1_:=Aside0.mk (blk_below (g:=gb196) (o := .cells #[.string a0_0, .slice A0_1 l0_1.length c0_1] 26 (0,0)) (by (with_reducible repeat (first|refine blk_drewN ?_ _|refine blk_drew ?_|refine blk_alloc ?_ _));exact BK196.out) hb)
     have n2_:=Aside0.mk (below_step (by repeat (first|(with_reducible first|exact HB.out|apply below_alloc|apply pw_below_drewN|apply below_drew1|refine below_set ?_ GE196.out)|exact HB.out)) hb)
     clear BK196
     clear HB
     have HO199:=n0_
     have BK196:=n1_
     have HB:=n2_
     clear n0_ n1_ n2_
     (try clear hb)
     (try clear hb2)
     (try clear hk)
     (try clear hi)
     (try clear ho0)
     refine hK.out _ _ ⟨(blk_cell BK196.out 0).trans rfl,(blk_cell BK196.out 1).trans rfl⟩ (fun hHeld => ?_)
     clear hK K
     refine norm_ (a':=?_) ?_ ?_
     rotate_left
     ·show Act.put _ (some 27) _ = _
      simp only [Act.put,List.setIfInBounds_toArray,List.set_cons_zero,List.set_cons_succ,i64_w,i32_w]
      rfl
     refine one_ (i:=7) (N:=some 32) #[true,true,true,true,true,true,true,true,false,false] rfl rfl (one_of HT_.out (by kernel_rfl)) (by decide) (fun K hK => ?_)
     refine goes_ Try.func17 (by kernel_rfl) rfl #[.int .u64 (IntKind.u64.wrap ((l0_1.length : Int)))] (by rfl) rfl rfl (by (try simp only [List.map_toArray,List.map_cons,List.map_nil]);first|done|rfl|(simp only [List.length_drop,List.length_take];rfl)|(go_simp;done)|(go_simp;simp;done)) ?_
     with_reducible refine (codec_PutUint.calls kj1 (IntKind.u64.wrap ((l0_1.length : Int))) t200 _ A11.out).mono ?_
     rintro e w15 ⟨v201,rfl,ho0,hb⟩
     refine ⟨_,rfl,?_⟩
     have n0_:=Aside0.mk (Kd.R_elder' (by (with_reducible repeat (first|apply Kd.R_alloc|apply Kd.R_drewN|apply Kd.R_drew));exact HO199.out) (Kd.R_base ho0) hb)
     have n1_:=Aside0.mk (Kd.R_lower (Kd.R_new' ho0 (Kd.R_lt (by (with_reducible repeat (first|apply Kd.R_alloc|apply Kd.R_drewN|apply Kd.R_drew));exact HO199.out))) (below_size (by repeat (first|(with_reducible first|exact HB.out|apply below_alloc|apply pw_below_drewN|apply below_drew1|refine below_set ?_ GE196.out)|exact HB.out))))
     have n2_:=Aside0.mk (blk_below (g:=gb196) (o := .cells #[.string a0_0, .slice A0_1 l0_1.length c0_1] 26 (0,0)) (by (with_reducible repeat (first|refine blk_drewN ?_ _|refine blk_drew ?_|refine blk_alloc ?_ _));exact BK196.out) hb)
     have n3_:=Aside0.mk (below_step (by repeat (first|(with_reducible first|exact HB.out|apply below_alloc|apply pw_below_drewN|apply below_drew1|refine below_set ?_ GE196.out)|exact HB.out)) hb)
     clear HO199
     clear BK196
     clear HB
     have HO199:=n0_
     have HO202:=n1_
     have BK196:=n2_
     have HB:=n3_
     clear n0_ n1_ n2_ n3_
     (try clear hb)
     (try clear hb2)
     (try clear hk)
     (try clear hi)
     (try clear ho0)
     obtain ⟨Ao17,co17,eo17⟩:=Kd.R_slice HO202.out
     (first|subst eo17|(injection eo17 with f1_ f2_ f3_;have f4_:=f1_.symm;have f5_:=f3_.symm;clear f1_ f2_ f3_;subst f4_;subst f5_))
     refine hK.out _ _ ⟨(blk_cell BK196.out 0).trans rfl,(blk_cell BK196.out 1).trans rfl⟩ (fun hHeld => ?_)
     clear hK K
     refine norm_ (a':=?_) ?_ ?_
     rotate_left
     ·show Act.put _ (some 32) _ = _
      simp only [Act.put,List.setIfInBounds_toArray,List.set_cons_zero,List.set_cons_succ,i64_w,i32_w]
      rfl
     refine one_ (i:=8) (N:=some 33) #[true,true,true,true,true,true,true,true,true,false] rfl rfl (one_of HT_.out (by kernel_rfl)) (by decide) (fun K hK => ?_)
     refine Kd.R_append_rows_step (Kd.int .u8) (w0:=w) w.heap.size (by rfl) (.tmp 27) (.tmp 32) 30 5 (.int .u8 0) 1 rfl Try.underlying30 info5 rfl (by decide) (by omega) v198 t197 t200 _ _ _ (fun k_ => some k_ ≠ (.slice Ao17 t200.length co17 : Value).ownBlock) (fun _ => False) rfl rfl ?aO ?aR (fun _ _ h => h) (fun _ h => h.elim) ?aF ?aB ?aS ?aL ?_
     (case aR => repeat (first|exact (Kd.R_reads' HO202.out).2.2|(with_reducible refine Kd.C_alloc ?_ _)|(with_reducible refine Kd.C_drewN ?_ _)|(with_reducible refine Kd.C_drew ?_)))
     (case aB => exact (by repeat (first|(with_reducible first|exact HB.out|apply below_alloc|apply pw_below_drewN|apply below_drew1|refine below_set ?_ GE196.out)|exact HB.out)))
     (case aF => exact (fun k_ hk => Kd.fresh' (Kd.R_lt (by (with_reducible repeat (first|apply Kd.R_alloc|apply Kd.R_drewN|apply Kd.R_drew));exact HO202.out)) k_ hk))
     (case aO => exact (by (with_reducible repeat (first|apply Kd.R_alloc|apply Kd.R_drewN|apply Kd.R_drew));exact Kd.R_mono HO199.out (fun _ hk => hk.2)))
     (case aS => exact (below_size (by repeat (first|(with_reducible first|exact HB.out|apply below_alloc|apply pw_below_drewN|apply below_drew1|refine below_set ?_ GE196.out)|exact HB.out))))
     (case aL => have:=LMc12.out;omega)
     intro v204 w16 ho hb hg hat
     rw [← Ny203.out] at ho
     have n0_:=Aside0.mk (blk_grown (g:=gb196) (o := .cells #[.string a0_0, .slice A0_1 l0_1.length c0_1] 26 (0,0)) (by (with_reducible repeat (first|refine blk_drewN ?_ _|refine blk_drew ?_|refine blk_alloc ?_ _));exact BK196.out) hg (Kd.R_ne HO199.out BK196.out (by decide)))
     have n1_:=Aside0.mk (Kd.R_after (ok:=(fun _ => True)) (by (with_reducible repeat (first|apply Kd.R_alloc|apply Kd.R_drewN|apply Kd.R_drew));exact HO202.out) hg hat)
     have n2_:=Aside0.mk (hb)
     have n3_:=Aside0.mk (ho)
     clear BK196
     clear HO202
     clear HB
     clear HO199
     have BK196:=n0_
     have HO202:=n1_
     have HB:=n2_
     have HO205:=n3_
     clear n0_ n1_ n2_ n3_
     clear ho hb hg hat
     refine hK.out _ _ ⟨(blk_cell BK196.out 0).trans rfl,(blk_cell BK196.out 1).trans rfl⟩ (fun hHeld => ?_)
     clear hK K
     refine norm_ (a':=?_) ?_ ?_
     rotate_left
     ·show Act.put _ (some 33) _ = _
      simp only [Act.put,List.setIfInBounds_toArray,List.set_cons_zero,List.set_cons_succ,i64_w,i32_w]
      rfl
     refine pure_ (i:=9) (N:=some 4) (v:=?_) (a':=?_) #[true,true,true,true,true,true,true,true,true,true] rfl rfl (any_of HT_.out (by kernel_rfl)) (fun _ _ _ h => h) (Or.inl ⟨by rfl,?_⟩) ?_ ?_
     rotate_left
     ·intro w'
      go_simp
      with_reducible rfl
     rotate_left
     ·simp only [Act.put,List.setIfInBounds_toArray,List.set_cons_zero,List.set_cons_succ,i64_w,i32_w]
      rfl
     refine done_ (done_of HT_.out (by kernel_rfl)) ?_
     have hcz18_0 : w16.cell? ⟨gb196,0,none⟩ = some (.string a0_0):=(blk_cell BK196.out 0).trans rfl
     have hcz18_1 : w16.cell? ⟨gb196,1,none⟩ = some (.slice A0_1 l0_1.length c0_1):=(blk_cell BK196.out 1).trans rfl
     have hfz18_0:=blk_frozen BK196.out 0
     have hfz18_1:=blk_frozen BK196.out 1
     try go_wp2
     go_loopg [4,37] kj1 (fun kq v4 v37 w' => ∃ (x4_2 : List Int) (x37_2 : Int),v37 = .int .i64 x37_2 ∧ Aside0 (codec_PutEvent.l0 kq x4_2 l0_1 (l0_1.length : Int) x37_2 = some (r1,r2)) ∧ Aside0 (kq ≤ kj1) ∧ Aside0 (Kd.R (Kd.int .u8) 5 w' w.heap.size (fun _ => True) v4 x4_2) ∧ Aside0 (w'.heap[gb196]? = some (.cells #[.string a0_0,(.slice A0_1 l0_1.length c0_1)] 26 (0,0))) ∧ Aside0 (Below w.heap.size w w'))
     case atStart => exact ⟨(y203),(0),(by first|rfl|(simp;done)|(simp [*];done)),H',⟨Nat.le_refl _⟩,⟨by (with_reducible repeat (first|apply Kd.R_alloc|apply Kd.R_drewN|apply Kd.R_drew));exact Kd.R_mono HO205.out (fun _ hk => trivial)⟩,⟨by (with_reducible repeat (first|refine blk_drewN ?_ _|refine blk_drew ?_|refine blk_alloc ?_ _));exact BK196.out⟩,⟨by repeat (first|(with_reducible first|exact HB.out|apply below_alloc|apply pw_below_drewN|apply below_drew1|refine below_set ?_ GE196.out)|exact HB.out)⟩⟩
     case round =>
      clear H'
      try clear c1
      try clear c2
      try clear p2
      try clear c4
      try clear c4b0
      try clear c4b1
      try clear c6
      try clear c6b0
      try clear c6b1
      try clear c9
      try clear c12
      try clear c14
      try clear c17
      try clear hcz18_0
      try clear hcz18_1
      try clear hcz5_0
      try clear hcz5_1
      try clear hcz7_0
      try clear hcz7_1
      try clear hcz8_0
      try clear hcz8_1
      try clear hfz18_0
      try clear hfz18_1
      try clear hfz5_0
      try clear hfz5_1
      try clear hfz7_0
      try clear hfz7_1
      try clear hfz8_0
      try clear hfz8_1
      try clear p2
      obtain ⟨x4_2,x37_2,rfl,HA,HK2,HO_4,BK196,HB⟩:=hrel
      cases gk with
      | zero => exact absurd HA.out (by simp [codec_PutEvent.l0])
      | succ k2 =>
       have H:=HA.out
       clear HA
       simp only [codec_PutEvent.l0] at H
       by_cases c19 : x37_2 < (l0_1.length : Int)
       ·rw [if_pos c19] at H
        have c19b0 : decide (x37_2 < (l0_1.length : Int)) = true:=decide_eq_true c19
        clear c19
        by_cases c20 : 0 ≤ x37_2
        ·rw [if_pos c20] at H
         have c20b0 : decide (0 ≤ x37_2) = true:=decide_eq_true c20
         clear c20
         by_cases c21 : x37_2 < (l0_1.length : Int)
         ·rw [if_pos c21] at H
          have c21b0 : decide (x37_2 < (l0_1.length : Int)) = true:=decide_eq_true c21
          clear c21
          replace H:=Option.bind_eq_some_iff.mp H
          obtain ⟨⟨t208,t211⟩,A220,H⟩:=H
          replace H : (if t211 = 0 then (if x4_2.length + t208.length < 140737488355328 then (codec_PutEvent.l0 k2 (x4_2 ++ t208) l0_1 (l0_1.length : Int) (wrap64 (x37_2 + 1))) else (none)) else (some (([] : List Int),t211))) = some (r1,r2):=H
          have A22:=Aside0.mk A220
          clear A220
          by_cases c23 : t211 = 0
          ·rw [if_pos c23] at H
           have c23b0 : (t211 == 0) = true:=beq_iff_eq.mpr c23
           have c23b1 : (t211 != 0) = false:=bne_eq_false_iff_eq.mpr c23
           clear c23
           by_cases c24 : x4_2.length + t208.length < 140737488355328
           ·rw [if_pos c24] at H
            have LMc24:=Aside0.mk c24
            clear c24
            obtain ⟨y212,hy212⟩ : ∃ y_ : List Int,y_ = (x4_2 ++ t208):=⟨_,rfl⟩
            replace H : (codec_PutEvent.l0 k2 y212 l0_1 (l0_1.length : Int) (wrap64 (x37_2 + 1))) = some (r1,r2):=by first|(rw [hy212];with_reducible exact H)|(have H2_:=(Option.bind_some _ _).symm.trans H;rw [hy212];with_reducible exact H2_)|(have H2_:=(Option.bind_some _ _).symm.trans H;with_reducible exact H2_)|with_reducible exact H|(rw [hy212];exact H)|exact H
            have Ny212:=Aside0.mk hy212
            clear hy212
            have H':=Aside0.mk H
            clear H
            have p206 : 0 ≤ (x37_2 : Int):=of_decide_eq_true (by first|(with_reducible assumption)|assumption)
            have q206 : x37_2 < (l0_1.length : Int):=of_decide_eq_true (by first|(with_reducible assumption)|assumption)
            obtain ⟨ad206,A206_4,c206_4,e206,hx206_0,hx206_1,hx206_2,hx206_3,hx206_4,hl206_4,hi206_4⟩:=at_T24 HR0_1.out x37_2 p206 q206
            cases e206
            replace hx206_0:=(HB.out.cell (World.block_lt_of_cell? w _ hx206_0)).trans hx206_0
            replace hx206_1:=(HB.out.cell (World.block_lt_of_cell? w _ hx206_1)).trans hx206_1
            replace hx206_2:=(HB.out.cell (World.block_lt_of_cell? w _ hx206_2)).trans hx206_2
            replace hx206_3:=(HB.out.cell (World.block_lt_of_cell? w _ hx206_3)).trans hx206_3
            replace hx206_4:=(HB.out.cell (World.block_lt_of_cell? w _ hx206_4)).trans hx206_4
            have HR206_4:=Aside0.mk hi206_4
            have HC206_4:=Aside0.mk hl206_4
            clear hi206_4 hl206_4
            replace p206:=eq_true p206
            replace q206:=eq_true q206
            go_wp2_with (first|((with_reducible refine gate_dst (N:=6) rfl ?_);(try (refine gate_guard (by rfl) ?_;dsimp only));refine box_event ?hg (N:=6) ?hd (cs:=#[.int .i64 0, .int .i64 0, .string (⟨#[]⟩ : ByteArray), .int .i64 0, .slice none 0 0]) (t:=24) ?hr ?_;(case hd => rfl);(case hg => rfl);(case hr => first|(go_simp;done)|(go_simp;rfl));intro gb207 hg w25 hbox hb;have n0_:=Aside0.mk (Kd.R_below (by (with_reducible repeat (first|apply Kd.R_alloc|apply Kd.R_drewN|apply Kd.R_drew));exact HO_4.out) hb);have n1_:=Aside0.mk (blk_below (g:=gb196) (o := .cells #[.string a0_0, .slice (some ad206) l0_1.length c0_1] 26 (0,0)) (by (with_reducible repeat (first|refine blk_drewN ?_ _|refine blk_drew ?_|refine blk_alloc ?_ _));exact BK196.out) hb);have n2_:=Aside0.mk (below_step (by repeat (first|(with_reducible first|exact HB.out|apply below_alloc|apply pw_below_drewN|apply below_drew1|refine below_set ?_ GE196.out)|exact HB.out)) hb);have n3_:=Aside0.mk (hbox);have n4_:=Aside0.mk ((by rw [hg];exact (below_size (by repeat (first|(with_reducible first|exact HB.out|apply below_alloc|apply pw_below_drewN|apply below_drew1|refine below_set ?_ GE196.out)|exact HB.out))) : w.heap.size ≤ gb207));have n5_:=Aside0.mk ((by rw [hg];exact (below_size (by repeat (first|(with_reducible first|exact HB.out|apply below_alloc|apply pw_below_drewN|apply below_drew1|refine below_set ?_ GE196.out)|exact HB.out))) : w.heap.size ≤ gb207));have n6_:=Aside0.mk ((by rw [hg];exact Nat.ne_of_lt (blk_lt (g:=gb196) (o := .cells #[.string a0_0, .slice (some ad206) l0_1.length c0_1] 26 (0,0)) (by (with_reducible repeat (first|refine blk_drewN ?_ _|refine blk_drew ?_|refine blk_alloc ?_ _));exact BK196.out)) : gb196 ≠ gb207));have n7_:=Aside0.mk ((by rw [hg];exact Nat.ne_of_gt (blk_lt (g:=gb196) (o := .cells #[.string a0_0, .slice (some ad206) l0_1.length c0_1] 26 (0,0)) (by (with_reducible repeat (first|refine blk_drewN ?_ _|refine blk_drew ?_|refine blk_alloc ?_ _));exact BK196.out)) : gb207 ≠ gb196));clear HO_4;clear BK196;clear HB;have HO_4:=n0_;have BK196:=n1_;have HB:=n2_;have BK207:=n3_;have GW207:=n4_;have GE207:=n5_;have NB196_207:=n6_;have NB207_196:=n7_;clear n0_ n1_ n2_ n3_ n4_ n5_ n6_ n7_;clear hb hbox hg;have hnb26:=NB207_196.out;have hnc26:=NB196_207.out;have hcz27_0 : w25.cell? ⟨gb207,0,none⟩ = some (.int .i64 0):=(blk_cell BK207.out 0).trans rfl;have hcz27_1 : w25.cell? ⟨gb207,1,none⟩ = some (.int .i64 0):=(blk_cell BK207.out 1).trans rfl;have hcz27_2 : w25.cell? ⟨gb207,2,none⟩ = some (.string (⟨#[]⟩ : ByteArray)):=(blk_cell BK207.out 2).trans rfl;have hcz27_3 : w25.cell? ⟨gb207,3,none⟩ = some (.int .i64 0):=(blk_cell BK207.out 3).trans rfl;have hcz27_4 : w25.cell? ⟨gb207,4,none⟩ = some (.slice none 0 0):=(blk_cell BK207.out 4).trans rfl;have hfz27_0:=blk_frozen BK207.out 0;have hfz27_1:=blk_frozen BK207.out 1;have hfz27_2:=blk_frozen BK207.out 2;have hfz27_3:=blk_frozen BK207.out 3;have hfz27_4:=blk_frozen BK207.out 4)|((with_reducible refine gate_callee (f:=12) rfl ?_);refine goesL_ (some 43) rfl rfl Try.func12 (by kernel_rfl) rfl #[.agg #[.int .i64 ((rd_T24 l0_1 x37_2).f0), .int .i64 ((rd_T24 l0_1 x37_2).f1), .string ((rd_T24 l0_1 x37_2).f2), .int .i64 ((rd_T24 l0_1 x37_2).f3), .slice A206_4 ((rd_T24 l0_1 x37_2).f4).length c206_4]] rfl (by (try simp only [List.map_toArray,List.map_cons,List.map_nil]);first|done|rfl|(simp only [List.length_drop,List.length_take];rfl)|(go_simp;done)|(go_simp;simp;done)) ?_;(with_reducible refine (codec_PutValue.calls k2 ((rd_T24 l0_1 x37_2).f0) ((rd_T24 l0_1 x37_2).f1) ((rd_T24 l0_1 x37_2).f2) ((rd_T24 l0_1 x37_2).f3) _ _ ((rd_T24 l0_1 x37_2).f4) t208 t211 _ ?side1 ?side2 A22.out).mono ?_);(case side1 => exact Kd.C_below HR206_4.out (by repeat (first|(with_reducible first|exact HB.out|apply below_alloc|apply pw_below_drewN|apply below_drew1|refine below_set ?_ GE196.out|refine below_set ?_ GE207.out)|exact HB.out)));(case side2 => exact HC206_4.out);rintro e w28 ⟨v209,rfl,ho0,hb⟩;refine ⟨_,rfl,?_⟩;have n0_:=Aside0.mk (Kd.R_elder' (by (with_reducible repeat (first|apply Kd.R_alloc|apply Kd.R_drewN|apply Kd.R_drew));exact (Kd.R_mono (Kd.R_far (p:=⟨gb207,4,none⟩) (Kd.R_far (p:=⟨gb207,3,none⟩) (Kd.R_far (p:=⟨gb207,2,none⟩) (Kd.R_far (p:=⟨gb207,1,none⟩) (Kd.R_far (p:=⟨gb207,0,none⟩) (Kd.R_types HO_4.out BK207.out (by decide)) (fun _ hk => hk.2) (.int .i64 ((rd_T24 l0_1 x37_2).f0))) (fun _ hk => hk.2) (.int .i64 ((rd_T24 l0_1 x37_2).f1))) (fun _ hk => hk.2) (.string ((rd_T24 l0_1 x37_2).f2))) (fun _ hk => hk.2) (.int .i64 ((rd_T24 l0_1 x37_2).f3))) (fun _ hk => hk.2) (.slice A206_4 ((rd_T24 l0_1 x37_2).f4).length c206_4)) (fun _ h_ => h_.1))) (Kd.R_base ho0) hb);have n1_:=Aside0.mk (Kd.R_lower (Kd.R_new' ho0 (Kd.R_lt (by (with_reducible repeat (first|apply Kd.R_alloc|apply Kd.R_drewN|apply Kd.R_drew));exact (Kd.R_mono (Kd.R_far (p:=⟨gb207,4,none⟩) (Kd.R_far (p:=⟨gb207,3,none⟩) (Kd.R_far (p:=⟨gb207,2,none⟩) (Kd.R_far (p:=⟨gb207,1,none⟩) (Kd.R_far (p:=⟨gb207,0,none⟩) (Kd.R_types HO_4.out BK207.out (by decide)) (fun _ hk => hk.2) (.int .i64 ((rd_T24 l0_1 x37_2).f0))) (fun _ hk => hk.2) (.int .i64 ((rd_T24 l0_1 x37_2).f1))) (fun _ hk => hk.2) (.string ((rd_T24 l0_1 x37_2).f2))) (fun _ hk => hk.2) (.int .i64 ((rd_T24 l0_1 x37_2).f3))) (fun _ hk => hk.2) (.slice A206_4 ((rd_T24 l0_1 x37_2).f4).length c206_4)) (fun _ h_ => h_.1))))) (below_size (by repeat (first|(with_reducible first|exact HB.out|apply below_alloc|apply pw_below_drewN|apply below_drew1|refine below_set ?_ GE196.out|refine below_set ?_ GE207.out)|exact HB.out))));have n2_:=Aside0.mk (blk_below (g:=gb196) (o := .cells #[.string a0_0, .slice (some ad206) l0_1.length c0_1] 26 (0,0)) (by (with_reducible repeat (first|refine blk_drewN ?_ _|refine blk_drew ?_|refine blk_alloc ?_ _));refine blk_far ?_ NB196_207.out _;(with_reducible repeat (first|refine blk_drewN ?_ _|refine blk_drew ?_|refine blk_alloc ?_ _));refine blk_far ?_ NB196_207.out _;(with_reducible repeat (first|refine blk_drewN ?_ _|refine blk_drew ?_|refine blk_alloc ?_ _));refine blk_far ?_ NB196_207.out _;(with_reducible repeat (first|refine blk_drewN ?_ _|refine blk_drew ?_|refine blk_alloc ?_ _));refine blk_far ?_ NB196_207.out _;(with_reducible repeat (first|refine blk_drewN ?_ _|refine blk_drew ?_|refine blk_alloc ?_ _));refine blk_far ?_ NB196_207.out _;(with_reducible repeat (first|refine blk_drewN ?_ _|refine blk_drew ?_|refine blk_alloc ?_ _));exact BK196.out) hb);have n3_:=Aside0.mk (blk_below (g:=gb207) (o := .cells #[.int .i64 ((rd_T24 l0_1 x37_2).f0), .int .i64 ((rd_T24 l0_1 x37_2).f1), .string ((rd_T24 l0_1 x37_2).f2), .int .i64 ((rd_T24 l0_1 x37_2).f3), .slice A206_4 ((rd_T24 l0_1 x37_2).f4).length c206_4] 24 (0,0)) (by (with_reducible repeat (first|refine blk_drewN ?_ _|refine blk_drew ?_|refine blk_alloc ?_ _));refine blk_put (cs:=#[.int .i64 ((rd_T24 l0_1 x37_2).f0), .int .i64 ((rd_T24 l0_1 x37_2).f1), .string ((rd_T24 l0_1 x37_2).f2), .int .i64 ((rd_T24 l0_1 x37_2).f3), .slice none 0 0]) ?_ 4 _ rfl;(with_reducible repeat (first|refine blk_drewN ?_ _|refine blk_drew ?_|refine blk_alloc ?_ _));refine blk_put (cs:=#[.int .i64 ((rd_T24 l0_1 x37_2).f0), .int .i64 ((rd_T24 l0_1 x37_2).f1), .string ((rd_T24 l0_1 x37_2).f2), .int .i64 0, .slice none 0 0]) ?_ 3 _ rfl;(with_reducible repeat (first|refine blk_drewN ?_ _|refine blk_drew ?_|refine blk_alloc ?_ _));refine blk_put (cs:=#[.int .i64 ((rd_T24 l0_1 x37_2).f0), .int .i64 ((rd_T24 l0_1 x37_2).f1), .string (⟨#[]⟩ : ByteArray), .int .i64 0, .slice none 0 0]) ?_ 2 _ rfl;(with_reducible repeat (first|refine blk_drewN ?_ _|refine blk_drew ?_|refine blk_alloc ?_ _));refine blk_put (cs:=#[.int .i64 ((rd_T24 l0_1 x37_2).f0), .int .i64 0, .string (⟨#[]⟩ : ByteArray), .int .i64 0, .slice none 0 0]) ?_ 1 _ rfl;(with_reducible repeat (first|refine blk_drewN ?_ _|refine blk_drew ?_|refine blk_alloc ?_ _));refine blk_put (cs:=#[.int .i64 0, .int .i64 0, .string (⟨#[]⟩ : ByteArray), .int .i64 0, .slice none 0 0]) ?_ 0 _ rfl;(with_reducible repeat (first|refine blk_drewN ?_ _|refine blk_drew ?_|refine blk_alloc ?_ _));exact BK207.out) hb);have n4_:=Aside0.mk (below_step (by repeat (first|(with_reducible first|exact HB.out|apply below_alloc|apply pw_below_drewN|apply below_drew1|refine below_set ?_ GE196.out|refine below_set ?_ GE207.out)|exact HB.out)) hb);clear HO_4;clear BK196;clear BK207;clear HB;have HO_4:=n0_;have HO210:=n1_;have BK196:=n2_;have BK207:=n3_;have HB:=n4_;clear n0_ n1_ n2_ n3_ n4_;(try clear hb);(try clear hb2);(try clear hk);(try clear hi);(try clear ho0);obtain ⟨Ao30,co30,eo30⟩:=Kd.R_slice HO210.out;subst eo30)|((with_reducible refine gate_builtin (b := .append) (xs:=#[.tmp 49, .tmp 50]) rfl ?_);(try (refine gate_guard (by rfl) ?_;dsimp only));at_builtin;refine Kd.R_append_rows (Kd.int .u8) (w0:=w) w.heap.size rfl (.tmp 49) (.tmp 50) 30 5 (.int .u8 0) 1 rfl Try.underlying30 info5 rfl (by decide) (by omega) u4 x4_2 t208 _ _ _ (fun k_ => some k_ ≠ (.slice Ao30 t208.length co30 : Value).ownBlock) (fun _ => False) rfl rfl ?aO ?aR (fun _ _ h => h) (fun _ h => h.elim) ?aF ?aB ?aS ?aL ?_;(case aR => repeat (first|exact (Kd.R_reads' HO210.out).2.2|(with_reducible refine Kd.C_alloc ?_ _)|(with_reducible refine Kd.C_drewN ?_ _)|(with_reducible refine Kd.C_drew ?_)));(case aB => exact (by repeat (first|(with_reducible first|exact HB.out|apply below_alloc|apply pw_below_drewN|apply below_drew1|refine below_set ?_ GE196.out|refine below_set ?_ GE207.out)|exact HB.out)));(case aF => exact (fun k_ hk => Kd.fresh' (Kd.R_lt (by (with_reducible repeat (first|apply Kd.R_alloc|apply Kd.R_drewN|apply Kd.R_drew));exact HO210.out)) k_ hk));(case aO => exact (by (with_reducible repeat (first|apply Kd.R_alloc|apply Kd.R_drewN|apply Kd.R_drew));exact Kd.R_mono HO_4.out (fun _ hk => hk.2)));(case aS => exact (below_size (by repeat (first|(with_reducible first|exact HB.out|apply below_alloc|apply pw_below_drewN|apply below_drew1|refine below_set ?_ GE196.out|refine below_set ?_ GE207.out)|exact HB.out))));(case aL => have:=LMc24.out;omega);intro v213 w29 ho hb hg hat;rw [← Ny212.out] at ho;have n0_:=Aside0.mk (blk_grown (g:=gb196) (o := .cells #[.string a0_0, .slice (some ad206) l0_1.length c0_1] 26 (0,0)) (by (with_reducible repeat (first|refine blk_drewN ?_ _|refine blk_drew ?_|refine blk_alloc ?_ _));exact BK196.out) hg (Kd.R_ne HO_4.out BK196.out (by decide)));have n1_:=Aside0.mk (blk_grown (g:=gb207) (o := .cells #[.int .i64 ((rd_T24 l0_1 x37_2).f0), .int .i64 ((rd_T24 l0_1 x37_2).f1), .string ((rd_T24 l0_1 x37_2).f2), .int .i64 ((rd_T24 l0_1 x37_2).f3), .slice A206_4 ((rd_T24 l0_1 x37_2).f4).length c206_4] 24 (0,0)) (by (with_reducible repeat (first|refine blk_drewN ?_ _|refine blk_drew ?_|refine blk_alloc ?_ _));exact BK207.out) hg (Kd.R_ne HO_4.out BK207.out (by decide)));have n2_:=Aside0.mk (Kd.R_after (ok:=(fun _ => True)) (by (with_reducible repeat (first|apply Kd.R_alloc|apply Kd.R_drewN|apply Kd.R_drew));exact HO210.out) hg hat);have n3_:=Aside0.mk (hb);have n4_:=Aside0.mk (ho);clear BK196;clear BK207;clear HO210;clear HB;clear HO_4;have BK196:=n0_;have BK207:=n1_;have HO210:=n2_;have HB:=n3_;have HO214:=n4_;clear n0_ n1_ n2_ n3_ n4_;clear ho hb hg hat))
            go_roundg k2
            case measure => have:=HJ1.out;have:=HK2.out;omega
            case rel => exact ⟨(y212),(wrap64 (x37_2 + 1)),(by first|rfl|(simp;done)|(simp [*];done)),H',⟨by have:=HJ1.out;have:=HK2.out;omega⟩,⟨by (with_reducible repeat (first|apply Kd.R_alloc|apply Kd.R_drewN|apply Kd.R_drew));exact Kd.R_mono HO214.out (fun _ hk => trivial)⟩,⟨by (with_reducible repeat (first|refine blk_drewN ?_ _|refine blk_drew ?_|refine blk_alloc ?_ _));exact BK196.out⟩,⟨by repeat (first|(with_reducible first|exact HB.out|apply below_alloc|apply pw_below_drewN|apply below_drew1|refine below_set ?_ GE196.out|refine below_set ?_ GE207.out)|exact HB.out)⟩⟩
           ·rw [if_neg c24] at H
            exact absurd H (by simp)
          ·rw [if_neg c23] at H
           have c23b0 : (t211 == 0) = false:=beq_eq_false_iff_ne.mpr c23
           have c23b1 : (t211 != 0) = true:=bne_iff_ne.mpr c23
           simp only [Option.some.injEq,Prod.mk.injEq] at H
           obtain ⟨rfl,rfl⟩:=H
           have p206 : 0 ≤ (x37_2 : Int):=of_decide_eq_true (by first|(with_reducible assumption)|assumption)
           have q206 : x37_2 < (l0_1.length : Int):=of_decide_eq_true (by first|(with_reducible assumption)|assumption)
           obtain ⟨ad206,A206_4,c206_4,e206,hx206_0,hx206_1,hx206_2,hx206_3,hx206_4,hl206_4,hi206_4⟩:=at_T24 HR0_1.out x37_2 p206 q206
           cases e206
           replace hx206_0:=(HB.out.cell (World.block_lt_of_cell? w _ hx206_0)).trans hx206_0
           replace hx206_1:=(HB.out.cell (World.block_lt_of_cell? w _ hx206_1)).trans hx206_1
           replace hx206_2:=(HB.out.cell (World.block_lt_of_cell? w _ hx206_2)).trans hx206_2
           replace hx206_3:=(HB.out.cell (World.block_lt_of_cell? w _ hx206_3)).trans hx206_3
           replace hx206_4:=(HB.out.cell (World.block_lt_of_cell? w _ hx206_4)).trans hx206_4
           have HR206_4:=Aside0.mk hi206_4
           have HC206_4:=Aside0.mk hl206_4
           clear hi206_4 hl206_4
           replace p206:=eq_true p206
           replace q206:=eq_true q206
           go_wp2_with (first|((with_reducible refine gate_dst (N:=6) rfl ?_);(try (refine gate_guard (by rfl) ?_;dsimp only));refine box_event ?hg (N:=6) ?hd (cs:=#[.int .i64 0, .int .i64 0, .string (⟨#[]⟩ : ByteArray), .int .i64 0, .slice none 0 0]) (t:=24) ?hr ?_;(case hd => rfl);(case hg => rfl);(case hr => first|(go_simp;done)|(go_simp;rfl));intro gb207 hg w31 hbox hb;have n0_:=Aside0.mk (Kd.R_below (by (with_reducible repeat (first|apply Kd.R_alloc|apply Kd.R_drewN|apply Kd.R_drew));exact HO_4.out) hb);have n1_:=Aside0.mk (blk_below (g:=gb196) (o := .cells #[.string a0_0, .slice (some ad206) l0_1.length c0_1] 26 (0,0)) (by (with_reducible repeat (first|refine blk_drewN ?_ _|refine blk_drew ?_|refine blk_alloc ?_ _));exact BK196.out) hb);have n2_:=Aside0.mk (below_step (by repeat (first|(with_reducible first|exact HB.out|apply below_alloc|apply pw_below_drewN|apply below_drew1|refine below_set ?_ GE196.out)|exact HB.out)) hb);have n3_:=Aside0.mk (hbox);have n4_:=Aside0.mk ((by rw [hg];exact (below_size (by repeat (first|(with_reducible first|exact HB.out|apply below_alloc|apply pw_below_drewN|apply below_drew1|refine below_set ?_ GE196.out)|exact HB.out))) : w.heap.size ≤ gb207));have n5_:=Aside0.mk ((by rw [hg];exact (below_size (by repeat (first|(with_reducible first|exact HB.out|apply below_alloc|apply pw_below_drewN|apply below_drew1|refine below_set ?_ GE196.out)|exact HB.out))) : w.heap.size ≤ gb207));have n6_:=Aside0.mk ((by rw [hg];exact Nat.ne_of_lt (blk_lt (g:=gb196) (o := .cells #[.string a0_0, .slice (some ad206) l0_1.length c0_1] 26 (0,0)) (by (with_reducible repeat (first|refine blk_drewN ?_ _|refine blk_drew ?_|refine blk_alloc ?_ _));exact BK196.out)) : gb196 ≠ gb207));have n7_:=Aside0.mk ((by rw [hg];exact Nat.ne_of_gt (blk_lt (g:=gb196) (o := .cells #[.string a0_0, .slice (some ad206) l0_1.length c0_1] 26 (0,0)) (by (with_reducible repeat (first|refine blk_drewN ?_ _|refine blk_drew ?_|refine blk_alloc ?_ _));exact BK196.out)) : gb207 ≠ gb196));clear HO_4;clear BK196;clear HB;have HO_4:=n0_;have BK196:=n1_;have HB:=n2_;have BK207:=n3_;have GW207:=n4_;have GE207:=n5_;have NB196_207:=n6_;have NB207_196:=n7_;clear n0_ n1_ n2_ n3_ n4_ n5_ n6_ n7_;clear hb hbox hg;have hnb32:=NB207_196.out;have hnc32:=NB196_207.out;have hcz33_0 : w31.cell? ⟨gb207,0,none⟩ = some (.int .i64 0):=(blk_cell BK207.out 0).trans rfl;have hcz33_1 : w31.cell? ⟨gb207,1,none⟩ = some (.int .i64 0):=(blk_cell BK207.out 1).trans rfl;have hcz33_2 : w31.cell? ⟨gb207,2,none⟩ = some (.string (⟨#[]⟩ : ByteArray)):=(blk_cell BK207.out 2).trans rfl;have hcz33_3 : w31.cell? ⟨gb207,3,none⟩ = some (.int .i64 0):=(blk_cell BK207.out 3).trans rfl;have hcz33_4 : w31.cell? ⟨gb207,4,none⟩ = some (.slice none 0 0):=(blk_cell BK207.out 4).trans rfl;have hfz33_0:=blk_frozen BK207.out 0;have hfz33_1:=blk_frozen BK207.out 1;have hfz33_2:=blk_frozen BK207.out 2;have hfz33_3:=blk_frozen BK207.out 3;have hfz33_4:=blk_frozen BK207.out 4)|((with_reducible refine gate_callee (f:=12) rfl ?_);refine goesL_ (some 43) rfl rfl Try.func12 (by kernel_rfl) rfl #[.agg #[.int .i64 ((rd_T24 l0_1 x37_2).f0), .int .i64 ((rd_T24 l0_1 x37_2).f1), .string ((rd_T24 l0_1 x37_2).f2), .int .i64 ((rd_T24 l0_1 x37_2).f3), .slice A206_4 ((rd_T24 l0_1 x37_2).f4).length c206_4]] rfl (by (try simp only [List.map_toArray,List.map_cons,List.map_nil]);first|done|rfl|(simp only [List.length_drop,List.length_take];rfl)|(go_simp;done)|(go_simp;simp;done)) ?_;(with_reducible refine (codec_PutValue.calls k2 ((rd_T24 l0_1 x37_2).f0) ((rd_T24 l0_1 x37_2).f1) ((rd_T24 l0_1 x37_2).f2) ((rd_T24 l0_1 x37_2).f3) _ _ ((rd_T24 l0_1 x37_2).f4) t208 t211 _ ?side1 ?side2 A22.out).mono ?_);(case side1 => exact Kd.C_below HR206_4.out (by repeat (first|(with_reducible first|exact HB.out|apply below_alloc|apply pw_below_drewN|apply below_drew1|refine below_set ?_ GE196.out|refine below_set ?_ GE207.out)|exact HB.out)));(case side2 => exact HC206_4.out);rintro e w34 ⟨v209,rfl,ho0,hb⟩;refine ⟨_,rfl,?_⟩;have n0_:=Aside0.mk (Kd.R_elder' (by (with_reducible repeat (first|apply Kd.R_alloc|apply Kd.R_drewN|apply Kd.R_drew));exact (Kd.R_mono (Kd.R_far (p:=⟨gb207,4,none⟩) (Kd.R_far (p:=⟨gb207,3,none⟩) (Kd.R_far (p:=⟨gb207,2,none⟩) (Kd.R_far (p:=⟨gb207,1,none⟩) (Kd.R_far (p:=⟨gb207,0,none⟩) (Kd.R_types HO_4.out BK207.out (by decide)) (fun _ hk => hk.2) (.int .i64 ((rd_T24 l0_1 x37_2).f0))) (fun _ hk => hk.2) (.int .i64 ((rd_T24 l0_1 x37_2).f1))) (fun _ hk => hk.2) (.string ((rd_T24 l0_1 x37_2).f2))) (fun _ hk => hk.2) (.int .i64 ((rd_T24 l0_1 x37_2).f3))) (fun _ hk => hk.2) (.slice A206_4 ((rd_T24 l0_1 x37_2).f4).length c206_4)) (fun _ h_ => h_.1))) (Kd.R_base ho0) hb);have n1_:=Aside0.mk (Kd.R_lower (Kd.R_new' ho0 (Kd.R_lt (by (with_reducible repeat (first|apply Kd.R_alloc|apply Kd.R_drewN|apply Kd.R_drew));exact (Kd.R_mono (Kd.R_far (p:=⟨gb207,4,none⟩) (Kd.R_far (p:=⟨gb207,3,none⟩) (Kd.R_far (p:=⟨gb207,2,none⟩) (Kd.R_far (p:=⟨gb207,1,none⟩) (Kd.R_far (p:=⟨gb207,0,none⟩) (Kd.R_types HO_4.out BK207.out (by decide)) (fun _ hk => hk.2) (.int .i64 ((rd_T24 l0_1 x37_2).f0))) (fun _ hk => hk.2) (.int .i64 ((rd_T24 l0_1 x37_2).f1))) (fun _ hk => hk.2) (.string ((rd_T24 l0_1 x37_2).f2))) (fun _ hk => hk.2) (.int .i64 ((rd_T24 l0_1 x37_2).f3))) (fun _ hk => hk.2) (.slice A206_4 ((rd_T24 l0_1 x37_2).f4).length c206_4)) (fun _ h_ => h_.1))))) (below_size (by repeat (first|(with_reducible first|exact HB.out|apply below_alloc|apply pw_below_drewN|apply below_drew1|refine below_set ?_ GE196.out|refine below_set ?_ GE207.out)|exact HB.out))));have n2_:=Aside0.mk (blk_below (g:=gb196) (o := .cells #[.string a0_0, .slice (some ad206) l0_1.length c0_1] 26 (0,0)) (by (with_reducible repeat (first|refine blk_drewN ?_ _|refine blk_drew ?_|refine blk_alloc ?_ _));refine blk_far ?_ NB196_207.out _;(with_reducible repeat (first|refine blk_drewN ?_ _|refine blk_drew ?_|refine blk_alloc ?_ _));refine blk_far ?_ NB196_207.out _;(with_reducible repeat (first|refine blk_drewN ?_ _|refine blk_drew ?_|refine blk_alloc ?_ _));refine blk_far ?_ NB196_207.out _;(with_reducible repeat (first|refine blk_drewN ?_ _|refine blk_drew ?_|refine blk_alloc ?_ _));refine blk_far ?_ NB196_207.out _;(with_reducible repeat (first|refine blk_drewN ?_ _|refine blk_drew ?_|refine blk_alloc ?_ _));refine blk_far ?_ NB196_207.out _;(with_reducible repeat (first|refine blk_drewN ?_ _|refine blk_drew ?_|refine blk_alloc ?_ _));exact BK196.out) hb);have n3_:=Aside0.mk (blk_below (g:=gb207) (o := .cells #[.int .i64 ((rd_T24 l0_1 x37_2).f0), .int .i64 ((rd_T24 l0_1 x37_2).f1), .string ((rd_T24 l0_1 x37_2).f2), .int .i64 ((rd_T24 l0_1 x37_2).f3), .slice A206_4 ((rd_T24 l0_1 x37_2).f4).length c206_4] 24 (0,0)) (by (with_reducible repeat (first|refine blk_drewN ?_ _|refine blk_drew ?_|refine blk_alloc ?_ _));refine blk_put (cs:=#[.int .i64 ((rd_T24 l0_1 x37_2).f0), .int .i64 ((rd_T24 l0_1 x37_2).f1), .string ((rd_T24 l0_1 x37_2).f2), .int .i64 ((rd_T24 l0_1 x37_2).f3), .slice none 0 0]) ?_ 4 _ rfl;(with_reducible repeat (first|refine blk_drewN ?_ _|refine blk_drew ?_|refine blk_alloc ?_ _));refine blk_put (cs:=#[.int .i64 ((rd_T24 l0_1 x37_2).f0), .int .i64 ((rd_T24 l0_1 x37_2).f1), .string ((rd_T24 l0_1 x37_2).f2), .int .i64 0, .slice none 0 0]) ?_ 3 _ rfl;(with_reducible repeat (first|refine blk_drewN ?_ _|refine blk_drew ?_|refine blk_alloc ?_ _));refine blk_put (cs:=#[.int .i64 ((rd_T24 l0_1 x37_2).f0), .int .i64 ((rd_T24 l0_1 x37_2).f1), .string (⟨#[]⟩ : ByteArray), .int .i64 0, .slice none 0 0]) ?_ 2 _ rfl;(with_reducible repeat (first|refine blk_drewN ?_ _|refine blk_drew ?_|refine blk_alloc ?_ _));refine blk_put (cs:=#[.int .i64 ((rd_T24 l0_1 x37_2).f0), .int .i64 0, .string (⟨#[]⟩ : ByteArray), .int .i64 0, .slice none 0 0]) ?_ 1 _ rfl;(with_reducible repeat (first|refine blk_drewN ?_ _|refine blk_drew ?_|refine blk_alloc ?_ _));refine blk_put (cs:=#[.int .i64 0, .int .i64 0, .string (⟨#[]⟩ : ByteArray), .int .i64 0, .slice none 0 0]) ?_ 0 _ rfl;(with_reducible repeat (first|refine blk_drewN ?_ _|refine blk_drew ?_|refine blk_alloc ?_ _));exact BK207.out) hb);have n4_:=Aside0.mk (below_step (by repeat (first|(with_reducible first|exact HB.out|apply below_alloc|apply pw_below_drewN|apply below_drew1|refine below_set ?_ GE196.out|refine below_set ?_ GE207.out)|exact HB.out)) hb);clear HO_4;clear BK196;clear BK207;clear HB;have HO_4:=n0_;have HO210:=n1_;have BK196:=n2_;have BK207:=n3_;have HB:=n4_;clear n0_ n1_ n2_ n3_ n4_;(try clear hb);(try clear hb2);(try clear hk);(try clear hi);(try clear ho0)))
           go_ret2
           exact ⟨_,by first|rfl|(simp [errW_none,errW_some] <;> rfl)|(simp [*,errW_none,errW_some] <;> rfl),by first|exact Kd.R_nil _ _ _ _ _|exact Kd.N_nil _ _ _ _ _|exact Kd.V_nil _ _ _ _ _|exact Kd.Q_nil _ _ _ _ _|exact Kd.S_nil _ _ _ _ _,by repeat (first|(with_reducible first|exact HB.out|apply below_alloc|apply pw_below_drewN|apply below_drew1|refine below_set ?_ GE196.out|refine below_set ?_ GE207.out)|exact HB.out)⟩
         ·rw [if_neg c21] at H
          exact absurd H (by simp)
        ·rw [if_neg c20] at H
         exact absurd H (by simp)
       ·rw [if_neg c19] at H
        have c19b0 : decide (x37_2 < (l0_1.length : Int)) = false:=decide_eq_false c19
        clear c19
        simp only [Option.some.injEq,Prod.mk.injEq] at H
        obtain ⟨rfl,rfl⟩:=H
        go_wp2
        go_ret2
        exact ⟨_,by first|rfl|(simp [errW_none,errW_some] <;> rfl)|(simp [*,errW_none,errW_some] <;> rfl),by (with_reducible repeat (first|apply Kd.R_alloc|apply Kd.R_drewN|apply Kd.R_drew));exact HO_4.out,by repeat (first|(with_reducible first|exact HB.out|apply below_alloc|apply pw_below_drewN|apply below_drew1|refine below_set ?_ GE196.out)|exact HB.out)⟩
    ·rw [if_neg c12] at H
     exact absurd H (by simp)

end Go.Proofs.Ythbnblmnamckmaa.PAll
-- Laid by a program of this seat (wip/xprint.py over the kit's print).
namespace Go.Proofs.Ythbnblmnamckmaa.PAll
open Go.RowKit Go.Proofs.YthbnblmnamckmaaW.PrintWords Go.Proofs.YthbnblmnamckmaaW.PrintLast Go.Proofs.YthbnblmnamckmaaW.PrintMore
attribute [local go_sem] max2_int min2_int max_two min_two max_three min_three max_four min_four   -- for this text's walks alone
set_option linter.unusedVariables false
set_option linter.unusedSimpArgs false

/-- A state of type 76 at block g of W; what its slices lead to came in by w0. -/
def IsS76 (w0 W : World) (g : Nat) (f0 : List Int) (f1 : Int) (f2 : Bool) : Prop := ∃ A0 c0, W.heap[g]? = some (.cells #[.slice A0 f0.length c0, .int .i64 f1, .bool f2] 76 (0, 0)) ∧ w0.heap.size ≤ g ∧ Kd.C (Kd.int .u8) w0 A0 f0.length f0 ∧ f0.length ≤ c0
theorem IsS76.grown {w0 W : World} {g : Nat} {f0 : List Int} {f1 : Int} {f2 : Bool} {W1 : World} {row : Option Nat} (h : IsS76 w0 W g f0 f1 f2) (hw : W.grownBy W1 row) (hne : some g ≠ row) : IsS76 w0 W1 g f0 f1 f2 := by
  obtain ⟨A0, c0, hb, hg, hr0, hl0⟩ := h
  exact ⟨A0, c0, blk_grown hb hw hne, hg, hr0, hl0⟩
theorem IsS76.own_neN {w0 W : World} {g : Nat} {f0 : List Int} {f1 : Int} {f2 : Bool} {α : Type} {d : Kd α} {e : Nat} {base : Nat} {ok : Nat → Prop} {v : Value} {xs : List α} (h : IsS76 w0 W g f0 f1 f2) (ho : Kd.N d e W base ok v xs) (ht : e ≠ 76) : some g ≠ v.ownBlock := by
  obtain ⟨A0, c0, hb, hg, hr0, hl0⟩ := h
  exact Kd.N_ne ho hb ht
theorem IsS76.fresh {w0 W : World} {g : Nat} {f0 : List Int} {f1 : Int} {f2 : Bool} (h : IsS76 w0 W g f0 f1 f2) : ∀ k, W.heap.size ≤ k → k ≠ g := by
  obtain ⟨A0, c0, hb, hg, hr0, hl0⟩ := h
  exact Kd.freshB hb
theorem IsS76.kept {w0 W : World} {g : Nat} {f0 : List Int} {f1 : Int} {f2 : Bool} {W1 : World} {S : Nat → Prop} (h : IsS76 w0 W g f0 f1 f2) (hk : Kept W W1 S) (hne : ¬ S g) : IsS76 w0 W1 g f0 f1 f2 := by
  obtain ⟨A0, c0, hb, hg, hr0, hl0⟩ := h
  exact ⟨A0, c0, blk_kept hb hk hne, hg, hr0, hl0⟩
theorem IsS76.below {w0 W : World} {g : Nat} {f0 : List Int} {f1 : Int} {f2 : Bool} {W1 : World} (h : IsS76 w0 W g f0 f1 f2) (hw : Below W.heap.size W W1) : IsS76 w0 W1 g f0 f1 f2 := h.grown (grown_of_below hw none) (by simp)
theorem IsS76.alloc {w0 W : World} {g : Nat} {f0 : List Int} {f1 : Int} {f2 : Bool} (h : IsS76 w0 W g f0 f1 f2) (o : Obj) : IsS76 w0 (W.alloc o) g f0 f1 f2 := h.below (below_alloc (Below.refl _ _) o)
theorem IsS76.drewN {w0 W : World} {g : Nat} {f0 : List Int} {f1 : Int} {f2 : Bool} (h : IsS76 w0 W g f0 f1 f2) (m : Nat) : IsS76 w0 (W.drewN m) g f0 f1 f2 := h
theorem IsS76.drew {w0 W : World} {g : Nat} {f0 : List Int} {f1 : Int} {f2 : Bool} (h : IsS76 w0 W g f0 f1 f2) : IsS76 w0 W.drew g f0 f1 f2 := h
theorem IsS76.at_ {w0 W : World} {g : Nat} {f0 : List Int} {f1 : Int} {f2 : Bool} {w' : World} {m : Nat} (hq : W.drewN m = w') (h : IsS76 w0 W g f0 f1 f2) : IsS76 w0 w' g f0 f1 f2 := by subst hq; exact IsS76.drewN h m
theorem IsS76.apart {w0 W : World} {g : Nat} {f0 : List Int} {f1 : Int} {f2 : Bool} {α : Type} {d : Kd α} {e : Nat} {base : Nat} {ok : Nat → Prop} {v : Value} {xs : List α} (h : IsS76 w0 W g f0 f1 f2) (ho : d.R e W base ok v xs) (ht : ∀ q, q ∈ e :: d.E → q ≠ 76) : d.R e W base (fun k => ok k ∧ k ≠ g) v xs := by
  obtain ⟨A0, c0, hb, hg, hr0, hl0⟩ := h
  exact Kd.R_types ho hb ht
theorem IsS76.own_ne {w0 W : World} {g : Nat} {f0 : List Int} {f1 : Int} {f2 : Bool} {α : Type} {d : Kd α} {e : Nat} {base : Nat} {ok : Nat → Prop} {v : Value} {xs : List α} (h : IsS76 w0 W g f0 f1 f2) (ho : d.R e W base ok v xs) (ht : e ≠ 76) : some g ≠ v.ownBlock := by
  obtain ⟨A0, c0, hb, hg, hr0, hl0⟩ := h
  exact Kd.R_ne ho hb ht
theorem IsS76.apartQ {w0 W : World} {g : Nat} {f0 : List Int} {f1 : Int} {f2 : Bool} {α : Type} {d : Kd α} {e : Nat} {base : Nat} {ok : Nat → Prop} {v : Value} {xs : List α} (h : IsS76 w0 W g f0 f1 f2) (ho : d.Q e W base ok v xs) (ht : ∀ q, q ∈ e :: d.E → q ≠ 76) : d.Q e W base (fun k => ok k ∧ k ≠ g) v xs := by
  obtain ⟨A0, c0, hb, hg, hr0, hl0⟩ := h
  exact Kd.Q_types ho hb ht
theorem IsS76.own_neQ {w0 W : World} {g : Nat} {f0 : List Int} {f1 : Int} {f2 : Bool} {α : Type} {d : Kd α} {e : Nat} {base : Nat} {ok : Nat → Prop} {v : Value} {xs : List α} (h : IsS76 w0 W g f0 f1 f2) (ho : d.Q e W base ok v xs) (ht : e ≠ 76) : some g ≠ v.ownBlock := by
  obtain ⟨A0, c0, hb, hg, hr0, hl0⟩ := h
  exact Kd.Q_ne ho hb ht
theorem IsS76.apartS {w0 W : World} {g : Nat} {f0 : List Int} {f1 : Int} {f2 : Bool} {α : Type} {d : Kd α} {e : Nat} {base : Nat} {ok : Nat → Prop} {v : Value} {xs : List α} (h : IsS76 w0 W g f0 f1 f2) (ho : d.S e W base ok v xs) (ht : ∀ q, q ∈ e :: d.E → q ≠ 76) : d.S e W base (fun k => ok k ∧ k ≠ g) v xs := by
  obtain ⟨A0, c0, hb, hg, hr0, hl0⟩ := h
  exact Kd.S_types ho hb ht
theorem IsS76.own_neS {w0 W : World} {g : Nat} {f0 : List Int} {f1 : Int} {f2 : Bool} {α : Type} {d : Kd α} {e : Nat} {base : Nat} {ok : Nat → Prop} {v : Value} {xs : List α} (h : IsS76 w0 W g f0 f1 f2) (ho : d.S e W base ok v xs) (ht : e ≠ 76) : some g ≠ v.ownBlock := by
  obtain ⟨A0, c0, hb, hg, hr0, hl0⟩ := h
  exact Kd.S_ne ho hb ht
theorem IsS76.lt {w0 W : World} {g : Nat} {f0 : List Int} {f1 : Int} {f2 : Bool} (h : IsS76 w0 W g f0 f1 f2) : g < W.heap.size := by
  obtain ⟨A0, c0, hb, hg, hr0, hl0⟩ := h
  exact blk_lt hb
theorem IsS76.ge {w0 W : World} {g : Nat} {f0 : List Int} {f1 : Int} {f2 : Bool} (h : IsS76 w0 W g f0 f1 f2) : w0.heap.size ≤ g := by
  obtain ⟨A0, c0, hb, hg, hr0, hl0⟩ := h
  exact hg
theorem IsS76.ne_blk {w0 W : World} {g : Nat} {f0 : List Int} {f1 : Int} {f2 : Bool} {a : Nat} {cs : Array Value} {t : TypeId} {fr : Nat × Nat} (h : IsS76 w0 W g f0 f1 f2) (hb2 : W.heap[a]? = some (.cells cs t fr)) (ht : t ≠ 76) : g ≠ a := by
  obtain ⟨A0, c0, hb, hg, hr0, hl0⟩ := h
  rintro rfl
  rw [hb] at hb2
  injection hb2 with hb2
  injection hb2 with _ ht2
  exact ht ht2.symm
theorem IsS76.far {w0 W : World} {g : Nat} {f0 : List Int} {f1 : Int} {f2 : Bool} {p : Addr} (h : IsS76 w0 W g f0 f1 f2) (hne : g ≠ p.block) (u : Value) : IsS76 w0 (W.setCell p u) g f0 f1 f2 := by
  obtain ⟨A0, c0, hb, hg, hr0, hl0⟩ := h
  exact ⟨A0, c0, blk_far hb hne u, hg, hr0, hl0⟩
theorem cellS76_0 {W : World} {g : Nat} {A0 : Option Addr} {c0 : Nat} {f0 : List Int} {f1 : Int} {f2 : Bool} (h : W.heap[g]? = some (.cells #[.slice A0 f0.length c0, .int .i64 f1, .bool f2] 76 (0, 0))) : W.cell? ⟨g, 0, none⟩ = some (.slice A0 f0.length c0) := (blk_cell h 0).trans rfl
theorem cellS76_1 {W : World} {g : Nat} {A0 : Option Addr} {c0 : Nat} {f0 : List Int} {f1 : Int} {f2 : Bool} (h : W.heap[g]? = some (.cells #[.slice A0 f0.length c0, .int .i64 f1, .bool f2] 76 (0, 0))) : W.cell? ⟨g, 1, none⟩ = some (.int .i64 f1) := (blk_cell h 1).trans rfl
theorem IsS76.set_1 {w0 W : World} {g : Nat} {f0 : List Int} {f1 : Int} {f2 : Bool} (h : IsS76 w0 W g f0 f1 f2) (x : Int) : IsS76 w0 (W.setCell ⟨g, 1, none⟩ (.int .i64 x)) g f0 x f2 := by
  obtain ⟨A0, c0, hb, hg, hr0, hl0⟩ := h
  exact ⟨A0, c0, by simpa using blk_set hb 1 (.int .i64 x), hg, hr0, hl0⟩
theorem cellS76_2 {W : World} {g : Nat} {A0 : Option Addr} {c0 : Nat} {f0 : List Int} {f1 : Int} {f2 : Bool} (h : W.heap[g]? = some (.cells #[.slice A0 f0.length c0, .int .i64 f1, .bool f2] 76 (0, 0))) : W.cell? ⟨g, 2, none⟩ = some (.bool f2) := (blk_cell h 2).trans rfl
theorem IsS76.set_2 {w0 W : World} {g : Nat} {f0 : List Int} {f1 : Int} {f2 : Bool} (h : IsS76 w0 W g f0 f1 f2) (x : Bool) : IsS76 w0 (W.setCell ⟨g, 2, none⟩ (.bool x)) g f0 f1 x := by
  obtain ⟨A0, c0, hb, hg, hr0, hl0⟩ := h
  exact ⟨A0, c0, by simpa using blk_set hb 2 (.bool x), hg, hr0, hl0⟩
theorem IsS76.new (w0 W : World) (A0 : Option Addr) (c0 : Nat) (f0 : List Int) (f1 : Int) (f2 : Bool) (hB : Below w0.heap.size w0 W) (hr0 : Kd.C (Kd.int .u8) w0 A0 f0.length f0) (hl0 : f0.length ≤ c0) : IsS76 w0 (W.alloc (.cells #[.slice A0 f0.length c0, .int .i64 f1, .bool f2] 76)) W.heap.size f0 f1 f2 := ⟨A0, c0, by simpa using heap_alloc_new W _, hB.size, hr0, hl0⟩

end Go.Proofs.Ythbnblmnamckmaa.PAll
-- Laid by a program of this seat (wip/xprint.py over the kit's print).
namespace Go.Proofs.Ythbnblmnamckmaa.PAll
open Go.RowKit Go.Proofs.YthbnblmnamckmaaW.PrintWords Go.Proofs.YthbnblmnamckmaaW.PrintLast Go.Proofs.YthbnblmnamckmaaW.PrintMore
attribute [local go_sem] max2_int min2_int max_two min_two max_three min_three max_four min_four   -- for this text's walks alone
set_option linter.unusedVariables false
set_option linter.unusedSimpArgs false

/-! ### codec_Uint: function 18 -/
mutual
def codec_Uint.l0 : Nat → List Int → Int → Int → Option (Int × Int × Int)
 | 0, _, _, _ => none
 | k + 1, x0, x5, x8 => if x8 < 10 then (if x8 ≥ (x0.length : Int) then (some (0, 0, 20)) else (if 0 ≤ x8 then (if x8 < (x0.length : Int) then (if x8 = 9 then (codec_Uint.j1 k x0 x5 x8 (rd x0 x8) x8 (decide ((rd x0 x8) > 1))) else (codec_Uint.j1 k x0 x5 x8 (rd x0 x8) x8 false)) else (none)) else (none))) else (some (0, 0, 20))
def codec_Uint.j1 : Nat → List Int → Int → Int → Int → Int → Bool → Option (Int × Int × Int)
 | 0, _, _, _, _, _, _ => none
 | k + 1, x0, x5, x6, x7, x8, x19 => if x19 = true then (some (0, 0, 20)) else (if x7 ≥ 128 then (if 0 ≤ (wrap64 (7 * x6)) then (codec_Uint.l0 k x0 (Go.bits .or .u64 x5 (shl .u64 ((x7 - 128) % 256) (wrap64 (7 * x6)))) (wrap64 (x8 + 1))) else (none)) else (if x7 = 0 then (if x6 > 0 then (some (0, 0, 20)) else (if 0 ≤ (wrap64 (7 * x6)) then (some (Go.bits .or .u64 x5 (shl .u64 (IntKind.u64.wrap (x7)) (wrap64 (7 * x6))), wrap64 (x6 + 1), 0)) else (none))) else (if 0 ≤ (wrap64 (7 * x6)) then (some (Go.bits .or .u64 x5 (shl .u64 (IntKind.u64.wrap (x7)) (wrap64 (7 * x6))), wrap64 (x6 + 1), 0)) else (none))))
end
def codec_Uint.f (k : Nat) (l0 : List Int) : Option (Int × Int × Int) := codec_Uint.l0 k l0 0 0
theorem codec_Uint.mono_l : ∀ k, (∀ y0 y1 y2, LeO (codec_Uint.l0 k y0 y1 y2) (codec_Uint.l0 (k + 1) y0 y1 y2)) ∧ (∀ y0 y1 y2 y3 y4 y5, LeO (codec_Uint.j1 k y0 y1 y2 y3 y4 y5) (codec_Uint.j1 (k + 1) y0 y1 y2 y3 y4 y5))
 | 0 => ⟨fun _ _ _ r h => by simp [codec_Uint.l0] at h, fun _ _ _ _ _ _ r h => by simp [codec_Uint.j1] at h⟩
 | k + 1 => by
  obtain ⟨ih0, ih1⟩ := codec_Uint.mono_l k
  refine ⟨?_, ?_⟩
  ·intro y0 y1 y2
   unfold codec_Uint.l0
   repeat' first
   | (with_reducible exact ih0 _ _ _)
   | (with_reducible exact ih1 _ _ _ _ _ _)
   | (with_reducible exact LeO.refl _)
   | (with_reducible exact LeO.none _)
   | (with_reducible refine LeO.ite ?_ ?_)
   | (with_reducible refine LeO.bind ?_ (fun _ => ?_))
   | exact ih0 _ _ _
   | exact ih1 _ _ _ _ _ _
   | exact LeO.none _
   | refine LeO.ite ?_ ?_
   | refine LeO.bind ?_ (fun _ => ?_)
  ·intro y0 y1 y2 y3 y4 y5
   unfold codec_Uint.j1
   repeat' first
   | (with_reducible exact ih0 _ _ _)
   | (with_reducible exact ih1 _ _ _ _ _ _)
   | (with_reducible exact LeO.refl _)
   | (with_reducible exact LeO.none _)
   | (with_reducible refine LeO.ite ?_ ?_)
   | (with_reducible refine LeO.bind ?_ (fun _ => ?_))
   | exact ih0 _ _ _
   | exact ih1 _ _ _ _ _ _
   | exact LeO.none _
   | refine LeO.ite ?_ ?_
   | refine LeO.bind ?_ (fun _ => ?_)
theorem codec_Uint.mono : ∀ a0 k, LeO (codec_Uint.f k a0) (codec_Uint.f (k + 1) a0) := by
 intro a0 k
 obtain ⟨ih0, ih1⟩ := codec_Uint.mono_l k
 unfold codec_Uint.f
 repeat' first
   | (with_reducible exact ih0 _ _ _)
   | (with_reducible exact ih1 _ _ _ _ _ _)
   | (with_reducible exact LeO.refl _)
   | (with_reducible exact LeO.none _)
   | (with_reducible refine LeO.ite ?_ ?_)
   | (with_reducible refine LeO.bind ?_ (fun _ => ?_))
   | exact ih0 _ _ _
   | exact ih1 _ _ _ _ _ _
   | exact LeO.none _
   | refine LeO.ite ?_ ?_
   | refine LeO.bind ?_ (fun _ => ?_)
set_option maxHeartbeats 8000000 in
set_option maxRecDepth 100000 in
theorem codec_Uint.calls (k : Nat) (A0 : Option Addr) (c0 : Nat) (l0 : List Int) (r1 : Int) (r2 : Int) (r3 : Int) (w : World) (hr0 : Kd.C (Kd.int .u8) w A0 l0.length l0) (hc0 : l0.length ≤ c0) (h : codec_Uint.f k l0 = some (r1, r2, r3)) :
  Calls Try.prog 18 #[.slice A0 l0.length c0] w fun e w' => e = .returned (.tuple #[.int .u64 r1, .int .i64 r2, .int .i64 r3]) ∧ Drawn0 w w' := by
 have HR0 := Aside0.mk hr0
 have HC0 := Aside0.mk hc0
 clear hr0 hc0
 have H : (codec_Uint.l0 k l0 0 0) = some (r1, r2, r3) := h
 clear h
 have H' := Aside0.mk H
 clear H
 go_enter Try.func18, Try.ntmps18
 go_wp2_with (first | (with_reducible refine wp_label ?_) | ((with_reducible refine Opn.wp_scope_nog ?sc ?_); (case sc => funext e_ a_ w_; cases e_ <;> rfl)))
 go_loopg [5, 8] k (fun kq v5 v8 w' => ∃ (x5_1 : Int) (x8_1 : Int), v5 = .int .u64 x5_1 ∧ v8 = .int .i64 x8_1 ∧ Aside0 (codec_Uint.l0 kq l0 x5_1 x8_1 = some (r1, r2, r3)) ∧ Aside0 (kq ≤ k) ∧ Drawn0 w w')
 case atStart => exact ⟨(0), (0), (by first | rfl | (simp; done) | (simp [*]; done)), (by first | rfl | (simp; done) | (simp [*]; done)), H', ⟨Nat.le_refl _⟩, by repeat (first | exact Drawn0.refl _ | apply Drawn0.step)⟩
 case round =>
  clear H'
  try clear c1
  obtain ⟨x5_1, x8_1, rfl, rfl, HA, HK1, ⟨m1, rfl⟩⟩ := hrel
  cases gk with
  | zero => exact absurd HA.out (by simp [codec_Uint.l0])
  | succ k1 =>
   have H := HA.out
   clear HA
   simp only [codec_Uint.l0] at H
   by_cases c2 : x8_1 < 10
   ·rw [if_pos c2] at H
    have c2b0 : decide (x8_1 < 10) = true := decide_eq_true c2
    clear c2
    by_cases c3 : x8_1 ≥ (l0.length : Int)
    ·rw [if_pos c3] at H
     have c3b0 : decide ((l0.length : Int) ≤ x8_1) = true := decide_eq_true c3
     clear c3
     simp only [Option.some.injEq, Prod.mk.injEq] at H
     obtain ⟨rfl, rfl, rfl⟩ := H
     go_wp2_with (first | (with_reducible refine wp_label ?_) | ((with_reducible refine Opn.wp_scope_nog ?sc ?_); (case sc => funext e_ a_ w_; cases e_ <;> rfl)))
     go_ret3
     exact ⟨by first | rfl | (simp; done) | (simp [*]; done), by repeat (first | exact Drawn0.refl _ | apply Drawn0.step)⟩
    ·rw [if_neg c3] at H
     have c3b0 : decide ((l0.length : Int) ≤ x8_1) = false := decide_eq_false c3
     clear c3
     by_cases c4 : 0 ≤ x8_1
     ·rw [if_pos c4] at H
      have c4b0 : decide (0 ≤ x8_1) = true := decide_eq_true c4
      clear c4
      by_cases c5 : x8_1 < (l0.length : Int)
      ·rw [if_pos c5] at H
       have c5b0 : decide (x8_1 < (l0.length : Int)) = true := decide_eq_true c5
       clear c5
       have HC6 := Aside0.mk H
       clear H
       have p215 : 0 ≤ (x8_1 : Int) := of_decide_eq_true (by first | (with_reducible assumption) | assumption)
       have q215 : x8_1 < (l0.length : Int) := of_decide_eq_true (by first | (with_reducible assumption) | assumption)
       obtain ⟨ad215, e215, hx215_0⟩ := Kd.at_int HR0.out x8_1 p215 q215
       cases e215
       replace p215 := eq_true p215
       replace q215 := eq_true q215
       go_upto_region 7 with (first | (with_reducible refine wp_label ?_) | ((with_reducible refine Opn.wp_scope_nog ?sc ?_); (case sc => funext e_ a_ w_; cases e_ <;> rfl)))
       go_cut [19] (fun v19 wc => ∃ (kq : Nat) (x19_5 : Bool), v19 = .bool x19_5 ∧ Aside0 (codec_Uint.j1 kq l0 x5_1 x8_1 (rd l0 x8_1) x8_1 x19_5 = some (r1, r2, r3)) ∧ Aside0 (kq ≤ k1) ∧ Drawn0 w wc)
       case first =>
        have H := HC6.out
        clear HC6
        by_cases c7 : x8_1 = 9
        ·rw [if_pos c7] at H
         have c7b0 : (x8_1 == 9) = true := beq_iff_eq.mpr c7
         have c7b1 : (x8_1 != 9) = false := bne_eq_false_iff_eq.mpr c7
         clear c7
         (first | rw [c7b0] | (simp only [i64_w, i32_w]; rw [c7b0]) | skip)
         have H' := Aside0.mk H
         clear H
         go_wp2_with (first | (with_reducible refine wp_label ?_) | ((with_reducible refine Opn.wp_scope_nog ?sc ?_); (case sc => funext e_ a_ w_; cases e_ <;> rfl)))
         go_meet
         case rel => exact ⟨_, (decide ((rd l0 x8_1) > 1)), (by first | rfl | (simp; done) | (simp [*]; done)), H', ⟨by have := HK1.out; first | omega | exact Nat.le_refl _⟩, by repeat (first | exact Drawn0.refl _ | apply Drawn0.step)⟩
        ·rw [if_neg c7] at H
         have c7b0 : (x8_1 == 9) = false := beq_eq_false_iff_ne.mpr c7
         have c7b1 : (x8_1 != 9) = true := bne_iff_ne.mpr c7
         (first | rw [c7b0] | (simp only [i64_w, i32_w]; rw [c7b0]) | skip)
         have H' := Aside0.mk H
         clear H
         go_wp2_with (first | (with_reducible refine wp_label ?_) | ((with_reducible refine Opn.wp_scope_nog ?sc ?_); (case sc => funext e_ a_ w_; cases e_ <;> rfl)))
         go_meet
         case rel => exact ⟨_, (false), (by first | rfl | (simp; done) | (simp [*]; done)), H', ⟨by have := HK1.out; first | omega | exact Nat.le_refl _⟩, by repeat (first | exact Drawn0.refl _ | apply Drawn0.step)⟩
       case rest =>
        clear HC6
        try clear c1
        try clear c2
        try clear c2b0
        try clear p2
        try clear q2
        try clear hx2
        try clear c3
        try clear c3b0
        try clear c4
        try clear c4b0
        try clear c5
        try clear c5b0
        try clear c7
        try clear c7b0
        try clear c7b1
        try clear hx215_0
        try clear p215
        try clear q215
        obtain ⟨kq, x19_5, rfl, HA, HJ5, ⟨mc5, rfl⟩⟩ := hcut
        cases kq with
        | zero => exact absurd HA.out (by simp [codec_Uint.j1])
        | succ kj5 =>
         have H := HA.out
         clear HA
         simp only [codec_Uint.j1] at H
         by_cases c8 : x19_5 = true
         ·subst c8
          have H1 : (some (0, 0, 20)) = some (r1, r2, r3) := by rw [if_pos rfl] at H; exact H
          clear H
          have H := H1
          clear H1
          simp only [Option.some.injEq, Prod.mk.injEq] at H
          obtain ⟨rfl, rfl, rfl⟩ := H
          go_wp2_with (first | (with_reducible refine wp_label ?_) | ((with_reducible refine Opn.wp_scope_nog ?sc ?_); (case sc => funext e_ a_ w_; cases e_ <;> rfl)))
          go_ret3
          exact ⟨by first | rfl | (simp; done) | (simp [*]; done), by repeat (first | exact Drawn0.refl _ | apply Drawn0.step)⟩
         ·replace c8 := Bool.eq_false_iff.mpr c8
          subst c8
          have H1 : (if (rd l0 x8_1) ≥ 128 then (if 0 ≤ (wrap64 (7 * x8_1)) then (codec_Uint.l0 kj5 l0 (Go.bits .or .u64 x5_1 (shl .u64 (((rd l0 x8_1) - 128) % 256) (wrap64 (7 * x8_1)))) (wrap64 (x8_1 + 1))) else (none)) else (if (rd l0 x8_1) = 0 then (if x8_1 > 0 then (some (0, 0, 20)) else (if 0 ≤ (wrap64 (7 * x8_1)) then (some (Go.bits .or .u64 x5_1 (shl .u64 (IntKind.u64.wrap ((rd l0 x8_1))) (wrap64 (7 * x8_1))), wrap64 (x8_1 + 1), 0)) else (none))) else (if 0 ≤ (wrap64 (7 * x8_1)) then (some (Go.bits .or .u64 x5_1 (shl .u64 (IntKind.u64.wrap ((rd l0 x8_1))) (wrap64 (7 * x8_1))), wrap64 (x8_1 + 1), 0)) else (none)))) = some (r1, r2, r3) := by rw [if_neg (show ¬ (false = true) by decide)] at H; exact H
          clear H
          have H := H1
          clear H1
          by_cases c9 : (rd l0 x8_1) ≥ 128
          ·rw [if_pos c9] at H
           have c9b0 : decide (128 ≤ (rd l0 x8_1)) = true := decide_eq_true c9
           clear c9
           obtain ⟨ji10, hji10⟩ : ∃ j_ : Int, (wrap64 (7 * x8_1)) = j_ := ⟨_, rfl⟩
           replace H : (if 0 ≤ (ji10) then (codec_Uint.l0 kj5 l0 (Go.bits .or .u64 x5_1 (shl .u64 (((rd l0 x8_1) - 128) % 256) (ji10))) (wrap64 (x8_1 + 1))) else (none)) = some (r1, r2, r3) := by first | (rw [hji10] at H; exact H) | (simp only [hji10] at H ⊢; exact H)
           have hji10w : (IntKind.i64.wrap (7 * x8_1)) = ji10 := (i64_w _).trans hji10
           by_cases c11 : 0 ≤ (ji10)
           ·rw [if_pos c11] at H
            have c11b0 := eq_true c11
            have c11b1 : decide (0 ≤ (ji10)) = true := decide_eq_true c11
            clear c11
            obtain ⟨ji12, hji12⟩ : ∃ j_ : Int, (shl .u64 (((rd l0 x8_1) - 128) % 256) (ji10)) = j_ := ⟨_, rfl⟩
            replace H : (codec_Uint.l0 kj5 l0 (Go.bits .or .u64 x5_1 (ji12)) (wrap64 (x8_1 + 1))) = some (r1, r2, r3) := by first | (rw [hji12] at H; exact H) | (simp only [hji12] at H ⊢; exact H)
            have hji12_ : (IntKind.u64.wrap ((((rd l0 x8_1) - 128) % 256) * 2 ^ min (ji10).toNat 64)) = ji12 := hji12
            have hji12z : (ji10) ≤ 64 → (IntKind.u64.wrap ((((rd l0 x8_1) - 128) % 256) * 2 ^ (ji10).toNat)) = ji12 := shl_small hji12
            have H' := Aside0.mk H
            clear H
            go_wp2_with (first | (with_reducible refine wp_label ?_) | ((with_reducible refine Opn.wp_scope_nog ?sc ?_); (case sc => funext e_ a_ w_; cases e_ <;> rfl)))
            go_roundg kj5
            case measure => have := HK1.out; have := HJ5.out; omega
            case rel => exact ⟨(Go.bits .or .u64 x5_1 (ji12)), (wrap64 (x8_1 + 1)), (by first | rfl | (simp; done) | (simp only [← hji12] <;> (first | rfl | simp)) | (simp [*]; done)), (by first | rfl | (simp; done) | (simp [*]; done)), H', ⟨by have := HK1.out; have := HJ5.out; omega⟩, by repeat (first | exact Drawn0.refl _ | apply Drawn0.step)⟩
           ·rw [if_neg c11] at H
            exact absurd H (by simp)
          ·rw [if_neg c9] at H
           have c9b0 : decide (128 ≤ (rd l0 x8_1)) = false := decide_eq_false c9
           clear c9
           by_cases c13 : (rd l0 x8_1) = 0
           ·rw [if_pos c13] at H
            have c13b0 : ((rd l0 x8_1) == 0) = true := beq_iff_eq.mpr c13
            have c13b1 : ((rd l0 x8_1) != 0) = false := bne_eq_false_iff_eq.mpr c13
            clear c13
            by_cases c14 : x8_1 > 0
            ·rw [if_pos c14] at H
             have c14b0 : decide (0 < x8_1) = true := decide_eq_true c14
             clear c14
             simp only [Option.some.injEq, Prod.mk.injEq] at H
             obtain ⟨rfl, rfl, rfl⟩ := H
             go_wp2_with (first | (with_reducible refine wp_label ?_) | ((with_reducible refine Opn.wp_scope_nog ?sc ?_); (case sc => funext e_ a_ w_; cases e_ <;> rfl)))
             go_ret3
             exact ⟨by first | rfl | (simp; done) | (simp [*]; done), by repeat (first | exact Drawn0.refl _ | apply Drawn0.step)⟩
            ·rw [if_neg c14] at H
             have c14b0 : decide (0 < x8_1) = false := decide_eq_false c14
             clear c14
             obtain ⟨ji15, hji15⟩ : ∃ j_ : Int, (wrap64 (7 * x8_1)) = j_ := ⟨_, rfl⟩
             replace H : (if 0 ≤ (ji15) then (some (Go.bits .or .u64 x5_1 (shl .u64 (IntKind.u64.wrap ((rd l0 x8_1))) (ji15)), wrap64 (x8_1 + 1), 0)) else (none)) = some (r1, r2, r3) := by first | (rw [hji15] at H; exact H) | (simp only [hji15] at H ⊢; exact H)
             have hji15w : (IntKind.i64.wrap (7 * x8_1)) = ji15 := (i64_w _).trans hji15
             by_cases c16 : 0 ≤ (ji15)
             ·rw [if_pos c16] at H
              have c16b0 := eq_true c16
              have c16b1 : decide (0 ≤ (ji15)) = true := decide_eq_true c16
              clear c16
              obtain ⟨ji17, hji17⟩ : ∃ j_ : Int, (shl .u64 (IntKind.u64.wrap ((rd l0 x8_1))) (ji15)) = j_ := ⟨_, rfl⟩
              replace H : (some (Go.bits .or .u64 x5_1 (ji17), wrap64 (x8_1 + 1), 0)) = some (r1, r2, r3) := by first | (rw [hji17] at H; exact H) | (simp only [hji17] at H ⊢; exact H)
              have hji17_ : (IntKind.u64.wrap ((IntKind.u64.wrap ((rd l0 x8_1))) * 2 ^ min (ji15).toNat 64)) = ji17 := hji17
              have hji17z : (ji15) ≤ 64 → (IntKind.u64.wrap ((IntKind.u64.wrap ((rd l0 x8_1))) * 2 ^ (ji15).toNat)) = ji17 := shl_small hji17
              simp only [Option.some.injEq, Prod.mk.injEq] at H
              obtain ⟨rfl, rfl, rfl⟩ := H
              go_wp2_with (first | (with_reducible refine wp_label ?_) | ((with_reducible refine Opn.wp_scope_nog ?sc ?_); (case sc => funext e_ a_ w_; cases e_ <;> rfl)))
              go_ret3
              exact ⟨by first | rfl | (simp; done) | (simp only [← hji15, ← hji17] <;> (first | rfl | simp)) | (simp [*]; done), by repeat (first | exact Drawn0.refl _ | apply Drawn0.step)⟩
             ·rw [if_neg c16] at H
              exact absurd H (by simp)
           ·rw [if_neg c13] at H
            have c13b0 : ((rd l0 x8_1) == 0) = false := beq_eq_false_iff_ne.mpr c13
            have c13b1 : ((rd l0 x8_1) != 0) = true := bne_iff_ne.mpr c13
            obtain ⟨ji18, hji18⟩ : ∃ j_ : Int, (wrap64 (7 * x8_1)) = j_ := ⟨_, rfl⟩
            replace H : (if 0 ≤ (ji18) then (some (Go.bits .or .u64 x5_1 (shl .u64 (IntKind.u64.wrap ((rd l0 x8_1))) (ji18)), wrap64 (x8_1 + 1), 0)) else (none)) = some (r1, r2, r3) := by first | (rw [hji18] at H; exact H) | (simp only [hji18] at H ⊢; exact H)
            have hji18w : (IntKind.i64.wrap (7 * x8_1)) = ji18 := (i64_w _).trans hji18
            by_cases c19 : 0 ≤ (ji18)
            ·rw [if_pos c19] at H
             have c19b0 := eq_true c19
             have c19b1 : decide (0 ≤ (ji18)) = true := decide_eq_true c19
             clear c19
             obtain ⟨ji20, hji20⟩ : ∃ j_ : Int, (shl .u64 (IntKind.u64.wrap ((rd l0 x8_1))) (ji18)) = j_ := ⟨_, rfl⟩
             replace H : (some (Go.bits .or .u64 x5_1 (ji20), wrap64 (x8_1 + 1), 0)) = some (r1, r2, r3) := by first | (rw [hji20] at H; exact H) | (simp only [hji20] at H ⊢; exact H)
             have hji20_ : (IntKind.u64.wrap ((IntKind.u64.wrap ((rd l0 x8_1))) * 2 ^ min (ji18).toNat 64)) = ji20 := hji20
             have hji20z : (ji18) ≤ 64 → (IntKind.u64.wrap ((IntKind.u64.wrap ((rd l0 x8_1))) * 2 ^ (ji18).toNat)) = ji20 := shl_small hji20
             simp only [Option.some.injEq, Prod.mk.injEq] at H
             obtain ⟨rfl, rfl, rfl⟩ := H
             go_wp2_with (first | (with_reducible refine wp_label ?_) | ((with_reducible refine Opn.wp_scope_nog ?sc ?_); (case sc => funext e_ a_ w_; cases e_ <;> rfl)))
             go_ret3
             exact ⟨by first | rfl | (simp; done) | (simp only [← hji18, ← hji20] <;> (first | rfl | simp)) | (simp [*]; done), by repeat (first | exact Drawn0.refl _ | apply Drawn0.step)⟩
            ·rw [if_neg c19] at H
             exact absurd H (by simp)
      ·rw [if_neg c5] at H
       exact absurd H (by simp)
     ·rw [if_neg c4] at H
      exact absurd H (by simp)
   ·rw [if_neg c2] at H
    have c2b0 : decide (x8_1 < 10) = false := decide_eq_false c2
    clear c2
    simp only [Option.some.injEq, Prod.mk.injEq] at H
    obtain ⟨rfl, rfl, rfl⟩ := H
    go_wp2_with (first | (with_reducible refine wp_label ?_) | ((with_reducible refine Opn.wp_scope_nog ?sc ?_); (case sc => funext e_ a_ w_; cases e_ <;> rfl)))
    go_ret3
    exact ⟨by first | rfl | (simp; done) | (simp [*]; done), by repeat (first | exact Drawn0.refl _ | apply Drawn0.step)⟩

end Go.Proofs.Ythbnblmnamckmaa.PAll
-- Laid by a program of this seat (wip/xprint.py over the kit's print).
namespace Go.Proofs.Ythbnblmnamckmaa.PAll
open Go.RowKit Go.Proofs.YthbnblmnamckmaaW.PrintWords Go.Proofs.YthbnblmnamckmaaW.PrintLast Go.Proofs.YthbnblmnamckmaaW.PrintMore
attribute [local go_sem] max2_int min2_int max_two min_two max_three min_three max_four min_four   -- for this text's walks alone
set_option linter.unusedVariables false
set_option linter.unusedSimpArgs false

/-! ### codec_Int: function 24 -/
def codec_Int.f (k : Nat) (l0 : List Int) : Option (Int × Int × Int) := (codec_Uint.f k l0).bind fun bt216 => (some (Go.bits .xor .i64 (wrap64 (bt216.1 / 2)) (wrap64 (-(wrap64 (Go.bits .and .u64 bt216.1 1)))), bt216.2.1, bt216.2.2))
theorem codec_Int.mono : ∀ a0 k, LeO (codec_Int.f k a0) (codec_Int.f (k + 1) a0) := by
  intro a0 k
  unfold codec_Int.f
  repeat' first
      | (with_reducible exact codec_Uint.mono _ _)
      | (with_reducible exact LeO.refl _)
      | (with_reducible exact LeO.none _)
      | (with_reducible refine LeO.ite ?_ ?_)
      | (with_reducible refine LeO.bind ?_ (fun _ => ?_))
      | exact codec_Uint.mono _ _
      | exact LeO.none _
      | refine LeO.ite ?_ ?_
      | refine LeO.bind ?_ (fun _ => ?_)
set_option maxHeartbeats 8000000 in
set_option maxRecDepth 100000 in
theorem codec_Int.calls (k : Nat) (A0 : Option Addr) (c0 : Nat) (l0 : List Int) (r1 : Int) (r2 : Int) (r3 : Int) (w : World) (hr0 : Kd.C (Kd.int .u8) w A0 l0.length l0) (hc0 : l0.length ≤ c0) (h : codec_Int.f k l0 = some (r1, r2, r3)) :
    Calls Try.prog 24 #[.slice A0 l0.length c0] w fun e w' => e = .returned (.tuple #[.int .i64 r1, .int .i64 r2, .int .i64 r3]) ∧ Drawn0 w w' := by
  have HR0 := Aside0.mk hr0
  have HC0 := Aside0.mk hc0
  clear hr0 hc0
  have H : ((codec_Uint.f k l0).bind fun bt216 => (some (Go.bits .xor .i64 (wrap64 (bt216.1 / 2)) (wrap64 (-(wrap64 (Go.bits .and .u64 bt216.1 1)))), bt216.2.1, bt216.2.2))) = some (r1, r2, r3) := h
  clear h
  replace H := Option.bind_eq_some_iff.mp H
  obtain ⟨⟨t216, t217, t218⟩, A20, H⟩ := H
  replace H : (some (Go.bits .xor .i64 (wrap64 (t216 / 2)) (wrap64 (-(wrap64 (Go.bits .and .u64 t216 1)))), t217, t218)) = some (r1, r2, r3) := H
  have A2 := Aside0.mk A20
  clear A20
  simp only [Option.some.injEq, Prod.mk.injEq] at H
  obtain ⟨rfl, rfl, rfl⟩ := H
  go_enter Try.func24, Try.ntmps24
  go_wp2_with (first | ((with_reducible refine gate_callee (f := 18) rfl ?_); refine goesL_ (some 10) rfl rfl Try.func18 (by kernel_rfl) rfl #[.slice A0 l0.length c0] rfl (by (try simp only [List.map_toArray, List.map_cons, List.map_nil]); first | done | rfl | (simp only [List.length_drop, List.length_take]; rfl) | (go_simp; done) | (go_simp; simp; done)) ?_; (with_reducible refine (codec_Uint.calls k _ _ l0 t216 t217 t218 _ ?side1 ?side2 A2.out).mono ?_); (case side1 => repeat (first | exact HR0.out | (with_reducible refine Kd.C_alloc ?_ _) | (with_reducible refine Kd.C_drewN ?_ _) | (with_reducible refine Kd.C_drew ?_))); (case side2 => exact HC0.out); rintro e w' ⟨rfl, ⟨nd, rfl⟩⟩; refine ⟨_, rfl, ?_⟩))
  go_ret3
  exact ⟨by first | rfl | (simp; done) | (simp [*]; done), by repeat (first | exact Drawn0.refl _ | apply Drawn0.step)⟩

end Go.Proofs.Ythbnblmnamckmaa.PAll
-- Laid by a program of this seat (wip/xprint.py over the kit's print).
namespace Go.Proofs.Ythbnblmnamckmaa.PAll
open Go.RowKit Go.Proofs.YthbnblmnamckmaaW.PrintWords Go.Proofs.YthbnblmnamckmaaW.PrintLast Go.Proofs.YthbnblmnamckmaaW.PrintMore
attribute [local go_sem] max2_int min2_int max_two min_two max_three min_three max_four min_four   -- for this text's walks alone
set_option linter.unusedVariables false
set_option linter.unusedSimpArgs false

/-! ### codec_reader_takes: function 47 -/
def codec_reader_takes.f (s0_0 : List Int) (s0_1 : Int) (s0_2 : Bool) (a1 : Int) (a2 : Int) : Option (List Int × Int × Bool) := if s0_2 = true then (some (s0_0, s0_1, true)) else (if a2 = 0 then (if 0 ≤ a1 then (if a1 ≤ (s0_0.length : Int) then (some (s0_0.drop (a1 : Int).toNat, wrap64 (s0_1 + a1), false)) else (none)) else (none)) else (some (s0_0, s0_1, true)))
set_option maxHeartbeats 1000000 in
set_option maxRecDepth 100000 in
theorem codec_reader_takes.calls (g : Nat) (s0_0 : List Int) (s0_1 : Int) (s0_2 : Bool) (a1 : Int) (a2 : Int) (r1 : List Int) (r2 : Int) (r3 : Bool) (w0 w : World) (hI : IsS76 w0 w g s0_0 s0_1 s0_2) (hB : Below w0.heap.size w0 w) (h : codec_reader_takes.f s0_0 s0_1 s0_2 a1 a2 = some (r1, r2, r3)) :
    Calls Try.prog 47 #[.pointer (some ⟨g, 0, none⟩), .int .i64 a1, .int .i64 a2] w fun e w' => e = .returned (.tuple #[]) ∧ IsS76 w0 w' g r1 r2 r3 ∧ Below w0.heap.size w0 w' ∧ KeepBut w w' g none := by
  have hu := Try.underlying76
  have HI := Aside0.mk hI
  have HB := Aside0.mk hB
  obtain ⟨A, c, HG, hg, hr, hl⟩ := hI
  have hc0 := cellS76_0 HG
  have hc1 := cellS76_1 HG
  have hc2 := cellS76_2 HG
  have hf0 := blk_frozen HG 0
  have hf1 := blk_frozen HG 1
  have hf2 := blk_frozen HG 2
  have HG' := Aside0.mk HG
  have HR := Aside0.mk hr
  have HL := Aside0.mk hl
  have HGE := Aside0.mk hg
  have fin : ∀ b : Bool, IsS76 w0 (w.setCell ⟨g, 2, none⟩ (.bool b)) g s0_0 s0_1 b ∧ Below w0.heap.size w0 (w.setCell ⟨g, 2, none⟩ (.bool b)) ∧ KeepBut w (w.setCell ⟨g, 2, none⟩ (.bool b)) g none := fun b =>
    ⟨HI.out.set_2 b, below_set HB.out hg, (KeepBut.refl w g none).set_ 2 _⟩
  have FIN := Aside0.mk fin
  clear HG hr hl hg hB fin
  unfold codec_reader_takes.f at h
  cases s0_2 with
  | true =>
    simp only [if_true, Option.some.injEq, Prod.mk.injEq] at h
    obtain ⟨rfl, rfl, rfl⟩ := h
    go_enter Try.func47, Try.ntmps47
    go_wp2
    go_end0
    exact ⟨rfl, FIN.out true⟩
  | false =>
    simp only [if_neg (show ¬ (false = true) by decide)] at h
    by_cases h2 : a2 = 0
    · rw [if_pos h2] at h
      have h2b : (a2 != 0) = false := by simp [h2]
      have h2c : (a2 == 0) = true := by simp [h2]
      clear h2
      by_cases h0 : 0 ≤ a1
      · rw [if_pos h0] at h
        by_cases h1 : a1 ≤ (s0_0.length : Int)
        · rw [if_pos h1] at h
          simp only [Option.some.injEq, Prod.mk.injEq] at h
          obtain ⟨rfl, rfl, rfl⟩ := h
          obtain ⟨i0, hi, hz0, hz1, hz2⟩ := info_parts info5
          obtain ⟨A', hcut, hA, hC⟩ := print_drop_of (P := Try.prog) (Value.int .u8) 0 30 5 .i64 Try.underlying30 hi hz1 A c s0_0 a1 h0 h1 HL.out
          have HA := Aside0.mk hA
          have HC := Aside0.mk hC
          clear hA hC hi hz0 hz1 hz2 h0 h1
          go_enter Try.func47, Try.ntmps47
          go_wp2
          go_region
          go_end0
          have e1 : s0_0.length - a1.toNat = (s0_0.drop a1.toNat).length := by simp
          rw [e1]
          refine ⟨rfl, ⟨A', c - a1.toNat, ?_, HGE.out, Kd.C_of_reads (d := (0 : Int)) (h1 := fun _ => rfl) (HA.out w0 (Kd.reads_of_C HR.out)), HC.out⟩, below_drew (below_set (below_set (below_set HB.out HGE.out) HGE.out) HGE.out), ?_⟩
          · exact blk_put (blk_put (blk_put HG'.out 2 _ rfl) 0 _ rfl) 1 _ rfl
          · exact (((KeepBut.refl w g none).set_ 2 _).set_ 0 _).set_ 1 _
        · rw [if_neg h1] at h
          exact absurd h (by simp)
      · rw [if_neg h0] at h
        exact absurd h (by simp)
    · rw [if_neg h2] at h
      simp only [Option.some.injEq, Prod.mk.injEq] at h
      obtain ⟨rfl, rfl, rfl⟩ := h
      have h2b : (a2 != 0) = true := by simp [h2]
      have h2c : (a2 == 0) = false := by simp [h2]
      clear h2
      go_enter Try.func47, Try.ntmps47
      go_wp2
      go_end0
      exact ⟨rfl, FIN.out true⟩


end Go.Proofs.Ythbnblmnamckmaa.PAll
-- Laid by a program of this seat (wip/xprint.py over the kit's print).
namespace Go.Proofs.Ythbnblmnamckmaa.PAll
open Go.RowKit Go.Proofs.YthbnblmnamckmaaW.PrintWords Go.Proofs.YthbnblmnamckmaaW.PrintLast Go.Proofs.YthbnblmnamckmaaW.PrintMore
attribute [local go_sem] max2_int min2_int max_two min_two max_three min_three max_four min_four   -- for this text's walks alone
set_option linter.unusedVariables false
set_option linter.unusedSimpArgs false

/-! ### stringslite_Clone: function 45 -/
def stringslite_Clone.f (a0 : ByteArray) : Option (ByteArray) := if a0.size ≤ 281474976710656 then (some a0) else none
set_option maxHeartbeats 4000000 in
set_option maxRecDepth 100000 in
theorem stringslite_Clone.calls (a0 : ByteArray) (r : ByteArray) (w : World) (h : stringslite_Clone.f a0 = some r) :
    Calls Try.prog 45 #[.string a0] w fun e w' => e = .returned (.string r) ∧ Below w.heap.size w w' := by
  unfold stringslite_Clone.f at h
  by_cases hlim : a0.size ≤ 281474976710656
  · rw [if_pos hlim] at h
    obtain rfl := Option.some.inj h
    clear h
    by_cases h0 : a0.size = 0
    · have hs : a0 = ⟨#[]⟩ := by
        apply ByteArray.ext
        exact Array.eq_empty_of_size_eq_zero h0
      subst hs
      go_enter Try.func45, Try.ntmps45
      go_wp2
      go_ret
      exact ⟨rfl, Below.refl _ _⟩
    · obtain ⟨i0, hi, hz0, hz1, hz2⟩ := info_parts info5
      have hinfo : (Try.prog.info? 5).map (·.size) = some 1 := by rw [hi]; simp [hz1]
      have hco : Try.prog.cellsOf 5 = 1 := by simp [Program.cellsOf, hi, hz1]
      obtain ⟨M, hM⟩ : ∃ M, M = madeCells (Value.int .u8 0).cells (((a0.size : Nat) : Int).toNat * i0.size) := ⟨_, rfl⟩
      have hMs : M.size = a0.size := by rw [hM, size_madeCells, hz1]; simp
      have hmk : ∀ W : World, (Instr.makeSlice 30 (.int .i64 (a0.size : Int)) (.int .i64 (a0.size : Int))).run Try.prog W = .ok (.slice (some ⟨W.heap.size, 0, none⟩) a0.size a0.size) (W.alloc (.cells M 5)) := fun W => by
        have h := run_make (P := Try.prog) W 30 5 i0 (.int .u8 0) Try.underlying30 hi hz0 .i64 .i64 (a0.size : Int) (a0.size : Int) (by omega) (by omega) (by rw [hz2]; omega) (by omega)
        rw [← hM] at h
        simpa using h
      clear hM
      have hcp := Lib.run_copy_row_string (P := Try.prog) (w.alloc (.cells M 5)) 30 9 3 5 w.heap.size 0 a0.size a0.size a0 M 5 Try.underlying30 hinfo (heap_alloc_new w _) (Nat.le_refl _) (by omega)
      obtain ⟨Y, hY⟩ : ∃ Y, Y = (M.toList.take 0 ++ Lib.byteCells a0.data.toList ++ M.toList.drop (0 + a0.size)).toArray := ⟨_, rfl⟩
      rw [← hY] at hcp
      have hYl : Y.toList = Lib.byteCells a0.data.toList := by
        rw [hY, List.toList_toArray, List.take_zero, List.nil_append, List.drop_of_length_le (by rw [Array.length_toList]; omega), List.append_nil]
      have hYs : Y.size = a0.size := by rw [← Array.length_toList, hYl, Lib.byteCells_length, ← Lib.size_eq]
      have hgY : ((w.alloc (.cells M 5)).setRow w.heap.size Y).heap[w.heap.size]? = some (.cells Y 5 (0, 0)) := setRow_heap _ _ M _ 5 (0, 0) (heap_alloc_new w _)
      have hne : a0.data.toList ≠ [] := fun e => h0 (by rw [Lib.size_eq, e]; rfl)
      have hUS := Lib.run_unsafeString_row (P := Try.prog) ((w.alloc (.cells M 5)).setRow w.heap.size Y) 86 3 9 5 Try.underlying86 hco w.heap.size Y.size (by unfold World.shape?; rw [hgY]) a0.data.toList hne (by rw [← Lib.size_eq]; omega) (by rw [← Lib.size_eq]; omega)
        (fun j x hx => Lib.cells_of_row hgY Y.size j _ (by rw [List.take_of_length_le (by rw [Array.length_toList]; exact Nat.le_refl _), hYl]; simp [Lib.byteCells, hx]))
      rw [← Lib.size_eq] at hUS
      clear hY
      go_enter Try.func45, Try.ntmps45
      go_wp2
      go_ret
      have hb1 : Below w.heap.size w (w.alloc (.cells M 5)) := (Below.refl _ w).alloc (Nat.le_refl _) _
      have hb2 : Below w.heap.size (w.alloc (.cells M 5)) ((w.alloc (.cells M 5)).setRow w.heap.size Y) := ⟨rfl, rfl, rfl, by simp, fun k hk => setRow_other _ _ _ _ (by omega)⟩
      exact ⟨rfl, Lib.below_freeze (hb1.trans hb2) (p := ⟨w.heap.size, 0, none⟩) (Nat.le_refl _) _⟩
  · rw [if_neg hlim] at h
    exact absurd h (by simp)


end Go.Proofs.Ythbnblmnamckmaa.PAll
-- Laid by a program of this seat (wip/xprint.py over the kit's print).
namespace Go.Proofs.Ythbnblmnamckmaa.PAll
open Go.RowKit Go.Proofs.YthbnblmnamckmaaW.PrintWords Go.Proofs.YthbnblmnamckmaaW.PrintLast Go.Proofs.YthbnblmnamckmaaW.PrintMore
attribute [local go_sem] max2_int min2_int max_two min_two max_three min_three max_four min_four   -- for this text's walks alone
set_option linter.unusedVariables false
set_option linter.unusedSimpArgs false

/-! ### strings_Clone: function 38 -/
def strings_Clone.f (a0 : ByteArray) : Option (ByteArray) := (stringslite_Clone.f a0).bind fun t219 => (some t219)
set_option maxHeartbeats 8000000 in
set_option maxRecDepth 100000 in
theorem strings_Clone.calls (a0 : ByteArray) (r : ByteArray) (w : World) (h : strings_Clone.f a0 = some r) :
    Calls Try.prog 38 #[.string a0] w fun e w' => e = .returned (.string r) ∧ Below w.heap.size w w' := by
  have HB := Aside0.mk (Below.refl w.heap.size w)
  have H : ((stringslite_Clone.f a0).bind fun t219 => (some t219)) = some r := h
  clear h
  replace H := Option.bind_eq_some_iff.mp H
  obtain ⟨t219, A20, H⟩ := H
  replace H : (some t219) = some r := H
  have A2 := Aside0.mk A20
  clear A20
  obtain rfl := Option.some.inj H
  go_enter Try.func38, Try.ntmps38
  go_wp2_with (first | ((with_reducible refine gate_callee (f := 45) rfl ?_); refine goesL_ (some 4) rfl rfl Try.func45 (by kernel_rfl) rfl #[.string a0] rfl (by (try simp only [List.map_toArray, List.map_cons, List.map_nil]); first | done | rfl | (simp only [List.length_drop, List.length_take]; rfl) | (go_simp; done) | (go_simp; simp; done)) ?_; (with_reducible refine (stringslite_Clone.calls a0 t219 _ A2.out).mono ?_); rintro e w3 ⟨rfl, hb⟩; refine ⟨_, rfl, ?_⟩; have n0_ := Aside0.mk (below_step (by repeat (first | (with_reducible first | exact HB.out | apply below_alloc | apply pw_below_drewN | apply below_drew1) | exact HB.out)) hb); clear HB; have HB := n0_; clear n0_; (try clear hb); (try clear hb2); (try clear hk); (try clear hi)))
  go_ret
  exact ⟨by first | rfl | (simp [errW_none, errW_some] <;> rfl) | (simp [*, errW_none, errW_some] <;> rfl), by repeat (first | (with_reducible first | exact HB.out | apply below_alloc | apply pw_below_drewN | apply below_drew1) | exact HB.out)⟩

end Go.Proofs.Ythbnblmnamckmaa.PAll
