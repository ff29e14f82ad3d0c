-- Laid by a program of this seat (wip/merge.py): HRDel, HEqW, HEqP, HGet, PAllx16, PAllx18, HEqR, PAllx17, HPl, HVSame, HSame2.
import Derived.Test.YtnokieaebnmljaaMHeapPlays0
import Derived.Test.YtnokieaebnmljaaMHeapPlays1
import Derived.Test.YtnokieaebnmljaaMHeapPlays2
import Derived.IntWalk
-- Laid by a program of this seat (wip/xprint.py over the kit's print).
namespace Go.Proofs.Ytnokieaebnmljaa.PAll
open Go.RowKit Go.Proofs.YtnokieaebnmljaaW.PrintWords Go.Proofs.YtnokieaebnmljaaW.PrintLast Go.Proofs.YtnokieaebnmljaaW.PrintMore
attribute [local go_sem] max2_int min2_int max_two min_two max_three min_three max_four min_four   -- for this text's walks alone
set_option linter.unusedVariables false
set_option linter.unusedSimpArgs false

/-! ### windlassref4_Del: function 20 -/
def windlassref4_Del.f (k : Nat) (l0_0 : List (List (S82))) (a1 : Int) (a2_0 : Int) (a2_1 : Int) (a2_2 : ByteArray) (a2_3 : Int) (l2_4 : List (S35)) : Option ((List (List (S82)))):=(windlassref4_at.f k l0_0 a1 a2_0 a2_1 a2_2 a2_3 l2_4).bind fun bt310 => (if bt310.2 = true then (if 0 ≤ a1 then (if a1 < (l0_0.length : Int) then (if 0 ≤ bt310.1 then (if bt310.1 ≤ ((rd_L4 l0_0 a1).length : Int) then ((some ((rd_L4 l0_0 a1).take (bt310.1 : Int).toNat : List (S82))).bind fun y313 => (if ([] : List (S82)).length + y313.length < 1099511627776 then ((some (([] : List (S82)) ++ y313 : List (S82))).bind fun y318 => (if 0 ≤ (wrap64 (bt310.1 + 1)) then (if (wrap64 (bt310.1 + 1)) ≤ ((rd_L4 l0_0 a1).length : Int) then ((some ((rd_L4 l0_0 a1).drop ((wrap64 (bt310.1 + 1)) : Int).toNat : List (S82))).bind fun y322 => (if y318.length + y322.length < 1099511627776 then ((windlassref4_with.f l0_0 a1 (y318 ++ y322)).bind fun t330 => (some t330)) else (none))) else (none)) else (none))) else (none))) else (none)) else (none)) else (none)) else (none)) else (some l0_0))
def rdel.T5 : Bool × List (List Nat × List Nat):=(true,[([],[]),([],[]),([],[]),([],[]),([3],[3]),([],[]),([4,5],[4,5]),([6],[6]),([],[]),([8],[8]),([7,9],[7,9]),([2,10],[2,10]),([0,1,11,11],[0,1,11]),([12,12,0,1,2,3,4,5,6,7,8,9,10,11,12],[12])])
def rdel.B5 : List Nat:=[0,0,0,0,8,0,56,120,0,256,1016,2044,4095,8191]
theorem rdel.tab5 : rtab .any (opsOf Try.f20 5) = rdel.T5:=by kernel_rfl
theorem rdel.bits5 : waitsOk rdel.T5.2 rdel.B5 = true:=by kernel_rfl
set_option maxHeartbeats 8000000 in
set_option maxRecDepth 100000 in
theorem windlassref4_Del.calls (k : Nat) (P0_0_ : Nat → Prop) (A0_0 : Option Addr) (c0_0 : Nat) (l0_0 : List (List (S82))) (a1 : Int) (a2_0 : Int) (a2_1 : Int) (a2_2 : ByteArray) (a2_3 : Int) (A2_4 : Option Addr) (c2_4 : Nat) (l2_4 : List (S35)) (r : List (List (S82))) (w : World) (hs0_0 : Kd.V (Kd.slice 82 k82) 41 w w.heap.size (fun k_ => P0_0_ k_) (.slice A0_0 l0_0.length c0_0) l0_0) (hr2_4 : Kd.C k35 w A2_4 l2_4.length l2_4) (hc2_4 : l2_4.length ≤ c2_4) (h : windlassref4_Del.f k l0_0 a1 a2_0 a2_1 a2_2 a2_3 l2_4 = some r) :
  Calls Try.prog 20 #[.agg #[.slice A0_0 l0_0.length c0_0], .int .i64 a1, .agg #[.int .i64 a2_0, .int .i64 a2_1, .string a2_2, .int .i64 a2_3, .slice A2_4 l2_4.length c2_4]] w fun e w' => ∃ v0_ : Value,e = .returned (.agg #[v0_]) ∧ Kd.V (Kd.slice 82 k82) 41 w' w.heap.size (fun k_ => (P0_0_ k_ ∨ w.heap.size ≤ k_)) v0_ r ∧ Below w.heap.size w w':=by
 have hu27:=Try.underlying27
 have hu35:=Try.underlying35
 have HO0_0:=Aside0.mk (show Kd.V (Kd.slice 82 k82) 41 w w.heap.size (fun k_ => (P0_0_ k_ ∨ w.heap.size ≤ k_)) (.slice A0_0 l0_0.length c0_0) l0_0 from Kd.V_mono hs0_0 (fun k_ hk => .inl hk))
 have HR2_4:=Aside0.mk hr2_4
 have HC2_4:=Aside0.mk hc2_4
 clear hr2_4 hc2_4
 have HB:=Aside0.mk (Below.refl w.heap.size w)
 have H : ((windlassref4_at.f k l0_0 a1 a2_0 a2_1 a2_2 a2_3 l2_4).bind fun bt310 => (if bt310.2 = true then (if 0 ≤ a1 then (if a1 < (l0_0.length : Int) then (if 0 ≤ bt310.1 then (if bt310.1 ≤ ((rd_L4 l0_0 a1).length : Int) then ((some ((rd_L4 l0_0 a1).take (bt310.1 : Int).toNat : List (S82))).bind fun y313 => (if ([] : List (S82)).length + y313.length < 1099511627776 then ((some (([] : List (S82)) ++ y313 : List (S82))).bind fun y318 => (if 0 ≤ (wrap64 (bt310.1 + 1)) then (if (wrap64 (bt310.1 + 1)) ≤ ((rd_L4 l0_0 a1).length : Int) then ((some ((rd_L4 l0_0 a1).drop ((wrap64 (bt310.1 + 1)) : Int).toNat : List (S82))).bind fun y322 => (if y318.length + y322.length < 1099511627776 then ((windlassref4_with.f l0_0 a1 (y318 ++ y322)).bind fun t330 => (some t330)) else (none))) else (none)) else (none))) else (none))) else (none)) else (none)) else (none)) else (none)) else (some l0_0))) = some r:=h
 clear h
 replace H:=Option.bind_eq_some_iff.mp H
 obtain ⟨⟨t310,t311⟩,A40,H⟩:=H
 replace H : (if t311 = true then (if 0 ≤ a1 then (if a1 < (l0_0.length : Int) then (if 0 ≤ t310 then (if t310 ≤ ((rd_L4 l0_0 a1).length : Int) then ((some ((rd_L4 l0_0 a1).take (t310 : Int).toNat : List (S82))).bind fun y313 => (if ([] : List (S82)).length + y313.length < 1099511627776 then ((some (([] : List (S82)) ++ y313 : List (S82))).bind fun y318 => (if 0 ≤ (wrap64 (t310 + 1)) then (if (wrap64 (t310 + 1)) ≤ ((rd_L4 l0_0 a1).length : Int) then ((some ((rd_L4 l0_0 a1).drop ((wrap64 (t310 + 1)) : Int).toNat : List (S82))).bind fun y322 => (if y318.length + y322.length < 1099511627776 then ((windlassref4_with.f l0_0 a1 (y318 ++ y322)).bind fun t330 => (some t330)) else (none))) else (none)) else (none))) else (none))) else (none)) else (none)) else (none)) else (none)) else (some l0_0)) = some r:=H
 have A4:=Aside0.mk A40
 clear A40
 by_cases c5 : t311 = true
 ·subst c5
  have H1 : (if 0 ≤ a1 then (if a1 < (l0_0.length : Int) then (if 0 ≤ t310 then (if t310 ≤ ((rd_L4 l0_0 a1).length : Int) then ((some ((rd_L4 l0_0 a1).take (t310 : Int).toNat : List (S82))).bind fun y313 => (if ([] : List (S82)).length + y313.length < 1099511627776 then ((some (([] : List (S82)) ++ y313 : List (S82))).bind fun y318 => (if 0 ≤ (wrap64 (t310 + 1)) then (if (wrap64 (t310 + 1)) ≤ ((rd_L4 l0_0 a1).length : Int) then ((some ((rd_L4 l0_0 a1).drop ((wrap64 (t310 + 1)) : Int).toNat : List (S82))).bind fun y322 => (if y318.length + y322.length < 1099511627776 then ((windlassref4_with.f l0_0 a1 (y318 ++ y322)).bind fun t330 => (some t330)) else (none))) else (none)) else (none))) else (none))) else (none)) else (none)) else (none)) else (none)) = some r:=by rw [if_pos rfl] at H;exact H
  clear H
  have H:=H1
  clear H1
  by_cases c6 : 0 ≤ a1
  ·rw [if_pos c6] at H
   have c6b0 : decide (0 ≤ a1) = true:=decide_eq_true c6
   clear c6
   by_cases c7 : a1 < (l0_0.length : Int)
   ·rw [if_pos c7] at H
    have c7b0 : decide (a1 < (l0_0.length : Int)) = true:=decide_eq_true c7
    clear c7
    by_cases c8 : 0 ≤ t310
    ·rw [if_pos c8] at H
     have c8b0:=eq_true c8
     have c8b1 : decide (0 ≤ t310) = true:=decide_eq_true c8
     clear c8
     by_cases c9 : t310 ≤ ((rd_L4 l0_0 a1).length : Int)
     ·rw [if_pos c9] at H
      have c9b0:=eq_true c9
      have c9b1 : decide (t310 ≤ ((rd_L4 l0_0 a1).length : Int)) = true:=decide_eq_true c9
      clear c9
      obtain ⟨y313,hy313⟩ : ∃ y_ : List (S82),y_ = ((rd_L4 l0_0 a1).take (t310 : Int).toNat):=⟨_,rfl⟩
      replace H : (if ([] : List (S82)).length + y313.length < 1099511627776 then ((some (([] : List (S82)) ++ y313 : List (S82))).bind fun y318 => (if 0 ≤ (wrap64 (t310 + 1)) then (if (wrap64 (t310 + 1)) ≤ ((rd_L4 l0_0 a1).length : Int) then ((some ((rd_L4 l0_0 a1).drop ((wrap64 (t310 + 1)) : Int).toNat : List (S82))).bind fun y322 => (if y318.length + y322.length < 1099511627776 then ((windlassref4_with.f l0_0 a1 (y318 ++ y322)).bind fun t330 => (some t330)) else (none))) else (none)) else (none))) else (none)) = some r:=by first|(rw [hy313];with_reducible exact H)|(have H2_:=(Option.bind_some _ _).symm.trans H;rw [hy313];with_reducible exact H2_)|(have H2_:=(Option.bind_some _ _).symm.trans H;with_reducible exact H2_)|with_reducible exact H|(rw [hy313];exact H)|exact H
      have Ny313:=Aside0.mk hy313
      clear hy313
      by_cases c10 : ([] : List (S82)).length + y313.length < 1099511627776
      ·rw [if_pos c10] at H
       have LMc10:=Aside0.mk c10
       clear c10
       obtain ⟨y318,hy318⟩ : ∃ y_ : List (S82),y_ = (([] : List (S82)) ++ y313):=⟨_,rfl⟩
       replace H : (if 0 ≤ (wrap64 (t310 + 1)) then (if (wrap64 (t310 + 1)) ≤ ((rd_L4 l0_0 a1).length : Int) then ((some ((rd_L4 l0_0 a1).drop ((wrap64 (t310 + 1)) : Int).toNat : List (S82))).bind fun y322 => (if y318.length + y322.length < 1099511627776 then ((windlassref4_with.f l0_0 a1 (y318 ++ y322)).bind fun t330 => (some t330)) else (none))) else (none)) else (none)) = some r:=by first|(rw [hy318];with_reducible exact H)|(have H2_:=(Option.bind_some _ _).symm.trans H;rw [hy318];with_reducible exact H2_)|(have H2_:=(Option.bind_some _ _).symm.trans H;with_reducible exact H2_)|with_reducible exact H|(rw [hy318];exact H)|exact H
       have Ny318:=Aside0.mk hy318
       clear hy318
       obtain ⟨ji11,hji11⟩ : ∃ j_ : Int,(wrap64 (t310 + 1)) = j_:=⟨_,rfl⟩
       replace H : (if 0 ≤ (ji11) then (if (ji11) ≤ ((rd_L4 l0_0 a1).length : Int) then ((some ((rd_L4 l0_0 a1).drop ((ji11) : Int).toNat : List (S82))).bind fun y322 => (if y318.length + y322.length < 1099511627776 then ((windlassref4_with.f l0_0 a1 (y318 ++ y322)).bind fun t330 => (some t330)) else (none))) else (none)) else (none)) = some r:=by first|(rw [hji11] at H;exact H)|(simp only [hji11] at H ⊢;exact H)
       (try rw [hji11] at A4)
       have hji11w : (IntKind.i64.wrap (t310 + 1)) = ji11:=(i64_w _).trans hji11
       by_cases c12 : 0 ≤ (ji11)
       ·rw [if_pos c12] at H
        have c12b0:=eq_true c12
        have c12b1 : decide (0 ≤ (ji11)) = true:=decide_eq_true c12
        clear c12
        by_cases c13 : (ji11) ≤ ((rd_L4 l0_0 a1).length : Int)
        ·rw [if_pos c13] at H
         have c13b0:=eq_true c13
         have c13b1 : decide ((ji11) ≤ ((rd_L4 l0_0 a1).length : Int)) = true:=decide_eq_true c13
         clear c13
         obtain ⟨y322,hy322⟩ : ∃ y_ : List (S82),y_ = ((rd_L4 l0_0 a1).drop ((ji11) : Int).toNat):=⟨_,rfl⟩
         replace H : (if y318.length + y322.length < 1099511627776 then ((windlassref4_with.f l0_0 a1 (y318 ++ y322)).bind fun t330 => (some t330)) else (none)) = some r:=by first|(rw [hy322];with_reducible exact H)|(have H2_:=(Option.bind_some _ _).symm.trans H;rw [hy322];with_reducible exact H2_)|(have H2_:=(Option.bind_some _ _).symm.trans H;with_reducible exact H2_)|with_reducible exact H|(rw [hy322];exact H)|exact H
         have Ny322:=Aside0.mk hy322
         clear hy322
         by_cases c14 : y318.length + y322.length < 1099511627776
         ·rw [if_pos c14] at H
          have LMc14:=Aside0.mk c14
          clear c14
          obtain ⟨y327,hy327⟩ : ∃ y_ : List (S82),y_ = (y318 ++ y322):=⟨_,rfl⟩
          replace H : ((windlassref4_with.f l0_0 a1 y327).bind fun t330 => (some t330)) = some r:=by first|(rw [hy327];with_reducible exact H)|(have H2_:=(Option.bind_some _ _).symm.trans H;rw [hy327];with_reducible exact H2_)|(have H2_:=(Option.bind_some _ _).symm.trans H;with_reducible exact H2_)|with_reducible exact H|(rw [hy327];exact H)|exact H
          have Ny327:=Aside0.mk hy327
          clear hy327
          replace H:=Option.bind_eq_some_iff.mp H
          obtain ⟨t330,A150,H⟩:=H
          replace H : (some t330) = some r:=H
          have A15:=Aside0.mk A150
          clear A150
          obtain rfl:=Option.some.inj H
          go_enter Try.func20,Try.ntmps20
          go_wp2_with (first|((with_reducible refine gate_dst (N:=3) rfl ?_);refine box_event ?hg (N:=3) ?hd (cs:=#[.slice A0_0 l0_0.length c0_0]) (t:=27) ?hr ?_;(case hd => rfl);(case hg => rfl);(case hr => first|(go_simp;done)|(go_simp;rfl));intro gb307 hg w16 hbox hb;replace HO0_0:=Aside0.mk (Kd.V_below (Kd.V_elderB (vK HO0_0) gb307 (Nat.le_of_eq hg.symm)) hb);have BK307:=Aside0.mk (hbox);have GW307:=Aside0.mk ((by rw [hg];exact (below_size (bL0 HB)) : w.heap.size ≤ gb307));have GE307:=Aside0.mk ((by rw [hg];exact (below_size (bL0 HB)) : w.heap.size ≤ gb307));replace HB:=bS HB hb;clear hb hbox hg)|((with_reducible refine gate_dst (N:=5) rfl ?_);refine box_event ?hg (N:=5) ?hd (cs:=#[.int .i64 a2_0, .int .i64 a2_1, .string a2_2, .int .i64 a2_3, .slice A2_4 l2_4.length c2_4]) (t:=35) ?hr ?_;(case hd => rfl);(case hg => rfl);(case hr => first|(go_simp;done)|(go_simp;rfl));intro gb308 hg w17 hbox hb;replace HO0_0:=Aside0.mk (Kd.V_below (Kd.V_elderB (vK HO0_0) gb308 (Nat.le_of_eq hg.symm)) hb);have BK308:=Aside0.mk (hbox);have GW308:=Aside0.mk ((by rw [hg];exact (below_size (bL1 HB GE307)) : w.heap.size ≤ gb308));have GE308:=Aside0.mk ((by rw [hg];exact (below_size (bL1 HB GE307)) : w.heap.size ≤ gb308));replace HB:=Aside0.mk (below_step (bL1 HB GE307) hb);have NB307_308:=Aside0.mk ((by rw [hg];exact Nat.ne_of_lt (blk_lt (bK BK307)) : gb307 ≠ gb308));have NB308_307:=Aside0.mk ((by rw [hg];exact Nat.ne_of_gt (blk_lt (bK BK307)) : gb308 ≠ gb307));replace BK307:=bB BK307 hb;clear hb hbox hg)|((with_reducible refine gate_dst (N:=6) rfl ?_);refine box_event ?hg (N:=6) ?hd (cs:=#[.slice none 0 0]) (t:=27) ?hr ?_;(case hd => rfl);(case hg => rfl);(case hr => first|(go_simp;done)|(go_simp;rfl));intro gb309 hg w18 hbox hb;replace HO0_0:=Aside0.mk (Kd.V_below (Kd.V_elderB (vK HO0_0) gb309 (Nat.le_of_eq hg.symm)) hb);have BK309:=Aside0.mk (hbox);have GW309:=Aside0.mk ((by rw [hg];exact (below_size (bL2 HB GE307 GE308)) : w.heap.size ≤ gb309));have GE309:=Aside0.mk ((by rw [hg];exact (below_size (bL2 HB GE307 GE308)) : w.heap.size ≤ gb309));replace HB:=Aside0.mk (below_step (bL2 HB GE307 GE308) hb);have NB307_309:=Aside0.mk ((by rw [hg];exact Nat.ne_of_lt (blk_lt (bK BK307)) : gb307 ≠ gb309));have NB309_307:=Aside0.mk ((by rw [hg];exact Nat.ne_of_gt (blk_lt (bK BK307)) : gb309 ≠ gb307));replace BK307:=bB BK307 hb;have NB308_309:=Aside0.mk ((by rw [hg];exact Nat.ne_of_lt (blk_lt (bK BK308)) : gb308 ≠ gb309));have NB309_308:=Aside0.mk ((by rw [hg];exact Nat.ne_of_gt (blk_lt (bK BK308)) : gb309 ≠ gb308));replace BK308:=bB BK308 hb;clear hb hbox hg;have hnb19:=NB307_308.out;have hnc19:=NB308_307.out;have hnb20:=NB307_309.out;have hnc20:=NB309_307.out;have hcz21_0 : w18.cell? ⟨gb307,0,none⟩ = some (.slice A0_0 l0_0.length c0_0):=(blk_cell BK307.out 0).trans rfl;have hfz21_0:=blk_frozen BK307.out 0;have hnb22:=NB308_309.out;have hnc22:=NB309_308.out;have hcz23_0 : w18.cell? ⟨gb308,0,none⟩ = some (.int .i64 a2_0):=(blk_cell BK308.out 0).trans rfl;have hcz23_1 : w18.cell? ⟨gb308,1,none⟩ = some (.int .i64 a2_1):=(blk_cell BK308.out 1).trans rfl;have hcz23_2 : w18.cell? ⟨gb308,2,none⟩ = some (.string a2_2):=(blk_cell BK308.out 2).trans rfl;have hcz23_3 : w18.cell? ⟨gb308,3,none⟩ = some (.int .i64 a2_3):=(blk_cell BK308.out 3).trans rfl;have hcz23_4 : w18.cell? ⟨gb308,4,none⟩ = some (.slice A2_4 l2_4.length c2_4):=(blk_cell BK308.out 4).trans rfl;have hfz23_0:=blk_frozen BK308.out 0;have hfz23_1:=blk_frozen BK308.out 1;have hfz23_2:=blk_frozen BK308.out 2;have hfz23_3:=blk_frozen BK308.out 3;have hfz23_4:=blk_frozen BK308.out 4)|((with_reducible refine gate_callee (f:=43) rfl ?_);refine goesL_ (some 14) rfl rfl Try.func43 (by kernel_rfl) rfl #[.agg #[.slice A0_0 l0_0.length c0_0], .int .i64 a1, .agg #[.int .i64 a2_0, .int .i64 a2_1, .string a2_2, .int .i64 a2_3, .slice A2_4 l2_4.length c2_4]] rfl aG ?_;(with_reducible refine (windlassref4_at.calls k _ _ l0_0 a1 a2_0 a2_1 a2_2 a2_3 _ _ l2_4 t310 true _ ?side1 ?side2 ?side3 ?side4 A4.out).mono ?_);(case side1 => repeat (first|exact (Kd.V_reads' HO0_0.out).2.2|(with_reducible refine Kd.C_alloc ?_ _)|(with_reducible refine Kd.C_drewN ?_ _)|(with_reducible refine Kd.C_drew ?_)));(case side2 => exact (Kd.V_reads' HO0_0.out).2.1);(case side3 => repeat (first|exact (Kd.C_below HR2_4.out HB.out)|(with_reducible refine Kd.C_alloc ?_ _)|(with_reducible refine Kd.C_drewN ?_ _)|(with_reducible refine Kd.C_drew ?_)));(case side4 => exact HC2_4.out);rintro e w24 ⟨rfl,hb⟩;refine ⟨_,rfl,?_⟩;replace HO0_0:=Aside0.mk (Kd.V_below (vK HO0_0) hb);replace BK307:=bB BK307 hb;replace BK308:=bB BK308 hb;replace BK309:=bB BK309 hb;replace HB:=Aside0.mk (below_step (bL3 HB GE307 GE308 GE309) hb);(try clear hb);(try clear hb2);(try clear hk);(try clear hi);have hcz25_0 : w24.cell? ⟨gb307,0,none⟩ = some (.slice A0_0 l0_0.length c0_0):=(blk_cell BK307.out 0).trans rfl;have hfz25_0:=blk_frozen BK307.out 0;have p312 : 0 ≤ (a1 : Int):=of_decide_eq_true aX;have q312 : a1 < (l0_0.length : Int):=of_decide_eq_true aX;obtain ⟨ad312,A312_0,c312_0,e312,hx312_0,hl312_0,hi312_0⟩:=at_L4 (Kd.V_reads' HO0_0.out).2.2 a1 p312 q312;cases e312;obtain ⟨ce312,hce312,hMe312,hcc312⟩:=Kd.V_get HO0_0.out [] a1 p312 (by first|exact q312|exact of_decide_eq_true aX|(have e_:=(Kd.V_reads' HO0_0.out).1;omega));obtain ⟨ua312_0,uc312_0,rfl,ul312_0,ge312_0⟩:=Kd.FK_slice_open hMe312;have hv312_0:=hcc312 0 _ rfl;rw [Nat.add_zero,show ((Kd.slice 82 k82)).sz = 1 from rfl,Nat.mul_one] at hv312_0;replace hv312_0:=Option.some.inj (hv312_0.symm.trans hx312_0);injection hv312_0 with hva_ hvn_ hvc_;rw [hva_] at ge312_0;rw [hvc_] at ul312_0;have HL312_0:=Aside0.mk (show Kd.V k82 82 _ w.heap.size _ _ (rd_L4 l0_0 a1) from Kd.V_mk ul312_0 ge312_0);clear hva_ hvn_ hvc_ ge312_0 ul312_0;clear hcc312 hce312;have HR312_0:=Aside0.mk hi312_0;have HC312_0:=Aside0.mk hl312_0;clear hi312_0 hl312_0;replace p312:=eq_true p312;replace q312:=eq_true q312;have q26 : (t310 : Int) ≤ (((rd_L4 l0_0 a1).length : Int) : Int):=of_decide_eq_true aX;obtain ⟨i026,hi026,_,hsz26,_⟩:=info_parts info82;have hroom26 : (rd_L4 l0_0 a1).length ≤ c312_0:=HC312_0.out;have hC26 : Kd.F k82 _ _ A312_0 (rd_L4 l0_0 a1).length (rd_L4 l0_0 a1):=(Kd.V_at (base:=w.heap.size) HL312_0.out).2.2;have hcut26:=cut_to (P:=Try.prog) 41 82 .i64 Try.underlying41 hi026 A312_0 (rd_L4 l0_0 a1).length c312_0 t310 (of_decide_eq_true aX) q26 hroom26;have hr26:=Kd.F_take (m:=(t310 : Int).toNat) hC26 (by omega);have hy26 : y313.length = (t310 : Int).toNat:=(by rw [Ny313.out,List.length_take];omega);rw [← Ny313.out] at hr26;rw [← hy26] at hcut26;have HO317:=Aside0.mk (show Kd.V k82 82 _ w.heap.size _ (.slice A312_0 y313.length c312_0) y313 from Kd.V_mk (by omega) hr26);have HC317:=Aside0.mk (show y313.length ≤ c312_0 from by omega);clear hr26 hC26 hroom26 hi026 hsz26;have KY26:=Aside0.mk hy26;clear hy26;replace q26:=eq_true q26)|((with_reducible refine gate_builtin (b := .append) (xs:=#[(.const (.slice none 0 0)), .tmp 26]) rfl ?_);at_builtin;refine Kd.N_append_rows k82 (w0:=w) w.heap.size rfl (.const (.slice none 0 0)) (.tmp 26) 41 82 (.agg #[(.int .i64 0),(.int .i64 0),(.string ⟨#[]⟩),(.int .i64 0),(.slice none 0 0),(.int .i64 0),(.int .i64 0),(.string ⟨#[]⟩),(.int .i64 0),(.slice none 0 0)]) 128 rfl Try.underlying41 info82 rfl (by decide) (by omega) (.slice none 0 0) ([] : List (S82)) y313 _ _ _ (fun k_ => (P0_0_ k_ ∨ w.heap.size ≤ k_) ∧ k_ ≠ gb307 ∧ k_ ≠ gb308 ∧ k_ ≠ gb309) (fun k_ => ((fun k_ => (P0_0_ k_ ∨ w.heap.size ≤ k_) ∧ k_ ≠ gb307 ∧ k_ ≠ gb308 ∧ k_ ≠ gb309)) k_ ∧ some k_ ≠ (.slice none 0 0 : Value).ownBlock) rfl rfl ?aO ?aR (fun _ hk => hk) ?aF ?aB ?aS ?aL ?_;(case aR => exact (by skip;exact Kd.V_F (Kd.V_mono (ok':=(fun k_ => ((fun k_ => (P0_0_ k_ ∨ w.heap.size ≤ k_) ∧ k_ ≠ gb307 ∧ k_ ≠ gb308 ∧ k_ ≠ gb309)) k_ ∧ some k_ ≠ (.slice none 0 0 : Value).ownBlock)) (HO317.out) (fun k_ hk => ⟨⟨hk.1.1.1,⟨hk.1.1.2,⟨hk.1.2,hk.2⟩⟩⟩,(by simp [Value.ownBlock])⟩))));(case aB => exact (bL3 HB GE307 GE308 GE309));(case aF => exact (fun k_ hk => ⟨(.inr (Nat.le_trans (below_size (bL3 HB GE307 GE308 GE309)) hk)),Kd.freshB (bK BK307) k_ hk,Kd.freshB (bK BK308) k_ hk,Kd.freshB (bK BK309) k_ hk⟩));(case aO => exact ((Kd.N_nil _ _ _ _ (fun k_ => (P0_0_ k_ ∨ w.heap.size ≤ k_) ∧ k_ ≠ gb307 ∧ k_ ≠ gb308 ∧ k_ ≠ gb309))));(case aS => exact (below_size (bL3 HB GE307 GE308 GE309)));(case aL => have:=LMc10.out;omega);intro v319 w27 ho hb hg hat;rw [← Ny318.out] at ho;replace HO0_0:=Aside0.mk (Kd.V_afterv (Kd.V_apart_nil (vK HO0_0)) hg hat);replace BK307:=Aside0.mk (blk_grown (bK BK307) hg (by simp [Value.ownBlock]));replace BK308:=Aside0.mk (blk_grown (bK BK308) hg (by simp [Value.ownBlock]));replace BK309:=Aside0.mk (blk_grown (bK BK309) hg (by simp [Value.ownBlock]));replace HL312_0:=Aside0.mk (Kd.V_afterv (Kd.V_apart_nil (vK HL312_0)) hg hat);replace HO317:=Aside0.mk (Kd.V_afterv (Kd.V_apart_nil (vK HO317)) hg hat);replace HB:=Aside0.mk (hb);have HO320:=Aside0.mk (ho);clear ho hb hg hat;have hcz28_0 : w27.cell? ⟨gb307,0,none⟩ = some (.slice (some ad312) l0_0.length c0_0):=(blk_cell BK307.out 0).trans rfl;have hfz28_0:=blk_frozen BK307.out 0;have p321 : 0 ≤ (a1 : Int):=of_decide_eq_true aX;have q321 : a1 < (l0_0.length : Int):=of_decide_eq_true aX;obtain ⟨ad321,A321_0,c321_0,e321,hx321_0,hl321_0,hi321_0⟩:=at_L4 (Kd.V_reads' HO0_0.out).2.2 a1 p321 q321;obtain rfl : ad312 = ad321:=(by injection e321);obtain ⟨ce321,hce321,hMe321,hcc321⟩:=Kd.V_get HO0_0.out [] a1 p321 (by first|exact q321|exact of_decide_eq_true aX|(have e_:=(Kd.V_reads' HO0_0.out).1;omega));obtain ⟨ua321_0,uc321_0,rfl,ul321_0,ge321_0⟩:=Kd.FK_slice_open hMe321;have hv321_0:=hcc321 0 _ rfl;rw [Nat.add_zero,show ((Kd.slice 82 k82)).sz = 1 from rfl,Nat.mul_one] at hv321_0;replace hv321_0:=Option.some.inj (hv321_0.symm.trans hx321_0);injection hv321_0 with hva_ hvn_ hvc_;rw [hva_] at ge321_0;rw [hvc_] at ul321_0;have HL321_0:=Aside0.mk (show Kd.V k82 82 _ w.heap.size _ _ (rd_L4 l0_0 a1) from Kd.V_mk ul321_0 ge321_0);clear hva_ hvn_ hvc_ ge321_0 ul321_0;clear hcc321 hce321;have HR321_0:=Aside0.mk hi321_0;have HC321_0:=Aside0.mk hl321_0;clear hi321_0 hl321_0;replace p321:=eq_true p321;replace q321:=eq_true q321;have q29 : ((ji11) : Int) ≤ (((rd_L4 l0_0 a1).length : Int) : Int):=of_decide_eq_true aX;obtain ⟨i029,hi029,_,hsz29,_⟩:=info_parts info82;have hroom29 : (rd_L4 l0_0 a1).length ≤ c321_0:=HC321_0.out;have hC29 : Kd.F k82 _ _ A321_0 (rd_L4 l0_0 a1).length (rd_L4 l0_0 a1):=(Kd.V_at (base:=w.heap.size) HL321_0.out).2.2;have q029 : (0 : Int) ≤ ((ji11) : Int):=of_decide_eq_true aX;have hcut29:=cut_from (P:=Try.prog) 41 82 .i64 Try.underlying41 hi029 10 hsz29 A321_0 (rd_L4 l0_0 a1).length c321_0 (ji11) q029 q29;have hr29:=Kd.F_cut (m:=((ji11) : Int).toNat) (c:=c321_0) hC29 (by omega) hroom29;obtain ⟨A29,hA29⟩ : ∃ A1,A1 = (if c321_0 = ((ji11) : Int).toNat then A321_0 else (A321_0 : Option Addr).map (·.add (((ji11) : Int).toNat * 10))):=⟨_,rfl⟩;obtain ⟨c29,hc29⟩ : ∃ c1,c1 = c321_0 - ((ji11) : Int).toNat:=⟨_,rfl⟩;have hy29 : y322.length = (rd_L4 l0_0 a1).length - ((ji11) : Int).toNat:=(by rw [Ny322.out,List.length_drop] <;> omega);rw [show (rd_L4 l0_0 a1).drop ((ji11) : Int).toNat = y322 from Ny322.out.symm] at hr29;replace hr29 : Kd.F k82 _ _ A29 y322.length y322:=(by rw [hA29];exact hr29);rw [← hy29,← hA29,← hc29] at hcut29;have HO326:=Aside0.mk (show Kd.V k82 82 _ w.heap.size _ (.slice A29 y322.length c29) y322 from Kd.V_mk (by rw [hy29,hc29];exact Nat.sub_le_sub_right hroom29 _) hr29);have HC326:=Aside0.mk (show y322.length ≤ c29 from by rw [hy29,hc29];exact Nat.sub_le_sub_right hroom29 _);clear hr29 hC29 hroom29 hi029 hsz29 hc29;have KY29:=Aside0.mk hy29;have KA29:=Aside0.mk hA29;clear hy29 hA29;replace q29:=eq_true q29))
          obtain ⟨ad9,A9,c9,e9,hx9,hl9,hi9⟩:=at_L4 (Kd.V_reads' hs0_0).2.2 a1 (of_eq_true p321) (of_eq_true q321)
          obtain rfl : ad312 = ad9:=by injection e9
          have ea_:=Option.some.inj ((cB HB hx9).symm.trans hx321_0)
          injection ea_ with ea_ en_ ec_
          rw [ea_,ec_] at hx9
          have HX9:=Aside0.mk hx9
          clear hx9 hl9 hi9 ea_ en_ ec_
          refine start_ (n:=14) (S:=fun w' => w'.cell? ⟨gb307,0,none⟩ = some (.slice (some ad312) l0_0.length c0_0) ∧ w'.cell? (ad312.add a1.toNat) = some (.slice A321_0 (rd_L4 l0_0 a1).length c321_0)) (ds:=[]) #[fF,fF,fF,fF,fF,fF,fF,fF,fF,fF,fF,fF,fF,fF] (by kernel_rfl) rfl rfl ⟨(blk_cell (blk_drew BK307.out) 0).trans rfl,((below_drew1 HB.out).cell (World.block_lt_of_cell? w _ HX9.out)).trans HX9.out⟩ (fun hHeld => ?_)
          refine with_tabW rdel.tab5 rdel.bits5 (fun HT_ HW_ => ?_)
          have n_:=Aside0.mk (Kd.V_drew HO0_0.out)
          clear HO0_0
          have HO0_0:=n_
          clear n_
          have n_:=Aside0.mk (Kd.V_drew HL312_0.out)
          clear HL312_0
          have HL312_0:=n_
          clear n_
          have n_:=Aside0.mk (Kd.V_drew HO317.out)
          clear HO317
          have HO317:=n_
          clear n_
          have n_:=Aside0.mk (Kd.V_drew HL321_0.out)
          clear HL321_0
          have HL321_0:=n_
          clear n_
          have n_:=Aside0.mk (Kd.V_drew HO326.out)
          clear HO326
          have HO326:=n_
          clear n_
          have n_:=Aside0.mk (Kd.N_drew HO320.out)
          clear HO320
          have HO320:=n_
          clear n_
          have n_:=Aside0.mk (blk_drew BK307.out)
          clear BK307
          have BK307:=n_
          clear n_
          have n_:=Aside0.mk (blk_drew BK308.out)
          clear BK308
          have BK308:=n_
          clear n_
          have n_:=Aside0.mk (blk_drew BK309.out)
          clear BK309
          have BK309:=n_
          clear n_
          have n_:=Aside0.mk (below_drew1 HB.out)
          clear HB
          have HB:=n_
          clear n_
          clear hcz28_0 hfz28_0
          try clear HR321_0
          generalize w27.drew = w27b at HO0_0 HL312_0 HO317 HL321_0 HO326 HO320 BK307 BK308 BK309 HB hHeld ⊢
          refine pU 1 (some 29) HT_ rfl ?_
          refine pU 2 (some 30) HT_ rfl ?_
          refine pU 3 (some 31) HT_ rfl ?_
          refine pU 5 (some 33) HT_ rfl ?_
          refine pU 8 (some 36) HT_ rfl ?_
          refine pU 9 (some 37) HT_ rfl ?_
          refine tA 0 (some 28) HT_ HW_ hHeld rfl ?_
          refine tA 4 (some 32) HT_ HW_ hHeld rfl ?_
          refine pU 6 (some 34) HT_ rfl ?_
          refine tA 7 (some 35) HT_ HW_ hHeld rfl ?_
          refine pU 10 (some 38) HT_ rfl ?_
          refine oN 11 (some 39) HT_ rfl (fun K hK => ?_)
          refine Kd.N_append_rows_step k82 (w0:=w) w.heap.size rfl (.tmp 30) (.tmp 38) 41 82 (.agg #[(.int .i64 0),(.int .i64 0),(.string ⟨#[]⟩),(.int .i64 0),(.slice none 0 0),(.int .i64 0),(.int .i64 0),(.string ⟨#[]⟩),(.int .i64 0),(.slice none 0 0)]) 128 rfl Try.underlying41 info82 rfl (by decide) (by omega) v319 y318 y322 _ _ _ (fun k_ => (P0_0_ k_ ∨ w.heap.size ≤ k_) ∧ k_ ≠ gb307 ∧ k_ ≠ gb308 ∧ k_ ≠ gb309) (fun k_ => ((fun k_ => (P0_0_ k_ ∨ w.heap.size ≤ k_) ∧ k_ ≠ gb307 ∧ k_ ≠ gb308 ∧ k_ ≠ gb309)) k_ ∧ some k_ ≠ (v319 : Value).ownBlock) rfl rfl ?aO ?aR (fun _ hk => hk) ?aF ?aB ?aS ?aL ?_
          (case aR => exact (by skip;exact Kd.V_F (Kd.V_mono (ok':=(fun k_ => ((fun k_ => (P0_0_ k_ ∨ w.heap.size ≤ k_) ∧ k_ ≠ gb307 ∧ k_ ≠ gb308 ∧ k_ ≠ gb309)) k_ ∧ some k_ ≠ (v319 : Value).ownBlock)) (HO326.out) (fun k_ hk => ⟨⟨hk.1.1.1.1,⟨hk.1.1.1.2,⟨hk.1.1.2,hk.1.2⟩⟩⟩,hk.2⟩))))
          (case aB => exact (bL3 HB GE307 GE308 GE309))
          (case aF => exact (fun k_ hk => ⟨(.inr (Nat.le_trans (below_size (bL3 HB GE307 GE308 GE309)) hk)),Kd.freshB (bK BK307) k_ hk,Kd.freshB (bK BK308) k_ hk,Kd.freshB (bK BK309) k_ hk⟩))
          (case aO => exact (nK HO320))
          (case aS => exact (below_size (bL3 HB GE307 GE308 GE309)))
          (case aL => have:=LMc14.out;omega)
          intro v328 w30 ho hb hg hat
          rw [← Ny327.out] at ho
          have n0_:=Aside0.mk (Kd.V_afterv (ok:=(fun k_ => (P0_0_ k_ ∨ w.heap.size ≤ k_) ∧ k_ ≠ gb307 ∧ k_ ≠ gb308 ∧ k_ ≠ gb309)) (by (with_reducible repeat (first|apply Kd.V_alloc|apply Kd.V_drewN|apply Kd.V_drew));exact Kd.V_mono HO0_0.out (fun _ hk => ⟨⟨hk.1.1.1.1,⟨hk.1.1.1.2,⟨hk.1.1.2,hk.1.2⟩⟩⟩,hk.2⟩)) hg hat)
          have n1_:=Aside0.mk (blk_grown (bK BK307) hg (Kd.N_ne HO320.out BK307.out (by decide)))
          have n2_:=Aside0.mk (blk_grown (bK BK308) hg (Kd.N_ne HO320.out BK308.out (by decide)))
          have n3_:=Aside0.mk (blk_grown (bK BK309) hg (Kd.N_ne HO320.out BK309.out (by decide)))
          have n4_:=Aside0.mk (Kd.V_afterv (ok:=(fun k_ => (P0_0_ k_ ∨ w.heap.size ≤ k_) ∧ k_ ≠ gb307 ∧ k_ ≠ gb308 ∧ k_ ≠ gb309)) (by (with_reducible repeat (first|apply Kd.V_alloc|apply Kd.V_drewN|apply Kd.V_drew));exact Kd.V_mono HL312_0.out (fun _ hk => ⟨⟨hk.1.1.1.1,⟨hk.1.1.1.2,⟨hk.1.1.2,hk.1.2⟩⟩⟩,hk.2⟩)) hg hat)
          have n5_:=Aside0.mk (Kd.V_afterv (ok:=(fun k_ => (P0_0_ k_ ∨ w.heap.size ≤ k_) ∧ k_ ≠ gb307 ∧ k_ ≠ gb308 ∧ k_ ≠ gb309)) (by (with_reducible repeat (first|apply Kd.V_alloc|apply Kd.V_drewN|apply Kd.V_drew));exact Kd.V_mono HO317.out (fun _ hk => ⟨⟨hk.1.1.1.1,⟨hk.1.1.1.2,⟨hk.1.1.2,hk.1.2⟩⟩⟩,hk.2⟩)) hg hat)
          have n6_:=Aside0.mk (Kd.V_afterv (ok:=(fun k_ => (P0_0_ k_ ∨ w.heap.size ≤ k_) ∧ k_ ≠ gb307 ∧ k_ ≠ gb308 ∧ k_ ≠ gb309)) (by (with_reducible repeat (first|apply Kd.V_alloc|apply Kd.V_drewN|apply Kd.V_drew));exact Kd.V_mono HL321_0.out (fun _ hk => ⟨⟨hk.1.1.1.1,⟨hk.1.1.1.2,⟨hk.1.1.2,hk.1.2⟩⟩⟩,hk.2⟩)) hg hat)
          have n7_:=Aside0.mk (Kd.V_afterv (ok:=(fun k_ => (P0_0_ k_ ∨ w.heap.size ≤ k_) ∧ k_ ≠ gb307 ∧ k_ ≠ gb308 ∧ k_ ≠ gb309)) (by (with_reducible repeat (first|apply Kd.V_alloc|apply Kd.V_drewN|apply Kd.V_drew));exact Kd.V_mono HO326.out (fun _ hk => ⟨⟨hk.1.1.1.1,⟨hk.1.1.1.2,⟨hk.1.1.2,hk.1.2⟩⟩⟩,hk.2⟩)) hg hat)
          have n8_:=Aside0.mk (hb)
          have n9_:=Aside0.mk (ho)
          clear HO0_0
          clear BK307
          clear BK308
          clear BK309
          clear HL312_0
          clear HO317
          clear HL321_0
          clear HO326
          clear HB
          clear HO320
          have HO0_0:=n0_
          have BK307:=n1_
          have BK308:=n2_
          have BK309:=n3_
          have HL312_0:=n4_
          have HO317:=n5_
          have HL321_0:=n6_
          have HO326:=n7_
          have HB:=n8_
          have HO329:=n9_
          clear n0_ n1_ n2_ n3_ n4_ n5_ n6_ n7_ n8_ n9_
          clear ho hb hg hat
          obtain ⟨Ao31,co31,eo31⟩:=Kd.N_slice HO329.out
          subst eo31
          refine hK.out _ _ ⟨(blk_cell BK307.out 0).trans rfl,(HB.out.cell (World.block_lt_of_cell? w _ HX9.out)).trans HX9.out⟩ (fun hHeld => ?_)
          clear hK K
          refine nO ?_
          refine oN 12 (some 40) HT_ rfl (fun K hK => ?_)
          refine goes_ Try.func44 (by kernel_rfl) rfl #[.agg #[.slice (some ad312) l0_0.length c0_0], .int .i64 a1, .slice Ao31 y327.length co31] (by rfl) rfl rfl aG ?_
          (with_reducible refine (windlassref4_with.calls (fun k_ => (((P0_0_ k_ ∨ w.heap.size ≤ k_) ∧ (k_ ≠ gb307 ∧ (k_ ≠ gb308 ∧ k_ ≠ gb309))) ∧ some k_ ≠ (.slice Ao31 y327.length co31 : Value).ownBlock)) _ _ l0_0 a1 (fun k_ => ((P0_0_ k_ ∨ w.heap.size ≤ k_) ∧ (k_ ≠ gb307 ∧ (k_ ≠ gb308 ∧ k_ ≠ gb309)))) _ _ y327 t330 _ ?side1 ?side2 A15.out).mono ?_)
          (case side1 => exact HO0_0.out)
          (case side2 => exact Kd.N_V (HO329.out))
          rintro e w32 ⟨v331,rfl,ho0,hb⟩
          refine ⟨_,rfl,?_⟩
          replace HO0_0:=Aside0.mk (Kd.V_elder' (vK HO0_0) (Kd.N_base ho0) hb)
          replace HL312_0:=Aside0.mk (Kd.V_elder' (vK HL312_0) (Kd.N_base ho0) hb)
          replace HO317:=Aside0.mk (Kd.V_elder' (vK HO317) (Kd.N_base ho0) hb)
          replace HL321_0:=Aside0.mk (Kd.V_elder' (vK HL321_0) (Kd.N_base ho0) hb)
          replace HO326:=Aside0.mk (Kd.V_elder' (vK HO326) (Kd.N_base ho0) hb)
          replace HO329:=Aside0.mk (Kd.N_elder' (nK HO329) (Kd.N_base ho0) hb)
          have HO332:=Aside0.mk (Kd.N_lower (Kd.N_mono (ok':=fun k_ => (P0_0_ k_ ∨ w.heap.size ≤ k_) ∧ k_ ≠ gb307 ∧ k_ ≠ gb308 ∧ k_ ≠ gb309) ho0 (fun k_ hk_ => ⟨Or.elim hk_ (fun hs_ => Or.elim hs_ (fun hs_ => hs_.1.1) (fun hs_ => hs_.1)) (fun hn_ => (.inr (Nat.le_trans (below_size (bL3 HB GE307 GE308 GE309)) hn_))),Or.elim hk_ (fun hs_ => Or.elim hs_ (fun hs_ => hs_.1.2.1) (fun hs_ => hs_.2.1)) (fun hn_ => (Kd.freshB (bK BK307) k_ hn_)),Or.elim hk_ (fun hs_ => Or.elim hs_ (fun hs_ => hs_.1.2.2.1) (fun hs_ => hs_.2.2.1)) (fun hn_ => (Kd.freshB (bK BK308) k_ hn_)),Or.elim hk_ (fun hs_ => Or.elim hs_ (fun hs_ => hs_.1.2.2.2) (fun hs_ => hs_.2.2.2)) (fun hn_ => (Kd.freshB (bK BK309) k_ hn_))⟩)) (below_size (bL3 HB GE307 GE308 GE309)))
          replace BK307:=bB BK307 hb
          replace BK308:=bB BK308 hb
          replace BK309:=bB BK309 hb
          replace HB:=Aside0.mk (below_step (bL3 HB GE307 GE308 GE309) hb)
          (try clear hb)
          (try clear hb2)
          (try clear hk)
          (try clear hi)
          (try clear ho0)
          obtain ⟨Ao33,co33,eo33⟩:=Kd.N_slice HO332.out
          subst eo33
          have hcz34_0 : w32.cell? ⟨gb309,0,none⟩ = some (.slice none 0 0):=(blk_cell BK309.out 0).trans rfl
          have hfz34_0:=blk_frozen BK309.out 0
          refine hK.out _ _ ⟨(blk_cell BK307.out 0).trans rfl,(HB.out.cell (World.block_lt_of_cell? w _ HX9.out)).trans HX9.out⟩ (fun hHeld => ?_)
          clear hK K
          refine nO ?_
          refine oN 13 (none) HT_ rfl (fun K hK => ?_)
          rw [if_pos (by rfl)]
          unfold Oper.wp
          go_simp
          refine hK.out _ _ ⟨(blk_cell (blk_far BK307.out (NB307_309.out) _) 0).trans rfl,((below_set HB.out GE309.out).cell (World.block_lt_of_cell? w _ HX9.out)).trans HX9.out⟩ (fun hHeld => ?_)
          clear hK K
          refine done_ (done_of HT_.out (by kernel_rfl)) ?_
          
          go_wp2
          refine bodyPost_ret (results_cell_row rfl _ _ gb309 27 #[.slice Ao33 t330.length co33] (0,0) _ rfl (by (with_reducible repeat (first|refine blk_drewN ?_ _|refine blk_drew ?_|refine blk_alloc ?_ _));refine blk_put (cs:=#[.slice none 0 0]) ?_ 0 _ rfl;(with_reducible repeat (first|refine blk_drewN ?_ _|refine blk_drew ?_|refine blk_alloc ?_ _));exact BK309.out) Try.underlying27 rfl (by kernel_rfl)) rfl ?_
          exact ⟨_,by first|rfl|(simp [errW_none,errW_some] <;> rfl)|(simp only [← hji11];first|rfl|(simp [errW_none,errW_some] <;> rfl))|(simp [*,errW_none,errW_some] <;> rfl),Kd.N_V (by (with_reducible repeat (first|apply Kd.N_alloc|apply Kd.N_drewN|apply Kd.N_drew));exact Kd.N_mono (Kd.N_far (p:=⟨gb309,0,none⟩) (Kd.N_mono HO332.out (fun k_ hk => (⟨hk,hk.2.2.2⟩ : _ ∧ k_ ≠ gb309))) (fun _ hk => hk.2) (.slice Ao33 t330.length co33)) (fun _ hk => hk.1.1)),by repeat (first|(with_reducible first|exact HB.out|apply below_alloc|apply pw_below_drewN|apply below_drew1|refine below_set ?_ GE307.out|refine below_set ?_ GE308.out|refine below_set ?_ GE309.out)|exact HB.out)⟩
         rw [if_neg c14] at H
         exact absurd H (by simp)
        rw [if_neg c13] at H
        exact absurd H (by simp)
       rw [if_neg c12] at H
       exact absurd H (by simp)
      rw [if_neg c10] at H
      exact absurd H (by simp)
     rw [if_neg c9] at H
     exact absurd H (by simp)
    rw [if_neg c8] at H
    exact absurd H (by simp)
   rw [if_neg c7] at H
   exact absurd H (by simp)
  rw [if_neg c6] at H
  exact absurd H (by simp)
 replace c5:=Bool.eq_false_iff.mpr c5
 subst c5
 have H1 : (some l0_0) = some r:=by rw [if_neg (show ¬ (false = true) by decide)] at H;exact H
 clear H
 have H:=H1
 clear H1
 obtain rfl:=Option.some.inj H
 go_enter Try.func20,Try.ntmps20
 go_wp2_with (first|((with_reducible refine gate_dst (N:=3) rfl ?_);refine box_event ?hg (N:=3) ?hd (cs:=#[.slice A0_0 l0_0.length c0_0]) (t:=27) ?hr ?_;(case hd => rfl);(case hg => rfl);(case hr => first|(go_simp;done)|(go_simp;rfl));intro gb307 hg w35 hbox hb;replace HO0_0:=Aside0.mk (Kd.V_below (Kd.V_elderB (vK HO0_0) gb307 (Nat.le_of_eq hg.symm)) hb);have BK307:=Aside0.mk (hbox);have GW307:=Aside0.mk ((by rw [hg];exact (below_size (bL0 HB)) : w.heap.size ≤ gb307));have GE307:=Aside0.mk ((by rw [hg];exact (below_size (bL0 HB)) : w.heap.size ≤ gb307));replace HB:=bS HB hb;clear hb hbox hg)|((with_reducible refine gate_dst (N:=5) rfl ?_);refine box_event ?hg (N:=5) ?hd (cs:=#[.int .i64 a2_0, .int .i64 a2_1, .string a2_2, .int .i64 a2_3, .slice A2_4 l2_4.length c2_4]) (t:=35) ?hr ?_;(case hd => rfl);(case hg => rfl);(case hr => first|(go_simp;done)|(go_simp;rfl));intro gb308 hg w36 hbox hb;replace HO0_0:=Aside0.mk (Kd.V_below (Kd.V_elderB (vK HO0_0) gb308 (Nat.le_of_eq hg.symm)) hb);have BK308:=Aside0.mk (hbox);have GW308:=Aside0.mk ((by rw [hg];exact (below_size (bL1 HB GE307)) : w.heap.size ≤ gb308));have GE308:=Aside0.mk ((by rw [hg];exact (below_size (bL1 HB GE307)) : w.heap.size ≤ gb308));replace HB:=Aside0.mk (below_step (bL1 HB GE307) hb);have NB307_308:=Aside0.mk ((by rw [hg];exact Nat.ne_of_lt (blk_lt (bK BK307)) : gb307 ≠ gb308));have NB308_307:=Aside0.mk ((by rw [hg];exact Nat.ne_of_gt (blk_lt (bK BK307)) : gb308 ≠ gb307));replace BK307:=bB BK307 hb;clear hb hbox hg)|((with_reducible refine gate_dst (N:=6) rfl ?_);refine box_event ?hg (N:=6) ?hd (cs:=#[.slice none 0 0]) (t:=27) ?hr ?_;(case hd => rfl);(case hg => rfl);(case hr => first|(go_simp;done)|(go_simp;rfl));intro gb309 hg w37 hbox hb;replace HO0_0:=Aside0.mk (Kd.V_below (Kd.V_elderB (vK HO0_0) gb309 (Nat.le_of_eq hg.symm)) hb);have BK309:=Aside0.mk (hbox);have GW309:=Aside0.mk ((by rw [hg];exact (below_size (bL2 HB GE307 GE308)) : w.heap.size ≤ gb309));have GE309:=Aside0.mk ((by rw [hg];exact (below_size (bL2 HB GE307 GE308)) : w.heap.size ≤ gb309));replace HB:=Aside0.mk (below_step (bL2 HB GE307 GE308) hb);have NB307_309:=Aside0.mk ((by rw [hg];exact Nat.ne_of_lt (blk_lt (bK BK307)) : gb307 ≠ gb309));have NB309_307:=Aside0.mk ((by rw [hg];exact Nat.ne_of_gt (blk_lt (bK BK307)) : gb309 ≠ gb307));replace BK307:=bB BK307 hb;have NB308_309:=Aside0.mk ((by rw [hg];exact Nat.ne_of_lt (blk_lt (bK BK308)) : gb308 ≠ gb309));have NB309_308:=Aside0.mk ((by rw [hg];exact Nat.ne_of_gt (blk_lt (bK BK308)) : gb309 ≠ gb308));replace BK308:=bB BK308 hb;clear hb hbox hg;have hnb38:=NB307_308.out;have hnc38:=NB308_307.out;have hnb39:=NB307_309.out;have hnc39:=NB309_307.out;have hcz40_0 : w37.cell? ⟨gb307,0,none⟩ = some (.slice A0_0 l0_0.length c0_0):=(blk_cell BK307.out 0).trans rfl;have hfz40_0:=blk_frozen BK307.out 0;have hnb41:=NB308_309.out;have hnc41:=NB309_308.out;have hcz42_0 : w37.cell? ⟨gb308,0,none⟩ = some (.int .i64 a2_0):=(blk_cell BK308.out 0).trans rfl;have hcz42_1 : w37.cell? ⟨gb308,1,none⟩ = some (.int .i64 a2_1):=(blk_cell BK308.out 1).trans rfl;have hcz42_2 : w37.cell? ⟨gb308,2,none⟩ = some (.string a2_2):=(blk_cell BK308.out 2).trans rfl;have hcz42_3 : w37.cell? ⟨gb308,3,none⟩ = some (.int .i64 a2_3):=(blk_cell BK308.out 3).trans rfl;have hcz42_4 : w37.cell? ⟨gb308,4,none⟩ = some (.slice A2_4 l2_4.length c2_4):=(blk_cell BK308.out 4).trans rfl;have hfz42_0:=blk_frozen BK308.out 0;have hfz42_1:=blk_frozen BK308.out 1;have hfz42_2:=blk_frozen BK308.out 2;have hfz42_3:=blk_frozen BK308.out 3;have hfz42_4:=blk_frozen BK308.out 4)|((with_reducible refine gate_callee (f:=43) rfl ?_);refine goesL_ (some 14) rfl rfl Try.func43 (by kernel_rfl) rfl #[.agg #[.slice A0_0 l0_0.length c0_0], .int .i64 a1, .agg #[.int .i64 a2_0, .int .i64 a2_1, .string a2_2, .int .i64 a2_3, .slice A2_4 l2_4.length c2_4]] rfl aG ?_;(with_reducible refine (windlassref4_at.calls k _ _ l0_0 a1 a2_0 a2_1 a2_2 a2_3 _ _ l2_4 t310 false _ ?side1 ?side2 ?side3 ?side4 A4.out).mono ?_);(case side1 => repeat (first|exact (Kd.V_reads' HO0_0.out).2.2|(with_reducible refine Kd.C_alloc ?_ _)|(with_reducible refine Kd.C_drewN ?_ _)|(with_reducible refine Kd.C_drew ?_)));(case side2 => exact (Kd.V_reads' HO0_0.out).2.1);(case side3 => repeat (first|exact (Kd.C_below HR2_4.out HB.out)|(with_reducible refine Kd.C_alloc ?_ _)|(with_reducible refine Kd.C_drewN ?_ _)|(with_reducible refine Kd.C_drew ?_)));(case side4 => exact HC2_4.out);rintro e w43 ⟨rfl,hb⟩;refine ⟨_,rfl,?_⟩;replace HO0_0:=Aside0.mk (Kd.V_below (vK HO0_0) hb);replace BK307:=bB BK307 hb;replace BK308:=bB BK308 hb;replace BK309:=bB BK309 hb;replace HB:=Aside0.mk (below_step (bL3 HB GE307 GE308 GE309) hb);(try clear hb);(try clear hb2);(try clear hk);(try clear hi);have hcz44_0 : w43.cell? ⟨gb307,0,none⟩ = some (.slice A0_0 l0_0.length c0_0):=(blk_cell BK307.out 0).trans rfl;have hfz44_0:=blk_frozen BK307.out 0;have hcz45_0 : w43.cell? ⟨gb309,0,none⟩ = some (.slice none 0 0):=(blk_cell BK309.out 0).trans rfl;have hfz45_0:=blk_frozen BK309.out 0))
 refine bodyPost_ret (results_cell_row rfl _ _ gb309 27 #[.slice A0_0 l0_0.length c0_0] (0,0) _ rfl (by (with_reducible repeat (first|refine blk_drewN ?_ _|refine blk_drew ?_|refine blk_alloc ?_ _));refine blk_put (cs:=#[.slice none 0 0]) ?_ 0 _ rfl;(with_reducible repeat (first|refine blk_drewN ?_ _|refine blk_drew ?_|refine blk_alloc ?_ _));exact BK309.out) Try.underlying27 rfl (by kernel_rfl)) rfl ?_
 exact ⟨_,by first|rfl|(simp [errW_none,errW_some] <;> rfl)|(simp [*,errW_none,errW_some] <;> rfl),by (with_reducible repeat (first|apply Kd.V_alloc|apply Kd.V_drewN|apply Kd.V_drew));exact Kd.V_mono (Kd.V_far (p:=⟨gb309,0,none⟩) (Kd.V_mono HO0_0.out (fun k_ hk => (⟨hk,hk.2⟩ : _ ∧ k_ ≠ gb309))) (fun _ hk => hk.2) (.slice A0_0 l0_0.length c0_0)) (fun _ hk => hk.1.1.1.1),by repeat (first|(with_reducible first|exact HB.out|apply below_alloc|apply pw_below_drewN|apply below_drew1|refine below_set ?_ GE307.out|refine below_set ?_ GE308.out|refine below_set ?_ GE309.out)|exact HB.out)⟩

end Go.Proofs.Ytnokieaebnmljaa.PAll
/- The document's Put and Del make what the heap's make. -/
namespace Go.Proofs.Ytnokieaebnmljaa.PAll
open Go Go.Proofs Go.RowKit Go.Shelf Go.Proofs.YtnokieaebnmljaaW.PrintWords
set_option linter.unusedVariables false
set_option linter.unusedSimpArgs false
theorem with_eq (l0 : List (List S82)) (m : Int) (l2 : List S82) (hn : l0.length ≤ 1000) (h0 : 0 ≤ m) (h1 : m < (l0.length : Int)) : windlassref4_with.f l0 m l2 = some (l0.set m.toNat l2) := by
  unfold windlassref4_with.f
  rw [if_pos (by simp; omega)]
  simp only [List.nil_append, Option.bind_some]
  rw [if_pos h0, if_pos h1]
theorem placeOf_hit {c : S82 → Int} : ∀ (l : List S82) (s : Int), (placeOf c l s).2 = true → ∃ ix : Nat, (placeOf c l s).1 = s + ix ∧ ∃ h : ix < l.length, c l[ix] = 0
  | [], s, h => by simp [placeOf] at h
  | e :: es, s, h => by
    simp only [placeOf] at h ⊢
    split at h
    · rename_i h0
      rw [if_pos h0]
      exact ⟨0, by simp, by simp, by simpa using h0⟩
    · rename_i h0
      rw [if_neg h0]
      split at h
      · simp at h
      · rename_i h1
        rw [if_neg h1]
        obtain ⟨ix, e1, hl, e2⟩ := placeOf_hit es (s + 1) h
        exact ⟨ix + 1, by rw [e1]; simp; omega, by simp; omega, by simpa using e2⟩
theorem del_eq (d k : Nat) (key : S35) (hkey : dw d key) (l0 : List (List S82)) (m : Int) (hl : ∀ e ∈ mapOf l0 m, dw d e.f0) (hn : (mapOf l0 m).length ≤ 1000) (hm : l0.length ≤ 1000) (hk : 1010 * d + 1002 ≤ k) : windlassref4_Del.f k l0 m key.f0 key.f1 key.f2 key.f3 key.f4 = heap_Del.f k l0 m key.f0 key.f1 key.f2 key.f3 key.f4 := by
  unfold windlassref4_Del.f heap_Del.f
  rw [at_cmpD d k key hkey l0 m hl hn hk, place_cmpD d k key (by omega) hkey l0 m hl]
  simp only [Option.bind_some]
  by_cases hok : (placeOf (fun e => cmpD d e.f0 key) (mapOf l0 m) 0).2 = true
  · rw [if_pos hok, if_pos hok]
    obtain ⟨ix, e1, hix, e2⟩ := placeOf_hit _ _ hok
    rw [e1]
    have hin : 0 ≤ m ∧ m < (l0.length : Int) := by
      by_cases h : 0 ≤ m ∧ m < (l0.length : Int)
      · exact h
      · rw [show mapOf l0 m = [] from if_neg h] at hix; simp at hix
    have er : rd_L4 l0 m = mapOf l0 m := (if_pos hin).symm
    rw [er, if_pos hin.1, if_pos hin.2, if_pos (show (0 : Int) ≤ 0 + (ix : Int) by omega), if_pos (show 0 + (ix : Int) ≤ ((mapOf l0 m).length : Int) by omega)]
    have ew : wrap64 (0 + (ix : Int) + 1) = ((ix + 1 : Nat) : Int) := by unfold wrap64; omega
    simp only [Option.bind_some, List.nil_append, ew]
    rw [if_pos (by simp; omega), if_pos (by omega), if_pos (by omega), if_pos (by simp; omega), with_eq l0 m _ hm hin.1 hin.2, if_pos ⟨by omega, by omega⟩]
    simp
  · rw [if_neg hok, if_neg hok]
theorem shift_set (l : List S82) (z e : S82) (ix : Nat) (h : ix ≤ l.length) : (shiftRow (l ++ [z]) (ix : Int)).set ix e = l.take ix ++ [e] ++ l.drop ix := by
  have e1 : ((l ++ [z]).drop ix).take (l.length + 1 - (ix + 1)) = l.drop ix := by
    rw [List.drop_append_of_le_length h, List.take_append_of_le_length (by rw [List.length_drop]; omega), List.take_of_length_le (by rw [List.length_drop]; omega)]
  have e2 : ((l ++ [z]).take (ix + 1)).set ix e = l.take ix ++ [e] := by
    have hlt : ix < ((l ++ [z]).take (ix + 1)).length := by simp; omega
    rw [List.set_eq_take_append_cons_drop, if_pos hlt, List.take_take, Nat.min_eq_left (by omega), List.take_append_of_le_length h, List.drop_of_length_le (by simp; omega)]
  unfold shiftRow
  simp only [Int.toNat_natCast, List.length_append, List.length_singleton]
  have e3 : (l ++ [z]).drop (ix + 1 + (l.length + 1 - (ix + 1))) = [] := List.drop_of_length_le (by rw [List.length_append, List.length_singleton]; omega)
  rw [e1, e3, List.append_nil, List.set_append_left _ _ (by simp; omega), e2]
end Go.Proofs.Ytnokieaebnmljaa.PAll
/- The document's Put makes what the heap's Put makes. -/
namespace Go.Proofs.Ytnokieaebnmljaa.PAll
open Go Go.Proofs Go.RowKit Go.Shelf Go.Proofs.YtnokieaebnmljaaW.PrintWords
set_option linter.unusedVariables false
set_option linter.unusedSimpArgs false
theorem put_eq (d k : Nat) (key val : S35) (hkey : dw d key) (l0 : List (List S82)) (m : Int) (hl : ∀ e ∈ mapOf l0 m, dw d e.f0) (hn : (mapOf l0 m).length ≤ 900) (hm : l0.length ≤ 1000) (hk : 1010 * d + 1003 ≤ k) : windlassref4_Put.f k l0 m key.f0 key.f1 key.f2 key.f3 key.f4 val.f0 val.f1 val.f2 val.f3 val.f4 = heap_Put.f k l0 m key.f0 key.f1 key.f2 key.f3 key.f4 val.f0 val.f1 val.f2 val.f3 val.f4 := by
  obtain ⟨k, rfl⟩ : ∃ j, k = j + 1 := ⟨k - 1, by omega⟩
  have ha := at_cmpD d k key hkey l0 m hl (by omega) (by omega)
  have hp := place_cmpD d (k + 1) key (by omega) hkey l0 m hl
  unfold windlassref4_Put.f heap_Put.f
  rw [hp]
  simp only [Option.bind_some]
  by_cases hin : 0 ≤ m ∧ m < (l0.length : Int)
  · have er : rd_L4 l0 m = mapOf l0 m := (if_pos hin).symm
    have hd : decide (m ≥ (l0.length : Int)) = false := decide_eq_false (by omega)
    rw [if_neg (show ¬ m < 0 by omega), hd, if_pos hin, if_pos ⟨by omega, by omega⟩]
    simp only [windlassref4_Put.j0]
    rw [if_neg (show ¬ (false = true) by decide), ha]
    simp only [Option.bind_some]
    rw [if_pos hin.1, if_pos hin.2, er, if_pos (show ([] : List S82).length + (mapOf l0 m).length < 1099511627776 by simp; omega)]
    simp only [List.nil_append]
    by_cases hok : (placeOf (fun e => cmpD d e.f0 key) (mapOf l0 m) 0).2 = true
    · obtain ⟨ix, e1, hix, e2⟩ := placeOf_hit _ _ hok
      have ek : (mapOf l0 m)[ix].f0 = key := (lin_cmpD d).eq _ _ (dw_dep d _ (hl _ (List.getElem_mem hix))) (dw_dep d _ hkey) e2
      have et : rd_T82 (mapOf l0 m) ((0 : Int) + (ix : Int)) = (mapOf l0 m)[ix] := by
        have : ((0 : Int) + (ix : Int)).toNat = ix := by omega
        simp [rd_T82, List.getD, hix]
      have ez : ((0 : Int) + (ix : Int)).toNat = ix := by omega
      rw [if_pos hok, if_pos hok, e1, if_pos (show (0 : Int) ≤ 0 + (ix : Int) by omega), if_pos (show (0 : Int) + (ix : Int) < ((mapOf l0 m).length : Int) by omega), with_eq l0 m _ hm hin.1 hin.2]
      simp only [Option.bind_some, et, ek, ez]
      congr 3
      unfold putRow
      rw [List.set_eq_take_append_cons_drop, if_pos hix]
      simp
    · rw [if_neg hok, if_neg hok]
      by_cases h24 : 24 ≤ (mapOf l0 m).length
      · rw [if_pos h24, if_pos (show ((mapOf l0 m).length : Int) ≥ 24 by omega)]
      · obtain ⟨ix, e1, hix, _⟩ := placeOf_range (c := fun e => cmpD d e.f0 key) (mapOf l0 m) 0
        have ez : ((0 : Int) + (ix : Int)).toNat = ix := by omega
        have ez' : ((0 : Int) + (ix : Int)) = (ix : Int) := by omega
        rw [if_neg h24, if_neg (show ¬ ((mapOf l0 m).length : Int) ≥ 24 by omega), if_pos (show (mapOf l0 m).length < 1099511627776 by omega), e1, ez']
        simp only [Option.bind_some, Int.toNat_natCast]
        rw [if_pos (show (0 : Int) ≤ (ix : Int) by omega), if_pos (by simp; omega), shift_set _ _ _ _ hix, with_eq l0 m _ hm hin.1 hin.2]
        simp only [Option.bind_some]
        rfl
  · rw [if_neg hin]
    by_cases h0 : m < 0
    · rw [if_pos h0]; simp only [windlassref4_Put.j0]; rfl
    · have hd : decide (m ≥ (l0.length : Int)) = true := decide_eq_true (by omega)
      rw [if_neg h0, hd]; simp only [windlassref4_Put.j0]; rfl
end Go.Proofs.Ytnokieaebnmljaa.PAll
-- Laid by a program of this seat (wip/xprint.py over the kit's print).
namespace Go.Proofs.Ytnokieaebnmljaa.PAll
open Go.RowKit Go.Proofs.YtnokieaebnmljaaW.PrintWords Go.Proofs.YtnokieaebnmljaaW.PrintLast Go.Proofs.YtnokieaebnmljaaW.PrintMore
attribute [local go_sem] max2_int min2_int max_two min_two max_three min_three max_four min_four   -- for this text's walks alone
set_option linter.unusedVariables false
set_option linter.unusedSimpArgs false

/-! ### heap_Del: function 12: its contract lies in a text of its own -/

/-! ### heap_Get: function 14 -/
noncomputable def heap_Get.f (k : Nat) (l0_0 : List (List (S82))) (a1 : Int) (a2_0 : Int) (a2_1 : Int) (a2_2 : ByteArray) (a2_3 : Int) (l2_4 : List (S35)) : Option (Int × Int × ByteArray × Int × (List (S35)) × Bool) := (heap_place.f k l0_0 a1 a2_0 a2_1 a2_2 a2_3 l2_4).bind fun bt186 => (if bt186.2 = true then (if 0 ≤ a1 then (if a1 < (l0_0.length : Int) then (if 0 ≤ bt186.1 then (if bt186.1 < ((rd_L4 l0_0 a1).length : Int) then (some ((rd_T82 (rd_L4 l0_0 a1) bt186.1).f1.f0, (rd_T82 (rd_L4 l0_0 a1) bt186.1).f1.f1, (rd_T82 (rd_L4 l0_0 a1) bt186.1).f1.f2, (rd_T82 (rd_L4 l0_0 a1) bt186.1).f1.f3, (rd_T82 (rd_L4 l0_0 a1) bt186.1).f1.f4, true)) else (none)) else (none)) else (none)) else (none)) else (some (0, 0, (⟨#[]⟩ : ByteArray), 0, ([] : List (S35)), false)))
set_option maxHeartbeats 8000000 in
set_option maxRecDepth 100000 in
theorem heap_Get.calls (k : Nat) (P0_0_ : Nat → Prop) (A0_0 : Option Addr) (c0_0 : Nat) (l0_0 : List (List (S82))) (a1 : Int) (a2_0 : Int) (a2_1 : Int) (a2_2 : ByteArray) (a2_3 : Int) (A2_4 : Option Addr) (c2_4 : Nat) (l2_4 : List (S35)) (r1 : Int) (r2 : Int) (r3 : ByteArray) (r4 : Int) (r5 : List (S35)) (r6 : Bool) (w : World) (hs0_0 : Kd.V (Kd.slice 82 k82) 41 w w.heap.size (fun k_ => P0_0_ k_) (.slice A0_0 l0_0.length c0_0) l0_0) (hr2_4 : Kd.C k35 w A2_4 l2_4.length l2_4) (hc2_4 : l2_4.length ≤ c2_4) (h : heap_Get.f k l0_0 a1 a2_0 a2_1 a2_2 a2_3 l2_4 = some (r1, r2, r3, r4, r5, r6)) :
    Calls Try.prog 14 #[.agg #[.slice A0_0 l0_0.length c0_0], .int .i64 a1, .agg #[.int .i64 a2_0, .int .i64 a2_1, .string a2_2, .int .i64 a2_3, .slice A2_4 l2_4.length c2_4]] w fun e w' => ∃ v4_ : Value, e = .returned (.tuple #[.agg #[.int .i64 r1, .int .i64 r2, .string r3, .int .i64 r4, v4_], .bool r6]) ∧ Kd.V k35 35 w' w.heap.size (fun k_ => (P0_0_ k_ ∨ w.heap.size ≤ k_)) v4_ r5 ∧ Below w.heap.size w w' := by
  have hu27 := Try.underlying27
  have hu35 := Try.underlying35
  have HO0_0 := Aside0.mk (show Kd.V (Kd.slice 82 k82) 41 w w.heap.size (fun k_ => (P0_0_ k_ ∨ w.heap.size ≤ k_)) (.slice A0_0 l0_0.length c0_0) l0_0 from Kd.V_mono hs0_0 (fun k_ hk => .inl hk))
  have HR2_4 := Aside0.mk hr2_4
  have HC2_4 := Aside0.mk hc2_4
  clear hr2_4 hc2_4
  have HB := Aside0.mk (Below.refl w.heap.size w)
  have H : ((heap_place.f k l0_0 a1 a2_0 a2_1 a2_2 a2_3 l2_4).bind fun bt186 => (if bt186.2 = true then (if 0 ≤ a1 then (if a1 < (l0_0.length : Int) then (if 0 ≤ bt186.1 then (if bt186.1 < ((rd_L4 l0_0 a1).length : Int) then (some ((rd_T82 (rd_L4 l0_0 a1) bt186.1).f1.f0, (rd_T82 (rd_L4 l0_0 a1) bt186.1).f1.f1, (rd_T82 (rd_L4 l0_0 a1) bt186.1).f1.f2, (rd_T82 (rd_L4 l0_0 a1) bt186.1).f1.f3, (rd_T82 (rd_L4 l0_0 a1) bt186.1).f1.f4, true)) else (none)) else (none)) else (none)) else (none)) else (some (0, 0, (⟨#[]⟩ : ByteArray), 0, ([] : List (S35)), false)))) = some (r1, r2, r3, r4, r5, r6) := h
  clear h
  replace H := Option.bind_eq_some_iff.mp H
  obtain ⟨⟨t186, t187⟩, A40, H⟩ := H
  replace H : (if t187 = true then (if 0 ≤ a1 then (if a1 < (l0_0.length : Int) then (if 0 ≤ t186 then (if t186 < ((rd_L4 l0_0 a1).length : Int) then (some ((rd_T82 (rd_L4 l0_0 a1) t186).f1.f0, (rd_T82 (rd_L4 l0_0 a1) t186).f1.f1, (rd_T82 (rd_L4 l0_0 a1) t186).f1.f2, (rd_T82 (rd_L4 l0_0 a1) t186).f1.f3, (rd_T82 (rd_L4 l0_0 a1) t186).f1.f4, true)) else (none)) else (none)) else (none)) else (none)) else (some (0, 0, (⟨#[]⟩ : ByteArray), 0, ([] : List (S35)), false))) = some (r1, r2, r3, r4, r5, r6) := H
  have A4 := Aside0.mk A40
  clear A40
  by_cases c5 : t187 = true
  · subst c5
    have H1 : (if 0 ≤ a1 then (if a1 < (l0_0.length : Int) then (if 0 ≤ t186 then (if t186 < ((rd_L4 l0_0 a1).length : Int) then (some ((rd_T82 (rd_L4 l0_0 a1) t186).f1.f0, (rd_T82 (rd_L4 l0_0 a1) t186).f1.f1, (rd_T82 (rd_L4 l0_0 a1) t186).f1.f2, (rd_T82 (rd_L4 l0_0 a1) t186).f1.f3, (rd_T82 (rd_L4 l0_0 a1) t186).f1.f4, true)) else (none)) else (none)) else (none)) else (none)) = some (r1, r2, r3, r4, r5, r6) := by rw [if_pos rfl] at H; exact H
    clear H
    have H := H1
    clear H1
    by_cases c6 : 0 ≤ a1
    · rw [if_pos c6] at H
      have c6b0 : decide (0 ≤ a1) = true := decide_eq_true c6
      clear c6
      by_cases c7 : a1 < (l0_0.length : Int)
      · rw [if_pos c7] at H
        have c7b0 : decide (a1 < (l0_0.length : Int)) = true := decide_eq_true c7
        clear c7
        by_cases c8 : 0 ≤ t186
        · rw [if_pos c8] at H
          have c8b0 : decide (0 ≤ t186) = true := decide_eq_true c8
          clear c8
          by_cases c9 : t186 < ((rd_L4 l0_0 a1).length : Int)
          · rw [if_pos c9] at H
            have c9b0 : decide (t186 < ((rd_L4 l0_0 a1).length : Int)) = true := decide_eq_true c9
            clear c9
            simp only [Option.some.injEq, Prod.mk.injEq] at H
            obtain ⟨rfl, rfl, rfl, rfl, rfl, rfl⟩ := H
            go_enter Try.func14, Try.ntmps14
            go_wp2_with (first | ((with_reducible refine gate_dst (N := 3) rfl ?_); refine box_event ?hg (N := 3) ?hd (cs := #[.slice A0_0 l0_0.length c0_0]) (t := 27) ?hr ?_; (case hd => rfl); (case hg => rfl); (case hr => first | (go_simp; done) | (go_simp; rfl)); intro gb183 hg w10 hbox hb; replace HO0_0:=Aside0.mk (Kd.V_below (Kd.V_elderB (vK HO0_0) gb183 (Nat.le_of_eq hg.symm)) hb);have BK183:=Aside0.mk (hbox);have GW183:=Aside0.mk ((by rw [hg]; exact (below_size (bL0 HB)) : w.heap.size ≤ gb183));have GE183:=Aside0.mk ((by rw [hg]; exact (below_size (bL0 HB)) : w.heap.size ≤ gb183));replace HB:=bS HB hb; clear hb hbox hg) | ((with_reducible refine gate_dst (N := 5) rfl ?_); refine box_event ?hg (N := 5) ?hd (cs := #[.int .i64 a2_0, .int .i64 a2_1, .string a2_2, .int .i64 a2_3, .slice A2_4 l2_4.length c2_4]) (t := 35) ?hr ?_; (case hd => rfl); (case hg => rfl); (case hr => first | (go_simp; done) | (go_simp; rfl)); intro gb184 hg w11 hbox hb; replace HO0_0:=Aside0.mk (Kd.V_below (Kd.V_elderB (vK HO0_0) gb184 (Nat.le_of_eq hg.symm)) hb);have BK184:=Aside0.mk (hbox);have GW184:=Aside0.mk ((by rw [hg]; exact (below_size (bL1 HB GE183)) : w.heap.size ≤ gb184));have GE184:=Aside0.mk ((by rw [hg]; exact (below_size (bL1 HB GE183)) : w.heap.size ≤ gb184));replace HB:=Aside0.mk (below_step (bL1 HB GE183) hb);have NB183_184:=Aside0.mk ((by rw [hg]; exact Nat.ne_of_lt (blk_lt (bK BK183)) : gb183 ≠ gb184));have NB184_183:=Aside0.mk ((by rw [hg]; exact Nat.ne_of_gt (blk_lt (bK BK183)) : gb184 ≠ gb183));replace BK183:=bB BK183 hb; clear hb hbox hg) | ((with_reducible refine gate_dst (N := 6) rfl ?_); refine box_event ?hg (N := 6) ?hd (cs := #[.int .i64 0, .int .i64 0, .string (⟨#[]⟩ : ByteArray), .int .i64 0, .slice none 0 0]) (t := 35) ?hr ?_; (case hd => rfl); (case hg => rfl); (case hr => first | (go_simp; done) | (go_simp; rfl)); intro gb185 hg w12 hbox hb; replace HO0_0:=Aside0.mk (Kd.V_below (Kd.V_elderB (vK HO0_0) gb185 (Nat.le_of_eq hg.symm)) hb);have BK185:=Aside0.mk (hbox);have GW185:=Aside0.mk ((by rw [hg]; exact (below_size (bL2 HB GE183 GE184)) : w.heap.size ≤ gb185));have GE185:=Aside0.mk ((by rw [hg]; exact (below_size (bL2 HB GE183 GE184)) : w.heap.size ≤ gb185));replace HB:=Aside0.mk (below_step (bL2 HB GE183 GE184) hb);have NB183_185:=Aside0.mk ((by rw [hg]; exact Nat.ne_of_lt (blk_lt (bK BK183)) : gb183 ≠ gb185));have NB185_183:=Aside0.mk ((by rw [hg]; exact Nat.ne_of_gt (blk_lt (bK BK183)) : gb185 ≠ gb183));replace BK183:=bB BK183 hb;have NB184_185:=Aside0.mk ((by rw [hg]; exact Nat.ne_of_lt (blk_lt (bK BK184)) : gb184 ≠ gb185));have NB185_184:=Aside0.mk ((by rw [hg]; exact Nat.ne_of_gt (blk_lt (bK BK184)) : gb185 ≠ gb184));replace BK184:=bB BK184 hb; clear hb hbox hg; have hnb13 := NB183_184.out; have hnc13 := NB184_183.out; have hnb14 := NB183_185.out; have hnc14 := NB185_183.out; have hcz15_0 : w12.cell? ⟨gb183, 0, none⟩ = some (.slice A0_0 l0_0.length c0_0) := (blk_cell BK183.out 0).trans rfl; have hfz15_0 := blk_frozen BK183.out 0; have hnb16 := NB184_185.out; have hnc16 := NB185_184.out; have hcz17_0 : w12.cell? ⟨gb184, 0, none⟩ = some (.int .i64 a2_0) := (blk_cell BK184.out 0).trans rfl; have hcz17_1 : w12.cell? ⟨gb184, 1, none⟩ = some (.int .i64 a2_1) := (blk_cell BK184.out 1).trans rfl; have hcz17_2 : w12.cell? ⟨gb184, 2, none⟩ = some (.string a2_2) := (blk_cell BK184.out 2).trans rfl; have hcz17_3 : w12.cell? ⟨gb184, 3, none⟩ = some (.int .i64 a2_3) := (blk_cell BK184.out 3).trans rfl; have hcz17_4 : w12.cell? ⟨gb184, 4, none⟩ = some (.slice A2_4 l2_4.length c2_4) := (blk_cell BK184.out 4).trans rfl; have hfz17_0 := blk_frozen BK184.out 0; have hfz17_1 := blk_frozen BK184.out 1; have hfz17_2 := blk_frozen BK184.out 2; have hfz17_3 := blk_frozen BK184.out 3; have hfz17_4 := blk_frozen BK184.out 4) | ((with_reducible refine gate_callee (f := 37) rfl ?_); refine goesL_ (some 14) rfl rfl Try.func37 (by kernel_rfl) rfl #[.agg #[.slice A0_0 l0_0.length c0_0], .int .i64 a1, .agg #[.int .i64 a2_0, .int .i64 a2_1, .string a2_2, .int .i64 a2_3, .slice A2_4 l2_4.length c2_4]] rfl aG ?_; (with_reducible refine (heap_place.calls k _ _ l0_0 a1 a2_0 a2_1 a2_2 a2_3 _ _ l2_4 t186 true _ ?side1 ?side2 ?side3 ?side4 A4.out).mono ?_); (case side1 => repeat (first | exact (Kd.V_reads' HO0_0.out).2.2 | (with_reducible refine Kd.C_alloc ?_ _) | (with_reducible refine Kd.C_drewN ?_ _) | (with_reducible refine Kd.C_drew ?_))); (case side2 => exact (Kd.V_reads' HO0_0.out).2.1); (case side3 => repeat (first | exact (Kd.C_below HR2_4.out HB.out) | (with_reducible refine Kd.C_alloc ?_ _) | (with_reducible refine Kd.C_drewN ?_ _) | (with_reducible refine Kd.C_drew ?_))); (case side4 => exact HC2_4.out); rintro e w18 ⟨rfl, hb⟩; refine ⟨_, rfl, ?_⟩; replace HO0_0:=Aside0.mk (Kd.V_below (vK HO0_0) hb);replace BK183:=bB BK183 hb;replace BK184:=bB BK184 hb;replace BK185:=bB BK185 hb;replace HB:=Aside0.mk (below_step (bL3 HB GE183 GE184 GE185) hb); (try clear hb); (try clear hb2); (try clear hk); (try clear hi); have hcz19_0 : w18.cell? ⟨gb183, 0, none⟩ = some (.slice A0_0 l0_0.length c0_0) := (blk_cell BK183.out 0).trans rfl; have hfz19_0 := blk_frozen BK183.out 0; have p188 : 0 ≤ (a1 : Int) := of_decide_eq_true aX; have q188 : a1 < (l0_0.length : Int) := of_decide_eq_true aX; obtain ⟨ad188, A188_0, c188_0, e188, hx188_0, hl188_0, hi188_0⟩ := at_L4 (Kd.V_reads' HO0_0.out).2.2 a1 p188 q188; cases e188; obtain ⟨ce188, hce188, hMe188, hcc188⟩ := Kd.V_get HO0_0.out [] a1 p188 (by first | exact q188 | exact of_decide_eq_true aX | (have e_ := (Kd.V_reads' HO0_0.out).1; omega)); obtain ⟨ua188_0, uc188_0, rfl, ul188_0, ge188_0⟩ := Kd.FK_slice_open hMe188; have hv188_0 := hcc188 0 _ rfl; rw [Nat.add_zero, show ((Kd.slice 82 k82)).sz = 1 from rfl, Nat.mul_one] at hv188_0; replace hv188_0 := Option.some.inj (hv188_0.symm.trans hx188_0); injection hv188_0 with hva_ hvn_ hvc_; rw [hva_] at ge188_0; rw [hvc_] at ul188_0; have HL188_0 := Aside0.mk (show Kd.V k82 82 _ w.heap.size _ _ (rd_L4 l0_0 a1) from Kd.V_mk ul188_0 ge188_0); clear hva_ hvn_ hvc_ ge188_0 ul188_0; clear hcc188 hce188; have HR188_0 := Aside0.mk hi188_0; have HC188_0 := Aside0.mk hl188_0; clear hi188_0 hl188_0; replace p188 := eq_true p188; replace q188 := eq_true q188; have p189 : 0 ≤ (t186 : Int) := of_decide_eq_true aX; have q189 : t186 < ((rd_L4 l0_0 a1).length : Int) := of_decide_eq_true aX; obtain ⟨ad189, A189_4, c189_4, A189_9, c189_9, e189, hx189_0, hx189_1, hx189_2, hx189_3, hx189_4, hx189_5, hx189_6, hx189_7, hx189_8, hx189_9, hl189_4, hi189_4, hl189_9, hi189_9⟩ := at_T82 (by repeat (first | (with_reducible exact HR188_0.out) | (with_reducible refine Kd.C_alloc ?_ _) | (with_reducible refine Kd.C_drewN ?_ _) | (with_reducible refine Kd.C_drew ?_) | exact HR188_0.out)) t186 p189 q189; cases e189; obtain ⟨ce189, hce189, hMe189, hcc189⟩ := Kd.V_get HL188_0.out z82 t186 p189 (by first | exact q189 | exact of_decide_eq_true aX | (have e_ := (Kd.V_reads' HL188_0.out).1; omega)); obtain ⟨ua189_4, uc189_4, ua189_9, uc189_9, rfl, ul189_4, ge189_4, ul189_9, ge189_9⟩ := k82_openF hMe189; have hv189_4 := hcc189 4 _ rfl; rw [add_field _ _ 4 (by omega)] at hv189_4; replace hv189_4 := Option.some.inj (hv189_4.symm.trans hx189_4); injection hv189_4 with hva_ hvn_ hvc_; rw [hva_] at ge189_4; rw [hvc_] at ul189_4; have HL189_4 := Aside0.mk (show Kd.V k35 35 _ w.heap.size _ _ ((rd_T82 (rd_L4 l0_0 a1) t186).f0.f4) from Kd.V_mk ul189_4 ge189_4); clear hva_ hvn_ hvc_ ge189_4 ul189_4; have hv189_9 := hcc189 9 _ rfl; rw [add_field _ _ 9 (by omega)] at hv189_9; replace hv189_9 := Option.some.inj (hv189_9.symm.trans hx189_9); injection hv189_9 with hva_ hvn_ hvc_; rw [hva_] at ge189_9; rw [hvc_] at ul189_9; have HL189_9 := Aside0.mk (show Kd.V k35 35 _ w.heap.size _ _ ((rd_T82 (rd_L4 l0_0 a1) t186).f1.f4) from Kd.V_mk ul189_9 ge189_9); clear hva_ hvn_ hvc_ ge189_9 ul189_9; clear hcc189 hce189; have HR189_4 := Aside0.mk hi189_4; have HC189_4 := Aside0.mk hl189_4; clear hi189_4 hl189_4; have HR189_9 := Aside0.mk hi189_9; have HC189_9 := Aside0.mk hl189_9; clear hi189_9 hl189_9; replace p189 := eq_true p189; replace q189 := eq_true q189; have hcz20_0 : w18.cell? ⟨gb185, 0, none⟩ = some (.int .i64 0) := (blk_cell BK185.out 0).trans rfl; have hcz20_1 : w18.cell? ⟨gb185, 1, none⟩ = some (.int .i64 0) := (blk_cell BK185.out 1).trans rfl; have hcz20_2 : w18.cell? ⟨gb185, 2, none⟩ = some (.string (⟨#[]⟩ : ByteArray)) := (blk_cell BK185.out 2).trans rfl; have hcz20_3 : w18.cell? ⟨gb185, 3, none⟩ = some (.int .i64 0) := (blk_cell BK185.out 3).trans rfl; have hcz20_4 : w18.cell? ⟨gb185, 4, none⟩ = some (.slice none 0 0) := (blk_cell BK185.out 4).trans rfl; have hfz20_0 := blk_frozen BK185.out 0; have hfz20_1 := blk_frozen BK185.out 1; have hfz20_2 := blk_frozen BK185.out 2; have hfz20_3 := blk_frozen BK185.out 3; have hfz20_4 := blk_frozen BK185.out 4))
            refine bodyPost_ret (results_ct rfl _ _ gb185 35 #[.int .i64 ((rd_T82 (rd_L4 l0_0 a1) t186).f1.f0), .int .i64 ((rd_T82 (rd_L4 l0_0 a1) t186).f1.f1), .string ((rd_T82 (rd_L4 l0_0 a1) t186).f1.f2), .int .i64 ((rd_T82 (rd_L4 l0_0 a1) t186).f1.f3), .slice A189_9 ((rd_T82 (rd_L4 l0_0 a1) t186).f1.f4).length c189_9] (0, 0) _ rfl (by (with_reducible repeat (first | refine blk_drewN ?_ _ | refine blk_drew ?_ | refine blk_alloc ?_ _)); refine blk_put (cs := #[.int .i64 ((rd_T82 (rd_L4 l0_0 a1) t186).f1.f0), .int .i64 ((rd_T82 (rd_L4 l0_0 a1) t186).f1.f1), .string ((rd_T82 (rd_L4 l0_0 a1) t186).f1.f2), .int .i64 ((rd_T82 (rd_L4 l0_0 a1) t186).f1.f3), .slice none 0 0]) ?_ 4 _ rfl; (with_reducible repeat (first | refine blk_drewN ?_ _ | refine blk_drew ?_ | refine blk_alloc ?_ _)); refine blk_put (cs := #[.int .i64 ((rd_T82 (rd_L4 l0_0 a1) t186).f1.f0), .int .i64 ((rd_T82 (rd_L4 l0_0 a1) t186).f1.f1), .string ((rd_T82 (rd_L4 l0_0 a1) t186).f1.f2), .int .i64 0, .slice none 0 0]) ?_ 3 _ rfl; (with_reducible repeat (first | refine blk_drewN ?_ _ | refine blk_drew ?_ | refine blk_alloc ?_ _)); refine blk_put (cs := #[.int .i64 ((rd_T82 (rd_L4 l0_0 a1) t186).f1.f0), .int .i64 ((rd_T82 (rd_L4 l0_0 a1) t186).f1.f1), .string (⟨#[]⟩ : ByteArray), .int .i64 0, .slice none 0 0]) ?_ 2 _ rfl; (with_reducible repeat (first | refine blk_drewN ?_ _ | refine blk_drew ?_ | refine blk_alloc ?_ _)); refine blk_put (cs := #[.int .i64 ((rd_T82 (rd_L4 l0_0 a1) t186).f1.f0), .int .i64 0, .string (⟨#[]⟩ : ByteArray), .int .i64 0, .slice none 0 0]) ?_ 1 _ rfl; (with_reducible repeat (first | refine blk_drewN ?_ _ | refine blk_drew ?_ | refine blk_alloc ?_ _)); refine blk_put (cs := #[.int .i64 0, .int .i64 0, .string (⟨#[]⟩ : ByteArray), .int .i64 0, .slice none 0 0]) ?_ 0 _ rfl; (with_reducible repeat (first | refine blk_drewN ?_ _ | refine blk_drew ?_ | refine blk_alloc ?_ _)); exact BK185.out) Try.underlying35 rfl (by kernel_rfl)) rfl ?_
            exact ⟨_, by first | rfl | (simp [errW_none, errW_some] <;> rfl) | (simp [*, errW_none, errW_some] <;> rfl), by (with_reducible repeat (first | apply Kd.V_alloc | apply Kd.V_drewN | apply Kd.V_drew)); exact Kd.V_mono (Kd.V_far (p := ⟨gb185, 4, none⟩) (Kd.V_far (p := ⟨gb185, 3, none⟩) (Kd.V_far (p := ⟨gb185, 2, none⟩) (Kd.V_far (p := ⟨gb185, 1, none⟩) (Kd.V_far (p := ⟨gb185, 0, none⟩) (Kd.V_mono HL189_9.out (fun k_ hk => (⟨hk, hk.2⟩ : _ ∧ k_ ≠ gb185))) (fun _ hk => hk.2) (.int .i64 ((rd_T82 (rd_L4 l0_0 a1) t186).f1.f0))) (fun _ hk => hk.2) (.int .i64 ((rd_T82 (rd_L4 l0_0 a1) t186).f1.f1))) (fun _ hk => hk.2) (.string ((rd_T82 (rd_L4 l0_0 a1) t186).f1.f2))) (fun _ hk => hk.2) (.int .i64 ((rd_T82 (rd_L4 l0_0 a1) t186).f1.f3))) (fun _ hk => hk.2) (.slice A189_9 ((rd_T82 (rd_L4 l0_0 a1) t186).f1.f4).length c189_9)) (fun _ hk => hk.1.1.1.1), by repeat (first | (with_reducible first | exact HB.out | apply below_alloc | apply pw_below_drewN | apply below_drew1 | refine below_set ?_ GE183.out | refine below_set ?_ GE184.out | refine below_set ?_ GE185.out) | exact HB.out)⟩
          rw [if_neg c9] at H
          exact absurd H (by simp)
        rw [if_neg c8] at H
        exact absurd H (by simp)
      rw [if_neg c7] at H
      exact absurd H (by simp)
    rw [if_neg c6] at H
    exact absurd H (by simp)
  replace c5 := Bool.eq_false_iff.mpr c5
  subst c5
  have H1 : (some (0, 0, (⟨#[]⟩ : ByteArray), 0, ([] : List (S35)), false)) = some (r1, r2, r3, r4, r5, r6) := by rw [if_neg (show ¬ (false = true) by decide)] at H; exact H
  clear H
  have H := H1
  clear H1
  simp only [Option.some.injEq, Prod.mk.injEq] at H
  obtain ⟨rfl, rfl, rfl, rfl, rfl, rfl⟩ := H
  go_enter Try.func14, Try.ntmps14
  go_wp2_with (first | ((with_reducible refine gate_dst (N := 3) rfl ?_); refine box_event ?hg (N := 3) ?hd (cs := #[.slice A0_0 l0_0.length c0_0]) (t := 27) ?hr ?_; (case hd => rfl); (case hg => rfl); (case hr => first | (go_simp; done) | (go_simp; rfl)); intro gb183 hg w21 hbox hb; replace HO0_0:=Aside0.mk (Kd.V_below (Kd.V_elderB (vK HO0_0) gb183 (Nat.le_of_eq hg.symm)) hb);have BK183:=Aside0.mk (hbox);have GW183:=Aside0.mk ((by rw [hg]; exact (below_size (bL0 HB)) : w.heap.size ≤ gb183));have GE183:=Aside0.mk ((by rw [hg]; exact (below_size (bL0 HB)) : w.heap.size ≤ gb183));replace HB:=bS HB hb; clear hb hbox hg) | ((with_reducible refine gate_dst (N := 5) rfl ?_); refine box_event ?hg (N := 5) ?hd (cs := #[.int .i64 a2_0, .int .i64 a2_1, .string a2_2, .int .i64 a2_3, .slice A2_4 l2_4.length c2_4]) (t := 35) ?hr ?_; (case hd => rfl); (case hg => rfl); (case hr => first | (go_simp; done) | (go_simp; rfl)); intro gb184 hg w22 hbox hb; replace HO0_0:=Aside0.mk (Kd.V_below (Kd.V_elderB (vK HO0_0) gb184 (Nat.le_of_eq hg.symm)) hb);have BK184:=Aside0.mk (hbox);have GW184:=Aside0.mk ((by rw [hg]; exact (below_size (bL1 HB GE183)) : w.heap.size ≤ gb184));have GE184:=Aside0.mk ((by rw [hg]; exact (below_size (bL1 HB GE183)) : w.heap.size ≤ gb184));replace HB:=Aside0.mk (below_step (bL1 HB GE183) hb);have NB183_184:=Aside0.mk ((by rw [hg]; exact Nat.ne_of_lt (blk_lt (bK BK183)) : gb183 ≠ gb184));have NB184_183:=Aside0.mk ((by rw [hg]; exact Nat.ne_of_gt (blk_lt (bK BK183)) : gb184 ≠ gb183));replace BK183:=bB BK183 hb; clear hb hbox hg) | ((with_reducible refine gate_dst (N := 6) rfl ?_); refine box_event ?hg (N := 6) ?hd (cs := #[.int .i64 0, .int .i64 0, .string (⟨#[]⟩ : ByteArray), .int .i64 0, .slice none 0 0]) (t := 35) ?hr ?_; (case hd => rfl); (case hg => rfl); (case hr => first | (go_simp; done) | (go_simp; rfl)); intro gb185 hg w23 hbox hb; replace HO0_0:=Aside0.mk (Kd.V_below (Kd.V_elderB (vK HO0_0) gb185 (Nat.le_of_eq hg.symm)) hb);have BK185:=Aside0.mk (hbox);have GW185:=Aside0.mk ((by rw [hg]; exact (below_size (bL2 HB GE183 GE184)) : w.heap.size ≤ gb185));have GE185:=Aside0.mk ((by rw [hg]; exact (below_size (bL2 HB GE183 GE184)) : w.heap.size ≤ gb185));replace HB:=Aside0.mk (below_step (bL2 HB GE183 GE184) hb);have NB183_185:=Aside0.mk ((by rw [hg]; exact Nat.ne_of_lt (blk_lt (bK BK183)) : gb183 ≠ gb185));have NB185_183:=Aside0.mk ((by rw [hg]; exact Nat.ne_of_gt (blk_lt (bK BK183)) : gb185 ≠ gb183));replace BK183:=bB BK183 hb;have NB184_185:=Aside0.mk ((by rw [hg]; exact Nat.ne_of_lt (blk_lt (bK BK184)) : gb184 ≠ gb185));have NB185_184:=Aside0.mk ((by rw [hg]; exact Nat.ne_of_gt (blk_lt (bK BK184)) : gb185 ≠ gb184));replace BK184:=bB BK184 hb; clear hb hbox hg; have hnb24 := NB183_184.out; have hnc24 := NB184_183.out; have hnb25 := NB183_185.out; have hnc25 := NB185_183.out; have hcz26_0 : w23.cell? ⟨gb183, 0, none⟩ = some (.slice A0_0 l0_0.length c0_0) := (blk_cell BK183.out 0).trans rfl; have hfz26_0 := blk_frozen BK183.out 0; have hnb27 := NB184_185.out; have hnc27 := NB185_184.out; have hcz28_0 : w23.cell? ⟨gb184, 0, none⟩ = some (.int .i64 a2_0) := (blk_cell BK184.out 0).trans rfl; have hcz28_1 : w23.cell? ⟨gb184, 1, none⟩ = some (.int .i64 a2_1) := (blk_cell BK184.out 1).trans rfl; have hcz28_2 : w23.cell? ⟨gb184, 2, none⟩ = some (.string a2_2) := (blk_cell BK184.out 2).trans rfl; have hcz28_3 : w23.cell? ⟨gb184, 3, none⟩ = some (.int .i64 a2_3) := (blk_cell BK184.out 3).trans rfl; have hcz28_4 : w23.cell? ⟨gb184, 4, none⟩ = some (.slice A2_4 l2_4.length c2_4) := (blk_cell BK184.out 4).trans rfl; have hfz28_0 := blk_frozen BK184.out 0; have hfz28_1 := blk_frozen BK184.out 1; have hfz28_2 := blk_frozen BK184.out 2; have hfz28_3 := blk_frozen BK184.out 3; have hfz28_4 := blk_frozen BK184.out 4) | ((with_reducible refine gate_callee (f := 37) rfl ?_); refine goesL_ (some 14) rfl rfl Try.func37 (by kernel_rfl) rfl #[.agg #[.slice A0_0 l0_0.length c0_0], .int .i64 a1, .agg #[.int .i64 a2_0, .int .i64 a2_1, .string a2_2, .int .i64 a2_3, .slice A2_4 l2_4.length c2_4]] rfl aG ?_; (with_reducible refine (heap_place.calls k _ _ l0_0 a1 a2_0 a2_1 a2_2 a2_3 _ _ l2_4 t186 false _ ?side1 ?side2 ?side3 ?side4 A4.out).mono ?_); (case side1 => repeat (first | exact (Kd.V_reads' HO0_0.out).2.2 | (with_reducible refine Kd.C_alloc ?_ _) | (with_reducible refine Kd.C_drewN ?_ _) | (with_reducible refine Kd.C_drew ?_))); (case side2 => exact (Kd.V_reads' HO0_0.out).2.1); (case side3 => repeat (first | exact (Kd.C_below HR2_4.out HB.out) | (with_reducible refine Kd.C_alloc ?_ _) | (with_reducible refine Kd.C_drewN ?_ _) | (with_reducible refine Kd.C_drew ?_))); (case side4 => exact HC2_4.out); rintro e w29 ⟨rfl, hb⟩; refine ⟨_, rfl, ?_⟩; replace HO0_0:=Aside0.mk (Kd.V_below (vK HO0_0) hb);replace BK183:=bB BK183 hb;replace BK184:=bB BK184 hb;replace BK185:=bB BK185 hb;replace HB:=Aside0.mk (below_step (bL3 HB GE183 GE184 GE185) hb); (try clear hb); (try clear hb2); (try clear hk); (try clear hi); have hcz30_0 : w29.cell? ⟨gb185, 0, none⟩ = some (.int .i64 0) := (blk_cell BK185.out 0).trans rfl; have hcz30_1 : w29.cell? ⟨gb185, 1, none⟩ = some (.int .i64 0) := (blk_cell BK185.out 1).trans rfl; have hcz30_2 : w29.cell? ⟨gb185, 2, none⟩ = some (.string (⟨#[]⟩ : ByteArray)) := (blk_cell BK185.out 2).trans rfl; have hcz30_3 : w29.cell? ⟨gb185, 3, none⟩ = some (.int .i64 0) := (blk_cell BK185.out 3).trans rfl; have hcz30_4 : w29.cell? ⟨gb185, 4, none⟩ = some (.slice none 0 0) := (blk_cell BK185.out 4).trans rfl; have hfz30_0 := blk_frozen BK185.out 0; have hfz30_1 := blk_frozen BK185.out 1; have hfz30_2 := blk_frozen BK185.out 2; have hfz30_3 := blk_frozen BK185.out 3; have hfz30_4 := blk_frozen BK185.out 4))
  refine bodyPost_ret (results_ct rfl _ _ gb185 35 #[.int .i64 0, .int .i64 0, .string (⟨#[]⟩ : ByteArray), .int .i64 0, .slice none 0 0] (0, 0) _ rfl (by (with_reducible repeat (first | refine blk_drewN ?_ _ | refine blk_drew ?_ | refine blk_alloc ?_ _)); refine blk_put (cs := #[.int .i64 0, .int .i64 0, .string (⟨#[]⟩ : ByteArray), .int .i64 0, .slice none 0 0]) ?_ 4 _ rfl; (with_reducible repeat (first | refine blk_drewN ?_ _ | refine blk_drew ?_ | refine blk_alloc ?_ _)); refine blk_put (cs := #[.int .i64 0, .int .i64 0, .string (⟨#[]⟩ : ByteArray), .int .i64 0, .slice none 0 0]) ?_ 3 _ rfl; (with_reducible repeat (first | refine blk_drewN ?_ _ | refine blk_drew ?_ | refine blk_alloc ?_ _)); refine blk_put (cs := #[.int .i64 0, .int .i64 0, .string (⟨#[]⟩ : ByteArray), .int .i64 0, .slice none 0 0]) ?_ 2 _ rfl; (with_reducible repeat (first | refine blk_drewN ?_ _ | refine blk_drew ?_ | refine blk_alloc ?_ _)); refine blk_put (cs := #[.int .i64 0, .int .i64 0, .string (⟨#[]⟩ : ByteArray), .int .i64 0, .slice none 0 0]) ?_ 1 _ rfl; (with_reducible repeat (first | refine blk_drewN ?_ _ | refine blk_drew ?_ | refine blk_alloc ?_ _)); refine blk_put (cs := #[.int .i64 0, .int .i64 0, .string (⟨#[]⟩ : ByteArray), .int .i64 0, .slice none 0 0]) ?_ 0 _ rfl; (with_reducible repeat (first | refine blk_drewN ?_ _ | refine blk_drew ?_ | refine blk_alloc ?_ _)); exact BK185.out) Try.underlying35 rfl (by kernel_rfl)) rfl ?_
  exact ⟨_, by first | rfl | (simp [errW_none, errW_some] <;> rfl) | (simp [*, errW_none, errW_some] <;> rfl), Kd.V_nil _ _ _ _ _, by repeat (first | (with_reducible first | exact HB.out | apply below_alloc | apply pw_below_drewN | apply below_drew1 | refine below_set ?_ GE183.out | refine below_set ?_ GE184.out | refine below_set ?_ GE185.out) | exact HB.out)⟩

end Go.Proofs.Ytnokieaebnmljaa.PAll
-- Laid by a program of this seat (wip/xprint.py over the kit's print).
namespace Go.Proofs.Ytnokieaebnmljaa.PAll
open Go.RowKit Go.Proofs.YtnokieaebnmljaaW.PrintWords Go.Proofs.YtnokieaebnmljaaW.PrintLast Go.Proofs.YtnokieaebnmljaaW.PrintMore
attribute [local go_sem] max2_int min2_int max_two min_two max_three min_three max_four min_four   -- for this text's walks alone
set_option linter.unusedVariables false
set_option linter.unusedSimpArgs false

/-! ### windlassref4_Del: function 20: its contract lies in a text of its own -/

/-! ### windlassref4_Get: function 21 -/
def windlassref4_Get.f (k : Nat) (l0_0 : List (List (S82))) (a1 : Int) (a2_0 : Int) (a2_1 : Int) (a2_2 : ByteArray) (a2_3 : Int) (l2_4 : List (S35)) : Option (Int × Int × ByteArray × Int × (List (S35)) × Bool):=(windlassref4_at.f k l0_0 a1 a2_0 a2_1 a2_2 a2_3 l2_4).bind fun bt289 => (if bt289.2 = true then (if 0 ≤ a1 then (if a1 < (l0_0.length : Int) then (if 0 ≤ bt289.1 then (if bt289.1 < ((rd_L4 l0_0 a1).length : Int) then (some ((rd_T82 (rd_L4 l0_0 a1) bt289.1).f1.f0,(rd_T82 (rd_L4 l0_0 a1) bt289.1).f1.f1,(rd_T82 (rd_L4 l0_0 a1) bt289.1).f1.f2,(rd_T82 (rd_L4 l0_0 a1) bt289.1).f1.f3,(rd_T82 (rd_L4 l0_0 a1) bt289.1).f1.f4,true)) else (none)) else (none)) else (none)) else (none)) else (some (0,0,(⟨#[]⟩ : ByteArray),0,([] : List (S35)),false)))
set_option maxHeartbeats 8000000 in
set_option maxRecDepth 100000 in
theorem windlassref4_Get.calls (k : Nat) (P0_0_ : Nat → Prop) (A0_0 : Option Addr) (c0_0 : Nat) (l0_0 : List (List (S82))) (a1 : Int) (a2_0 : Int) (a2_1 : Int) (a2_2 : ByteArray) (a2_3 : Int) (A2_4 : Option Addr) (c2_4 : Nat) (l2_4 : List (S35)) (r1 : Int) (r2 : Int) (r3 : ByteArray) (r4 : Int) (r5 : List (S35)) (r6 : Bool) (w : World) (hs0_0 : Kd.V (Kd.slice 82 k82) 41 w w.heap.size (fun k_ => P0_0_ k_) (.slice A0_0 l0_0.length c0_0) l0_0) (hr2_4 : Kd.C k35 w A2_4 l2_4.length l2_4) (hc2_4 : l2_4.length ≤ c2_4) (h : windlassref4_Get.f k l0_0 a1 a2_0 a2_1 a2_2 a2_3 l2_4 = some (r1,r2,r3,r4,r5,r6)) :
  Calls Try.prog 21 #[.agg #[.slice A0_0 l0_0.length c0_0], .int .i64 a1, .agg #[.int .i64 a2_0, .int .i64 a2_1, .string a2_2, .int .i64 a2_3, .slice A2_4 l2_4.length c2_4]] w fun e w' => ∃ v4_ : Value,e = .returned (.tuple #[.agg #[.int .i64 r1, .int .i64 r2, .string r3, .int .i64 r4,v4_], .bool r6]) ∧ Kd.V k35 35 w' w.heap.size (fun k_ => (P0_0_ k_ ∨ w.heap.size ≤ k_)) v4_ r5 ∧ Below w.heap.size w w':=by
 have hu27:=Try.underlying27
 have hu35:=Try.underlying35
 have HO0_0:=Aside0.mk (show Kd.V (Kd.slice 82 k82) 41 w w.heap.size (fun k_ => (P0_0_ k_ ∨ w.heap.size ≤ k_)) (.slice A0_0 l0_0.length c0_0) l0_0 from Kd.V_mono hs0_0 (fun k_ hk => .inl hk))
 have HR2_4:=Aside0.mk hr2_4
 have HC2_4:=Aside0.mk hc2_4
 clear hr2_4 hc2_4
 have HB:=Aside0.mk (Below.refl w.heap.size w)
 have H : ((windlassref4_at.f k l0_0 a1 a2_0 a2_1 a2_2 a2_3 l2_4).bind fun bt289 => (if bt289.2 = true then (if 0 ≤ a1 then (if a1 < (l0_0.length : Int) then (if 0 ≤ bt289.1 then (if bt289.1 < ((rd_L4 l0_0 a1).length : Int) then (some ((rd_T82 (rd_L4 l0_0 a1) bt289.1).f1.f0,(rd_T82 (rd_L4 l0_0 a1) bt289.1).f1.f1,(rd_T82 (rd_L4 l0_0 a1) bt289.1).f1.f2,(rd_T82 (rd_L4 l0_0 a1) bt289.1).f1.f3,(rd_T82 (rd_L4 l0_0 a1) bt289.1).f1.f4,true)) else (none)) else (none)) else (none)) else (none)) else (some (0,0,(⟨#[]⟩ : ByteArray),0,([] : List (S35)),false)))) = some (r1,r2,r3,r4,r5,r6):=h
 clear h
 replace H:=Option.bind_eq_some_iff.mp H
 obtain ⟨⟨t289,t290⟩,A40,H⟩:=H
 replace H : (if t290 = true then (if 0 ≤ a1 then (if a1 < (l0_0.length : Int) then (if 0 ≤ t289 then (if t289 < ((rd_L4 l0_0 a1).length : Int) then (some ((rd_T82 (rd_L4 l0_0 a1) t289).f1.f0,(rd_T82 (rd_L4 l0_0 a1) t289).f1.f1,(rd_T82 (rd_L4 l0_0 a1) t289).f1.f2,(rd_T82 (rd_L4 l0_0 a1) t289).f1.f3,(rd_T82 (rd_L4 l0_0 a1) t289).f1.f4,true)) else (none)) else (none)) else (none)) else (none)) else (some (0,0,(⟨#[]⟩ : ByteArray),0,([] : List (S35)),false))) = some (r1,r2,r3,r4,r5,r6):=H
 have A4:=Aside0.mk A40
 clear A40
 by_cases c5 : t290 = true
 ·subst c5
  have H1 : (if 0 ≤ a1 then (if a1 < (l0_0.length : Int) then (if 0 ≤ t289 then (if t289 < ((rd_L4 l0_0 a1).length : Int) then (some ((rd_T82 (rd_L4 l0_0 a1) t289).f1.f0,(rd_T82 (rd_L4 l0_0 a1) t289).f1.f1,(rd_T82 (rd_L4 l0_0 a1) t289).f1.f2,(rd_T82 (rd_L4 l0_0 a1) t289).f1.f3,(rd_T82 (rd_L4 l0_0 a1) t289).f1.f4,true)) else (none)) else (none)) else (none)) else (none)) = some (r1,r2,r3,r4,r5,r6):=by rw [if_pos rfl] at H;exact H
  clear H
  have H:=H1
  clear H1
  by_cases c6 : 0 ≤ a1
  ·rw [if_pos c6] at H
   have c6b0 : decide (0 ≤ a1) = true:=decide_eq_true c6
   clear c6
   by_cases c7 : a1 < (l0_0.length : Int)
   ·rw [if_pos c7] at H
    have c7b0 : decide (a1 < (l0_0.length : Int)) = true:=decide_eq_true c7
    clear c7
    by_cases c8 : 0 ≤ t289
    ·rw [if_pos c8] at H
     have c8b0 : decide (0 ≤ t289) = true:=decide_eq_true c8
     clear c8
     by_cases c9 : t289 < ((rd_L4 l0_0 a1).length : Int)
     ·rw [if_pos c9] at H
      have c9b0 : decide (t289 < ((rd_L4 l0_0 a1).length : Int)) = true:=decide_eq_true c9
      clear c9
      simp only [Option.some.injEq,Prod.mk.injEq] at H
      obtain ⟨rfl,rfl,rfl,rfl,rfl,rfl⟩:=H
      go_enter Try.func21,Try.ntmps21
      go_wp2_with (first|((with_reducible refine gate_dst (N:=3) rfl ?_);refine box_event ?hg (N:=3) ?hd (cs:=#[.slice A0_0 l0_0.length c0_0]) (t:=27) ?hr ?_;(case hd => rfl);(case hg => rfl);(case hr => first|(go_simp;done)|(go_simp;rfl));intro gb286 hg w10 hbox hb;replace HO0_0:=Aside0.mk (Kd.V_below (Kd.V_elderB (vK HO0_0) gb286 (Nat.le_of_eq hg.symm)) hb);have BK286:=Aside0.mk (hbox);have GW286:=Aside0.mk ((by rw [hg];exact (below_size (bL0 HB)) : w.heap.size ≤ gb286));have GE286:=Aside0.mk ((by rw [hg];exact (below_size (bL0 HB)) : w.heap.size ≤ gb286));replace HB:=bS HB hb;clear hb hbox hg)|((with_reducible refine gate_dst (N:=5) rfl ?_);refine box_event ?hg (N:=5) ?hd (cs:=#[.int .i64 a2_0, .int .i64 a2_1, .string a2_2, .int .i64 a2_3, .slice A2_4 l2_4.length c2_4]) (t:=35) ?hr ?_;(case hd => rfl);(case hg => rfl);(case hr => first|(go_simp;done)|(go_simp;rfl));intro gb287 hg w11 hbox hb;replace HO0_0:=Aside0.mk (Kd.V_below (Kd.V_elderB (vK HO0_0) gb287 (Nat.le_of_eq hg.symm)) hb);have BK287:=Aside0.mk (hbox);have GW287:=Aside0.mk ((by rw [hg];exact (below_size (bL1 HB GE286)) : w.heap.size ≤ gb287));have GE287:=Aside0.mk ((by rw [hg];exact (below_size (bL1 HB GE286)) : w.heap.size ≤ gb287));replace HB:=Aside0.mk (below_step (bL1 HB GE286) hb);have NB286_287:=Aside0.mk ((by rw [hg];exact Nat.ne_of_lt (blk_lt (bK BK286)) : gb286 ≠ gb287));have NB287_286:=Aside0.mk ((by rw [hg];exact Nat.ne_of_gt (blk_lt (bK BK286)) : gb287 ≠ gb286));replace BK286:=bB BK286 hb;clear hb hbox hg)|((with_reducible refine gate_dst (N:=6) rfl ?_);refine box_event ?hg (N:=6) ?hd (cs:=#[.int .i64 0, .int .i64 0, .string (⟨#[]⟩ : ByteArray), .int .i64 0, .slice none 0 0]) (t:=35) ?hr ?_;(case hd => rfl);(case hg => rfl);(case hr => first|(go_simp;done)|(go_simp;rfl));intro gb288 hg w12 hbox hb;replace HO0_0:=Aside0.mk (Kd.V_below (Kd.V_elderB (vK HO0_0) gb288 (Nat.le_of_eq hg.symm)) hb);have BK288:=Aside0.mk (hbox);have GW288:=Aside0.mk ((by rw [hg];exact (below_size (bL2 HB GE286 GE287)) : w.heap.size ≤ gb288));have GE288:=Aside0.mk ((by rw [hg];exact (below_size (bL2 HB GE286 GE287)) : w.heap.size ≤ gb288));replace HB:=Aside0.mk (below_step (bL2 HB GE286 GE287) hb);have NB286_288:=Aside0.mk ((by rw [hg];exact Nat.ne_of_lt (blk_lt (bK BK286)) : gb286 ≠ gb288));have NB288_286:=Aside0.mk ((by rw [hg];exact Nat.ne_of_gt (blk_lt (bK BK286)) : gb288 ≠ gb286));replace BK286:=bB BK286 hb;have NB287_288:=Aside0.mk ((by rw [hg];exact Nat.ne_of_lt (blk_lt (bK BK287)) : gb287 ≠ gb288));have NB288_287:=Aside0.mk ((by rw [hg];exact Nat.ne_of_gt (blk_lt (bK BK287)) : gb288 ≠ gb287));replace BK287:=bB BK287 hb;clear hb hbox hg;have hnb13:=NB286_287.out;have hnc13:=NB287_286.out;have hnb14:=NB286_288.out;have hnc14:=NB288_286.out;have hcz15_0 : w12.cell? ⟨gb286,0,none⟩ = some (.slice A0_0 l0_0.length c0_0):=(blk_cell BK286.out 0).trans rfl;have hfz15_0:=blk_frozen BK286.out 0;have hnb16:=NB287_288.out;have hnc16:=NB288_287.out;have hcz17_0 : w12.cell? ⟨gb287,0,none⟩ = some (.int .i64 a2_0):=(blk_cell BK287.out 0).trans rfl;have hcz17_1 : w12.cell? ⟨gb287,1,none⟩ = some (.int .i64 a2_1):=(blk_cell BK287.out 1).trans rfl;have hcz17_2 : w12.cell? ⟨gb287,2,none⟩ = some (.string a2_2):=(blk_cell BK287.out 2).trans rfl;have hcz17_3 : w12.cell? ⟨gb287,3,none⟩ = some (.int .i64 a2_3):=(blk_cell BK287.out 3).trans rfl;have hcz17_4 : w12.cell? ⟨gb287,4,none⟩ = some (.slice A2_4 l2_4.length c2_4):=(blk_cell BK287.out 4).trans rfl;have hfz17_0:=blk_frozen BK287.out 0;have hfz17_1:=blk_frozen BK287.out 1;have hfz17_2:=blk_frozen BK287.out 2;have hfz17_3:=blk_frozen BK287.out 3;have hfz17_4:=blk_frozen BK287.out 4)|((with_reducible refine gate_callee (f:=43) rfl ?_);refine goesL_ (some 14) rfl rfl Try.func43 (by kernel_rfl) rfl #[.agg #[.slice A0_0 l0_0.length c0_0], .int .i64 a1, .agg #[.int .i64 a2_0, .int .i64 a2_1, .string a2_2, .int .i64 a2_3, .slice A2_4 l2_4.length c2_4]] rfl aG ?_;(with_reducible refine (windlassref4_at.calls k _ _ l0_0 a1 a2_0 a2_1 a2_2 a2_3 _ _ l2_4 t289 true _ ?side1 ?side2 ?side3 ?side4 A4.out).mono ?_);(case side1 => repeat (first|exact (Kd.V_reads' HO0_0.out).2.2|(with_reducible refine Kd.C_alloc ?_ _)|(with_reducible refine Kd.C_drewN ?_ _)|(with_reducible refine Kd.C_drew ?_)));(case side2 => exact (Kd.V_reads' HO0_0.out).2.1);(case side3 => repeat (first|exact (Kd.C_below HR2_4.out HB.out)|(with_reducible refine Kd.C_alloc ?_ _)|(with_reducible refine Kd.C_drewN ?_ _)|(with_reducible refine Kd.C_drew ?_)));(case side4 => exact HC2_4.out);rintro e w18 ⟨rfl,hb⟩;refine ⟨_,rfl,?_⟩;replace HO0_0:=Aside0.mk (Kd.V_below (vK HO0_0) hb);replace BK286:=bB BK286 hb;replace BK287:=bB BK287 hb;replace BK288:=bB BK288 hb;replace HB:=Aside0.mk (below_step (bL3 HB GE286 GE287 GE288) hb);(try clear hb);(try clear hb2);(try clear hk);(try clear hi);have hcz19_0 : w18.cell? ⟨gb286,0,none⟩ = some (.slice A0_0 l0_0.length c0_0):=(blk_cell BK286.out 0).trans rfl;have hfz19_0:=blk_frozen BK286.out 0;have p291 : 0 ≤ (a1 : Int):=of_decide_eq_true aX;have q291 : a1 < (l0_0.length : Int):=of_decide_eq_true aX;obtain ⟨ad291,A291_0,c291_0,e291,hx291_0,hl291_0,hi291_0⟩:=at_L4 (Kd.V_reads' HO0_0.out).2.2 a1 p291 q291;cases e291;obtain ⟨ce291,hce291,hMe291,hcc291⟩:=Kd.V_get HO0_0.out [] a1 p291 (by first|exact q291|exact of_decide_eq_true aX|(have e_:=(Kd.V_reads' HO0_0.out).1;omega));obtain ⟨ua291_0,uc291_0,rfl,ul291_0,ge291_0⟩:=Kd.FK_slice_open hMe291;have hv291_0:=hcc291 0 _ rfl;rw [Nat.add_zero,show ((Kd.slice 82 k82)).sz = 1 from rfl,Nat.mul_one] at hv291_0;replace hv291_0:=Option.some.inj (hv291_0.symm.trans hx291_0);injection hv291_0 with hva_ hvn_ hvc_;rw [hva_] at ge291_0;rw [hvc_] at ul291_0;have HL291_0:=Aside0.mk (show Kd.V k82 82 _ w.heap.size _ _ (rd_L4 l0_0 a1) from Kd.V_mk ul291_0 ge291_0);clear hva_ hvn_ hvc_ ge291_0 ul291_0;clear hcc291 hce291;have HR291_0:=Aside0.mk hi291_0;have HC291_0:=Aside0.mk hl291_0;clear hi291_0 hl291_0;replace p291:=eq_true p291;replace q291:=eq_true q291;have p292 : 0 ≤ (t289 : Int):=of_decide_eq_true aX;have q292 : t289 < ((rd_L4 l0_0 a1).length : Int):=of_decide_eq_true aX;obtain ⟨ad292,A292_4,c292_4,A292_9,c292_9,e292,hx292_0,hx292_1,hx292_2,hx292_3,hx292_4,hx292_5,hx292_6,hx292_7,hx292_8,hx292_9,hl292_4,hi292_4,hl292_9,hi292_9⟩:=at_T82 (by repeat (first|(with_reducible exact HR291_0.out)|(with_reducible refine Kd.C_alloc ?_ _)|(with_reducible refine Kd.C_drewN ?_ _)|(with_reducible refine Kd.C_drew ?_)|exact HR291_0.out)) t289 p292 q292;cases e292;obtain ⟨ce292,hce292,hMe292,hcc292⟩:=Kd.V_get HL291_0.out z82 t289 p292 (by first|exact q292|exact of_decide_eq_true aX|(have e_:=(Kd.V_reads' HL291_0.out).1;omega));obtain ⟨ua292_4,uc292_4,ua292_9,uc292_9,rfl,ul292_4,ge292_4,ul292_9,ge292_9⟩:=k82_openF hMe292;have hv292_4:=hcc292 4 _ rfl;rw [add_field _ _ 4 (by omega)] at hv292_4;replace hv292_4:=Option.some.inj (hv292_4.symm.trans hx292_4);injection hv292_4 with hva_ hvn_ hvc_;rw [hva_] at ge292_4;rw [hvc_] at ul292_4;have HL292_4:=Aside0.mk (show Kd.V k35 35 _ w.heap.size _ _ ((rd_T82 (rd_L4 l0_0 a1) t289).f0.f4) from Kd.V_mk ul292_4 ge292_4);clear hva_ hvn_ hvc_ ge292_4 ul292_4;have hv292_9:=hcc292 9 _ rfl;rw [add_field _ _ 9 (by omega)] at hv292_9;replace hv292_9:=Option.some.inj (hv292_9.symm.trans hx292_9);injection hv292_9 with hva_ hvn_ hvc_;rw [hva_] at ge292_9;rw [hvc_] at ul292_9;have HL292_9:=Aside0.mk (show Kd.V k35 35 _ w.heap.size _ _ ((rd_T82 (rd_L4 l0_0 a1) t289).f1.f4) from Kd.V_mk ul292_9 ge292_9);clear hva_ hvn_ hvc_ ge292_9 ul292_9;clear hcc292 hce292;have HR292_4:=Aside0.mk hi292_4;have HC292_4:=Aside0.mk hl292_4;clear hi292_4 hl292_4;have HR292_9:=Aside0.mk hi292_9;have HC292_9:=Aside0.mk hl292_9;clear hi292_9 hl292_9;replace p292:=eq_true p292;replace q292:=eq_true q292;have hcz20_0 : w18.cell? ⟨gb288,0,none⟩ = some (.int .i64 0):=(blk_cell BK288.out 0).trans rfl;have hcz20_1 : w18.cell? ⟨gb288,1,none⟩ = some (.int .i64 0):=(blk_cell BK288.out 1).trans rfl;have hcz20_2 : w18.cell? ⟨gb288,2,none⟩ = some (.string (⟨#[]⟩ : ByteArray)):=(blk_cell BK288.out 2).trans rfl;have hcz20_3 : w18.cell? ⟨gb288,3,none⟩ = some (.int .i64 0):=(blk_cell BK288.out 3).trans rfl;have hcz20_4 : w18.cell? ⟨gb288,4,none⟩ = some (.slice none 0 0):=(blk_cell BK288.out 4).trans rfl;have hfz20_0:=blk_frozen BK288.out 0;have hfz20_1:=blk_frozen BK288.out 1;have hfz20_2:=blk_frozen BK288.out 2;have hfz20_3:=blk_frozen BK288.out 3;have hfz20_4:=blk_frozen BK288.out 4))
      refine bodyPost_ret (results_ct rfl _ _ gb288 35 #[.int .i64 ((rd_T82 (rd_L4 l0_0 a1) t289).f1.f0), .int .i64 ((rd_T82 (rd_L4 l0_0 a1) t289).f1.f1), .string ((rd_T82 (rd_L4 l0_0 a1) t289).f1.f2), .int .i64 ((rd_T82 (rd_L4 l0_0 a1) t289).f1.f3), .slice A292_9 ((rd_T82 (rd_L4 l0_0 a1) t289).f1.f4).length c292_9] (0,0) _ rfl (by (with_reducible repeat (first|refine blk_drewN ?_ _|refine blk_drew ?_|refine blk_alloc ?_ _));refine blk_put (cs:=#[.int .i64 ((rd_T82 (rd_L4 l0_0 a1) t289).f1.f0), .int .i64 ((rd_T82 (rd_L4 l0_0 a1) t289).f1.f1), .string ((rd_T82 (rd_L4 l0_0 a1) t289).f1.f2), .int .i64 ((rd_T82 (rd_L4 l0_0 a1) t289).f1.f3), .slice none 0 0]) ?_ 4 _ rfl;(with_reducible repeat (first|refine blk_drewN ?_ _|refine blk_drew ?_|refine blk_alloc ?_ _));refine blk_put (cs:=#[.int .i64 ((rd_T82 (rd_L4 l0_0 a1) t289).f1.f0), .int .i64 ((rd_T82 (rd_L4 l0_0 a1) t289).f1.f1), .string ((rd_T82 (rd_L4 l0_0 a1) t289).f1.f2), .int .i64 0, .slice none 0 0]) ?_ 3 _ rfl;(with_reducible repeat (first|refine blk_drewN ?_ _|refine blk_drew ?_|refine blk_alloc ?_ _));refine blk_put (cs:=#[.int .i64 ((rd_T82 (rd_L4 l0_0 a1) t289).f1.f0), .int .i64 ((rd_T82 (rd_L4 l0_0 a1) t289).f1.f1), .string (⟨#[]⟩ : ByteArray), .int .i64 0, .slice none 0 0]) ?_ 2 _ rfl;(with_reducible repeat (first|refine blk_drewN ?_ _|refine blk_drew ?_|refine blk_alloc ?_ _));refine blk_put (cs:=#[.int .i64 ((rd_T82 (rd_L4 l0_0 a1) t289).f1.f0), .int .i64 0, .string (⟨#[]⟩ : ByteArray), .int .i64 0, .slice none 0 0]) ?_ 1 _ rfl;(with_reducible repeat (first|refine blk_drewN ?_ _|refine blk_drew ?_|refine blk_alloc ?_ _));refine blk_put (cs:=#[.int .i64 0, .int .i64 0, .string (⟨#[]⟩ : ByteArray), .int .i64 0, .slice none 0 0]) ?_ 0 _ rfl;(with_reducible repeat (first|refine blk_drewN ?_ _|refine blk_drew ?_|refine blk_alloc ?_ _));exact BK288.out) Try.underlying35 rfl (by kernel_rfl)) rfl ?_
      exact ⟨_,by first|rfl|(simp [errW_none,errW_some] <;> rfl)|(simp [*,errW_none,errW_some] <;> rfl),by (with_reducible repeat (first|apply Kd.V_alloc|apply Kd.V_drewN|apply Kd.V_drew));exact Kd.V_mono (Kd.V_far (p:=⟨gb288,4,none⟩) (Kd.V_far (p:=⟨gb288,3,none⟩) (Kd.V_far (p:=⟨gb288,2,none⟩) (Kd.V_far (p:=⟨gb288,1,none⟩) (Kd.V_far (p:=⟨gb288,0,none⟩) (Kd.V_mono HL292_9.out (fun k_ hk => (⟨hk,hk.2⟩ : _ ∧ k_ ≠ gb288))) (fun _ hk => hk.2) (.int .i64 ((rd_T82 (rd_L4 l0_0 a1) t289).f1.f0))) (fun _ hk => hk.2) (.int .i64 ((rd_T82 (rd_L4 l0_0 a1) t289).f1.f1))) (fun _ hk => hk.2) (.string ((rd_T82 (rd_L4 l0_0 a1) t289).f1.f2))) (fun _ hk => hk.2) (.int .i64 ((rd_T82 (rd_L4 l0_0 a1) t289).f1.f3))) (fun _ hk => hk.2) (.slice A292_9 ((rd_T82 (rd_L4 l0_0 a1) t289).f1.f4).length c292_9)) (fun _ hk => hk.1.1.1.1),by repeat (first|(with_reducible first|exact HB.out|apply below_alloc|apply pw_below_drewN|apply below_drew1|refine below_set ?_ GE286.out|refine below_set ?_ GE287.out|refine below_set ?_ GE288.out)|exact HB.out)⟩
     rw [if_neg c9] at H
     exact absurd H (by simp)
    rw [if_neg c8] at H
    exact absurd H (by simp)
   rw [if_neg c7] at H
   exact absurd H (by simp)
  rw [if_neg c6] at H
  exact absurd H (by simp)
 replace c5:=Bool.eq_false_iff.mpr c5
 subst c5
 have H1 : (some (0,0,(⟨#[]⟩ : ByteArray),0,([] : List (S35)),false)) = some (r1,r2,r3,r4,r5,r6):=by rw [if_neg (show ¬ (false = true) by decide)] at H;exact H
 clear H
 have H:=H1
 clear H1
 simp only [Option.some.injEq,Prod.mk.injEq] at H
 obtain ⟨rfl,rfl,rfl,rfl,rfl,rfl⟩:=H
 go_enter Try.func21,Try.ntmps21
 go_wp2_with (first|((with_reducible refine gate_dst (N:=3) rfl ?_);refine box_event ?hg (N:=3) ?hd (cs:=#[.slice A0_0 l0_0.length c0_0]) (t:=27) ?hr ?_;(case hd => rfl);(case hg => rfl);(case hr => first|(go_simp;done)|(go_simp;rfl));intro gb286 hg w21 hbox hb;replace HO0_0:=Aside0.mk (Kd.V_below (Kd.V_elderB (vK HO0_0) gb286 (Nat.le_of_eq hg.symm)) hb);have BK286:=Aside0.mk (hbox);have GW286:=Aside0.mk ((by rw [hg];exact (below_size (bL0 HB)) : w.heap.size ≤ gb286));have GE286:=Aside0.mk ((by rw [hg];exact (below_size (bL0 HB)) : w.heap.size ≤ gb286));replace HB:=bS HB hb;clear hb hbox hg)|((with_reducible refine gate_dst (N:=5) rfl ?_);refine box_event ?hg (N:=5) ?hd (cs:=#[.int .i64 a2_0, .int .i64 a2_1, .string a2_2, .int .i64 a2_3, .slice A2_4 l2_4.length c2_4]) (t:=35) ?hr ?_;(case hd => rfl);(case hg => rfl);(case hr => first|(go_simp;done)|(go_simp;rfl));intro gb287 hg w22 hbox hb;replace HO0_0:=Aside0.mk (Kd.V_below (Kd.V_elderB (vK HO0_0) gb287 (Nat.le_of_eq hg.symm)) hb);have BK287:=Aside0.mk (hbox);have GW287:=Aside0.mk ((by rw [hg];exact (below_size (bL1 HB GE286)) : w.heap.size ≤ gb287));have GE287:=Aside0.mk ((by rw [hg];exact (below_size (bL1 HB GE286)) : w.heap.size ≤ gb287));replace HB:=Aside0.mk (below_step (bL1 HB GE286) hb);have NB286_287:=Aside0.mk ((by rw [hg];exact Nat.ne_of_lt (blk_lt (bK BK286)) : gb286 ≠ gb287));have NB287_286:=Aside0.mk ((by rw [hg];exact Nat.ne_of_gt (blk_lt (bK BK286)) : gb287 ≠ gb286));replace BK286:=bB BK286 hb;clear hb hbox hg)|((with_reducible refine gate_dst (N:=6) rfl ?_);refine box_event ?hg (N:=6) ?hd (cs:=#[.int .i64 0, .int .i64 0, .string (⟨#[]⟩ : ByteArray), .int .i64 0, .slice none 0 0]) (t:=35) ?hr ?_;(case hd => rfl);(case hg => rfl);(case hr => first|(go_simp;done)|(go_simp;rfl));intro gb288 hg w23 hbox hb;replace HO0_0:=Aside0.mk (Kd.V_below (Kd.V_elderB (vK HO0_0) gb288 (Nat.le_of_eq hg.symm)) hb);have BK288:=Aside0.mk (hbox);have GW288:=Aside0.mk ((by rw [hg];exact (below_size (bL2 HB GE286 GE287)) : w.heap.size ≤ gb288));have GE288:=Aside0.mk ((by rw [hg];exact (below_size (bL2 HB GE286 GE287)) : w.heap.size ≤ gb288));replace HB:=Aside0.mk (below_step (bL2 HB GE286 GE287) hb);have NB286_288:=Aside0.mk ((by rw [hg];exact Nat.ne_of_lt (blk_lt (bK BK286)) : gb286 ≠ gb288));have NB288_286:=Aside0.mk ((by rw [hg];exact Nat.ne_of_gt (blk_lt (bK BK286)) : gb288 ≠ gb286));replace BK286:=bB BK286 hb;have NB287_288:=Aside0.mk ((by rw [hg];exact Nat.ne_of_lt (blk_lt (bK BK287)) : gb287 ≠ gb288));have NB288_287:=Aside0.mk ((by rw [hg];exact Nat.ne_of_gt (blk_lt (bK BK287)) : gb288 ≠ gb287));replace BK287:=bB BK287 hb;clear hb hbox hg;have hnb24:=NB286_287.out;have hnc24:=NB287_286.out;have hnb25:=NB286_288.out;have hnc25:=NB288_286.out;have hcz26_0 : w23.cell? ⟨gb286,0,none⟩ = some (.slice A0_0 l0_0.length c0_0):=(blk_cell BK286.out 0).trans rfl;have hfz26_0:=blk_frozen BK286.out 0;have hnb27:=NB287_288.out;have hnc27:=NB288_287.out;have hcz28_0 : w23.cell? ⟨gb287,0,none⟩ = some (.int .i64 a2_0):=(blk_cell BK287.out 0).trans rfl;have hcz28_1 : w23.cell? ⟨gb287,1,none⟩ = some (.int .i64 a2_1):=(blk_cell BK287.out 1).trans rfl;have hcz28_2 : w23.cell? ⟨gb287,2,none⟩ = some (.string a2_2):=(blk_cell BK287.out 2).trans rfl;have hcz28_3 : w23.cell? ⟨gb287,3,none⟩ = some (.int .i64 a2_3):=(blk_cell BK287.out 3).trans rfl;have hcz28_4 : w23.cell? ⟨gb287,4,none⟩ = some (.slice A2_4 l2_4.length c2_4):=(blk_cell BK287.out 4).trans rfl;have hfz28_0:=blk_frozen BK287.out 0;have hfz28_1:=blk_frozen BK287.out 1;have hfz28_2:=blk_frozen BK287.out 2;have hfz28_3:=blk_frozen BK287.out 3;have hfz28_4:=blk_frozen BK287.out 4)|((with_reducible refine gate_callee (f:=43) rfl ?_);refine goesL_ (some 14) rfl rfl Try.func43 (by kernel_rfl) rfl #[.agg #[.slice A0_0 l0_0.length c0_0], .int .i64 a1, .agg #[.int .i64 a2_0, .int .i64 a2_1, .string a2_2, .int .i64 a2_3, .slice A2_4 l2_4.length c2_4]] rfl aG ?_;(with_reducible refine (windlassref4_at.calls k _ _ l0_0 a1 a2_0 a2_1 a2_2 a2_3 _ _ l2_4 t289 false _ ?side1 ?side2 ?side3 ?side4 A4.out).mono ?_);(case side1 => repeat (first|exact (Kd.V_reads' HO0_0.out).2.2|(with_reducible refine Kd.C_alloc ?_ _)|(with_reducible refine Kd.C_drewN ?_ _)|(with_reducible refine Kd.C_drew ?_)));(case side2 => exact (Kd.V_reads' HO0_0.out).2.1);(case side3 => repeat (first|exact (Kd.C_below HR2_4.out HB.out)|(with_reducible refine Kd.C_alloc ?_ _)|(with_reducible refine Kd.C_drewN ?_ _)|(with_reducible refine Kd.C_drew ?_)));(case side4 => exact HC2_4.out);rintro e w29 ⟨rfl,hb⟩;refine ⟨_,rfl,?_⟩;replace HO0_0:=Aside0.mk (Kd.V_below (vK HO0_0) hb);replace BK286:=bB BK286 hb;replace BK287:=bB BK287 hb;replace BK288:=bB BK288 hb;replace HB:=Aside0.mk (below_step (bL3 HB GE286 GE287 GE288) hb);(try clear hb);(try clear hb2);(try clear hk);(try clear hi);have hcz30_0 : w29.cell? ⟨gb288,0,none⟩ = some (.int .i64 0):=(blk_cell BK288.out 0).trans rfl;have hcz30_1 : w29.cell? ⟨gb288,1,none⟩ = some (.int .i64 0):=(blk_cell BK288.out 1).trans rfl;have hcz30_2 : w29.cell? ⟨gb288,2,none⟩ = some (.string (⟨#[]⟩ : ByteArray)):=(blk_cell BK288.out 2).trans rfl;have hcz30_3 : w29.cell? ⟨gb288,3,none⟩ = some (.int .i64 0):=(blk_cell BK288.out 3).trans rfl;have hcz30_4 : w29.cell? ⟨gb288,4,none⟩ = some (.slice none 0 0):=(blk_cell BK288.out 4).trans rfl;have hfz30_0:=blk_frozen BK288.out 0;have hfz30_1:=blk_frozen BK288.out 1;have hfz30_2:=blk_frozen BK288.out 2;have hfz30_3:=blk_frozen BK288.out 3;have hfz30_4:=blk_frozen BK288.out 4))
 refine bodyPost_ret (results_ct rfl _ _ gb288 35 #[.int .i64 0, .int .i64 0, .string (⟨#[]⟩ : ByteArray), .int .i64 0, .slice none 0 0] (0,0) _ rfl (by (with_reducible repeat (first|refine blk_drewN ?_ _|refine blk_drew ?_|refine blk_alloc ?_ _));refine blk_put (cs:=#[.int .i64 0, .int .i64 0, .string (⟨#[]⟩ : ByteArray), .int .i64 0, .slice none 0 0]) ?_ 4 _ rfl;(with_reducible repeat (first|refine blk_drewN ?_ _|refine blk_drew ?_|refine blk_alloc ?_ _));refine blk_put (cs:=#[.int .i64 0, .int .i64 0, .string (⟨#[]⟩ : ByteArray), .int .i64 0, .slice none 0 0]) ?_ 3 _ rfl;(with_reducible repeat (first|refine blk_drewN ?_ _|refine blk_drew ?_|refine blk_alloc ?_ _));refine blk_put (cs:=#[.int .i64 0, .int .i64 0, .string (⟨#[]⟩ : ByteArray), .int .i64 0, .slice none 0 0]) ?_ 2 _ rfl;(with_reducible repeat (first|refine blk_drewN ?_ _|refine blk_drew ?_|refine blk_alloc ?_ _));refine blk_put (cs:=#[.int .i64 0, .int .i64 0, .string (⟨#[]⟩ : ByteArray), .int .i64 0, .slice none 0 0]) ?_ 1 _ rfl;(with_reducible repeat (first|refine blk_drewN ?_ _|refine blk_drew ?_|refine blk_alloc ?_ _));refine blk_put (cs:=#[.int .i64 0, .int .i64 0, .string (⟨#[]⟩ : ByteArray), .int .i64 0, .slice none 0 0]) ?_ 0 _ rfl;(with_reducible repeat (first|refine blk_drewN ?_ _|refine blk_drew ?_|refine blk_alloc ?_ _));exact BK288.out) Try.underlying35 rfl (by kernel_rfl)) rfl ?_
 exact ⟨_,by first|rfl|(simp [errW_none,errW_some] <;> rfl)|(simp [*,errW_none,errW_some] <;> rfl),Kd.V_mono (ok:=fun _ => False) (Kd.R_V (base:=0) (by first|exact Kd.R_nil _ _ _ _ _|exact Kd.N_nil _ _ _ _ _|exact Kd.V_nil _ _ _ _ _|exact Kd.Q_nil _ _ _ _ _|exact Kd.S_nil _ _ _ _ _)) (fun k_ hk => hk.elim),by repeat (first|(with_reducible first|exact HB.out|apply below_alloc|apply pw_below_drewN|apply below_drew1|refine below_set ?_ GE286.out|refine below_set ?_ GE287.out|refine below_set ?_ GE288.out)|exact HB.out)⟩

end Go.Proofs.Ytnokieaebnmljaa.PAll
-- Laid by a program of this seat (wip/xprint.py over the kit's print).
namespace Go.Proofs.Ytnokieaebnmljaa.PAll
open Go.RowKit Go.Proofs.YtnokieaebnmljaaW.PrintWords Go.Proofs.YtnokieaebnmljaaW.PrintLast Go.Proofs.YtnokieaebnmljaaW.PrintMore
attribute [local go_sem] max2_int min2_int max_two min_two max_three min_three max_four min_four   -- for this text's walks alone
set_option linter.unusedVariables false
set_option linter.unusedSimpArgs false

/-! ### windlassref4_First: function 23 -/
def windlassref4_First.f (l0_0 : List (List (S82))) (a1 : Int) : Option (Int × Int × ByteArray × Int × (List (S35)) × Bool):=if a1 < 0 then (some (0,0,(⟨#[]⟩ : ByteArray),0,([] : List (S35)),false)) else (if a1 ≥ (l0_0.length : Int) then (some (0,0,(⟨#[]⟩ : ByteArray),0,([] : List (S35)),false)) else (if 0 ≤ a1 then (if a1 < (l0_0.length : Int) then (if ((rd_L4 l0_0 a1).length : Int) = 0 then (some (0,0,(⟨#[]⟩ : ByteArray),0,([] : List (S35)),false)) else (if 0 < ((rd_L4 l0_0 a1).length : Int) then (some ((rd_T82 (rd_L4 l0_0 a1) 0).f0.f0,(rd_T82 (rd_L4 l0_0 a1) 0).f0.f1,(rd_T82 (rd_L4 l0_0 a1) 0).f0.f2,(rd_T82 (rd_L4 l0_0 a1) 0).f0.f3,(rd_T82 (rd_L4 l0_0 a1) 0).f0.f4,true)) else (none))) else (none)) else (none)))
set_option maxHeartbeats 8000000 in
set_option maxRecDepth 100000 in
theorem windlassref4_First.calls (P0_0_ : Nat → Prop) (A0_0 : Option Addr) (c0_0 : Nat) (l0_0 : List (List (S82))) (a1 : Int) (r1 : Int) (r2 : Int) (r3 : ByteArray) (r4 : Int) (r5 : List (S35)) (r6 : Bool) (w : World) (hs0_0 : Kd.V (Kd.slice 82 k82) 41 w w.heap.size (fun k_ => P0_0_ k_) (.slice A0_0 l0_0.length c0_0) l0_0) (h : windlassref4_First.f l0_0 a1 = some (r1,r2,r3,r4,r5,r6)) :
  Calls Try.prog 23 #[.agg #[.slice A0_0 l0_0.length c0_0], .int .i64 a1] w fun e w' => ∃ v4_ : Value,e = .returned (.tuple #[.agg #[.int .i64 r1, .int .i64 r2, .string r3, .int .i64 r4,v4_], .bool r6]) ∧ Kd.V k35 35 w' w.heap.size (fun k_ => (P0_0_ k_ ∨ w.heap.size ≤ k_)) v4_ r5 ∧ Below w.heap.size w w':=by
 have hu27:=Try.underlying27
 have hu35:=Try.underlying35
 have HO0_0:=Aside0.mk (show Kd.V (Kd.slice 82 k82) 41 w w.heap.size (fun k_ => (P0_0_ k_ ∨ w.heap.size ≤ k_)) (.slice A0_0 l0_0.length c0_0) l0_0 from Kd.V_mono hs0_0 (fun k_ hk => .inl hk))
 have HB:=Aside0.mk (Below.refl w.heap.size w)
 have H : (if a1 < 0 then (some (0,0,(⟨#[]⟩ : ByteArray),0,([] : List (S35)),false)) else (if a1 ≥ (l0_0.length : Int) then (some (0,0,(⟨#[]⟩ : ByteArray),0,([] : List (S35)),false)) else (if 0 ≤ a1 then (if a1 < (l0_0.length : Int) then (if ((rd_L4 l0_0 a1).length : Int) = 0 then (some (0,0,(⟨#[]⟩ : ByteArray),0,([] : List (S35)),false)) else (if 0 < ((rd_L4 l0_0 a1).length : Int) then (some ((rd_T82 (rd_L4 l0_0 a1) 0).f0.f0,(rd_T82 (rd_L4 l0_0 a1) 0).f0.f1,(rd_T82 (rd_L4 l0_0 a1) 0).f0.f2,(rd_T82 (rd_L4 l0_0 a1) 0).f0.f3,(rd_T82 (rd_L4 l0_0 a1) 0).f0.f4,true)) else (none))) else (none)) else (none)))) = some (r1,r2,r3,r4,r5,r6):=h
 clear h
 by_cases c3 : a1 < 0
 ·rw [if_pos c3] at H
  have c3b0 : decide (a1 < 0) = true:=decide_eq_true c3
  clear c3
  simp only [Option.some.injEq,Prod.mk.injEq] at H
  obtain ⟨rfl,rfl,rfl,rfl,rfl,rfl⟩:=H
  go_enter Try.func23,Try.ntmps23
  go_wp2_with (first|((with_reducible refine gate_dst (N:=2) rfl ?_);(try (refine gate_guard (by rfl) ?_;dsimp only));refine box_event ?hg (N:=2) ?hd (cs:=#[.slice A0_0 l0_0.length c0_0]) (t:=27) ?hr ?_;(case hd => rfl);(case hg => rfl);(case hr => first|(go_simp;done)|(go_simp;rfl));intro gb304 hg w4 hbox hb;replace HO0_0:=Aside0.mk (Kd.V_below (Kd.V_elderB (vK HO0_0) gb304 (Nat.le_of_eq hg.symm)) hb);have BK304:=Aside0.mk (hbox);have GW304:=Aside0.mk ((by rw [hg];exact (below_size (bL0 HB)) : w.heap.size ≤ gb304));have GE304:=Aside0.mk ((by rw [hg];exact (below_size (bL0 HB)) : w.heap.size ≤ gb304));replace HB:=bS HB hb;clear hb hbox hg)|((with_reducible refine gate_dst (N:=4) rfl ?_);(try (refine gate_guard (by rfl) ?_;dsimp only));refine box_event ?hg (N:=4) ?hd (cs:=#[.int .i64 0, .int .i64 0, .string (⟨#[]⟩ : ByteArray), .int .i64 0, .slice none 0 0]) (t:=35) ?hr ?_;(case hd => rfl);(case hg => rfl);(case hr => first|(go_simp;done)|(go_simp;rfl));intro gb305 hg w5 hbox hb;replace HO0_0:=Aside0.mk (Kd.V_below (Kd.V_elderB (vK HO0_0) gb305 (Nat.le_of_eq hg.symm)) hb);have BK305:=Aside0.mk (hbox);have GW305:=Aside0.mk ((by rw [hg];exact (below_size (bL1 HB GE304)) : w.heap.size ≤ gb305));have GE305:=Aside0.mk ((by rw [hg];exact (below_size (bL1 HB GE304)) : w.heap.size ≤ gb305));replace HB:=Aside0.mk (below_step (bL1 HB GE304) hb);have NB304_305:=Aside0.mk ((by rw [hg];exact Nat.ne_of_lt (blk_lt (bK BK304)) : gb304 ≠ gb305));have NB305_304:=Aside0.mk ((by rw [hg];exact Nat.ne_of_gt (blk_lt (bK BK304)) : gb305 ≠ gb304));replace BK304:=bB BK304 hb;clear hb hbox hg;have hnb6:=NB305_304.out;have hnc6:=NB304_305.out;have hcz7_0 : w5.cell? ⟨gb305,0,none⟩ = some (.int .i64 0):=(blk_cell BK305.out 0).trans rfl;have hcz7_1 : w5.cell? ⟨gb305,1,none⟩ = some (.int .i64 0):=(blk_cell BK305.out 1).trans rfl;have hcz7_2 : w5.cell? ⟨gb305,2,none⟩ = some (.string (⟨#[]⟩ : ByteArray)):=(blk_cell BK305.out 2).trans rfl;have hcz7_3 : w5.cell? ⟨gb305,3,none⟩ = some (.int .i64 0):=(blk_cell BK305.out 3).trans rfl;have hcz7_4 : w5.cell? ⟨gb305,4,none⟩ = some (.slice none 0 0):=(blk_cell BK305.out 4).trans rfl;have hfz7_0:=blk_frozen BK305.out 0;have hfz7_1:=blk_frozen BK305.out 1;have hfz7_2:=blk_frozen BK305.out 2;have hfz7_3:=blk_frozen BK305.out 3;have hfz7_4:=blk_frozen BK305.out 4))
  refine bodyPost_ret (results_ct rfl _ _ gb305 35 #[.int .i64 0, .int .i64 0, .string (⟨#[]⟩ : ByteArray), .int .i64 0, .slice none 0 0] (0,0) _ rfl (by (with_reducible repeat (first|refine blk_drewN ?_ _|refine blk_drew ?_|refine blk_alloc ?_ _));refine blk_put (cs:=#[.int .i64 0, .int .i64 0, .string (⟨#[]⟩ : ByteArray), .int .i64 0, .slice none 0 0]) ?_ 4 _ rfl;(with_reducible repeat (first|refine blk_drewN ?_ _|refine blk_drew ?_|refine blk_alloc ?_ _));refine blk_put (cs:=#[.int .i64 0, .int .i64 0, .string (⟨#[]⟩ : ByteArray), .int .i64 0, .slice none 0 0]) ?_ 3 _ rfl;(with_reducible repeat (first|refine blk_drewN ?_ _|refine blk_drew ?_|refine blk_alloc ?_ _));refine blk_put (cs:=#[.int .i64 0, .int .i64 0, .string (⟨#[]⟩ : ByteArray), .int .i64 0, .slice none 0 0]) ?_ 2 _ rfl;(with_reducible repeat (first|refine blk_drewN ?_ _|refine blk_drew ?_|refine blk_alloc ?_ _));refine blk_put (cs:=#[.int .i64 0, .int .i64 0, .string (⟨#[]⟩ : ByteArray), .int .i64 0, .slice none 0 0]) ?_ 1 _ rfl;(with_reducible repeat (first|refine blk_drewN ?_ _|refine blk_drew ?_|refine blk_alloc ?_ _));refine blk_put (cs:=#[.int .i64 0, .int .i64 0, .string (⟨#[]⟩ : ByteArray), .int .i64 0, .slice none 0 0]) ?_ 0 _ rfl;(with_reducible repeat (first|refine blk_drewN ?_ _|refine blk_drew ?_|refine blk_alloc ?_ _));exact BK305.out) Try.underlying35 rfl (by kernel_rfl)) rfl ?_
  exact ⟨_,by first|rfl|(simp [errW_none,errW_some] <;> rfl)|(simp [*,errW_none,errW_some] <;> rfl),Kd.V_mono (ok:=fun _ => False) (Kd.R_V (base:=0) (by first|exact Kd.R_nil _ _ _ _ _|exact Kd.N_nil _ _ _ _ _|exact Kd.V_nil _ _ _ _ _|exact Kd.Q_nil _ _ _ _ _|exact Kd.S_nil _ _ _ _ _)) (fun k_ hk => hk.elim),by repeat (first|(with_reducible first|exact HB.out|apply below_alloc|apply pw_below_drewN|apply below_drew1|refine below_set ?_ GE304.out|refine below_set ?_ GE305.out)|exact HB.out)⟩
 rw [if_neg c3] at H
 have c3b0 : decide (a1 < 0) = false:=decide_eq_false c3
 clear c3
 by_cases c8 : a1 ≥ (l0_0.length : Int)
 ·rw [if_pos c8] at H
  have c8b0 : decide ((l0_0.length : Int) ≤ a1) = true:=decide_eq_true c8
  clear c8
  simp only [Option.some.injEq,Prod.mk.injEq] at H
  obtain ⟨rfl,rfl,rfl,rfl,rfl,rfl⟩:=H
  go_enter Try.func23,Try.ntmps23
  go_wp2_with (first|((with_reducible refine gate_dst (N:=2) rfl ?_);(try (refine gate_guard (by rfl) ?_;dsimp only));refine box_event ?hg (N:=2) ?hd (cs:=#[.slice A0_0 l0_0.length c0_0]) (t:=27) ?hr ?_;(case hd => rfl);(case hg => rfl);(case hr => first|(go_simp;done)|(go_simp;rfl));intro gb304 hg w9 hbox hb;replace HO0_0:=Aside0.mk (Kd.V_below (Kd.V_elderB (vK HO0_0) gb304 (Nat.le_of_eq hg.symm)) hb);have BK304:=Aside0.mk (hbox);have GW304:=Aside0.mk ((by rw [hg];exact (below_size (bL0 HB)) : w.heap.size ≤ gb304));have GE304:=Aside0.mk ((by rw [hg];exact (below_size (bL0 HB)) : w.heap.size ≤ gb304));replace HB:=bS HB hb;clear hb hbox hg)|((with_reducible refine gate_dst (N:=4) rfl ?_);(try (refine gate_guard (by rfl) ?_;dsimp only));refine box_event ?hg (N:=4) ?hd (cs:=#[.int .i64 0, .int .i64 0, .string (⟨#[]⟩ : ByteArray), .int .i64 0, .slice none 0 0]) (t:=35) ?hr ?_;(case hd => rfl);(case hg => rfl);(case hr => first|(go_simp;done)|(go_simp;rfl));intro gb305 hg w10 hbox hb;replace HO0_0:=Aside0.mk (Kd.V_below (Kd.V_elderB (vK HO0_0) gb305 (Nat.le_of_eq hg.symm)) hb);have BK305:=Aside0.mk (hbox);have GW305:=Aside0.mk ((by rw [hg];exact (below_size (bL1 HB GE304)) : w.heap.size ≤ gb305));have GE305:=Aside0.mk ((by rw [hg];exact (below_size (bL1 HB GE304)) : w.heap.size ≤ gb305));replace HB:=Aside0.mk (below_step (bL1 HB GE304) hb);have NB304_305:=Aside0.mk ((by rw [hg];exact Nat.ne_of_lt (blk_lt (bK BK304)) : gb304 ≠ gb305));have NB305_304:=Aside0.mk ((by rw [hg];exact Nat.ne_of_gt (blk_lt (bK BK304)) : gb305 ≠ gb304));replace BK304:=bB BK304 hb;clear hb hbox hg;have hnb11:=NB304_305.out;have hnc11:=NB305_304.out;have hcz12_0 : w10.cell? ⟨gb304,0,none⟩ = some (.slice A0_0 l0_0.length c0_0):=(blk_cell BK304.out 0).trans rfl;have hfz12_0:=blk_frozen BK304.out 0;have hcz13_0 : w10.cell? ⟨gb305,0,none⟩ = some (.int .i64 0):=(blk_cell BK305.out 0).trans rfl;have hcz13_1 : w10.cell? ⟨gb305,1,none⟩ = some (.int .i64 0):=(blk_cell BK305.out 1).trans rfl;have hcz13_2 : w10.cell? ⟨gb305,2,none⟩ = some (.string (⟨#[]⟩ : ByteArray)):=(blk_cell BK305.out 2).trans rfl;have hcz13_3 : w10.cell? ⟨gb305,3,none⟩ = some (.int .i64 0):=(blk_cell BK305.out 3).trans rfl;have hcz13_4 : w10.cell? ⟨gb305,4,none⟩ = some (.slice none 0 0):=(blk_cell BK305.out 4).trans rfl;have hfz13_0:=blk_frozen BK305.out 0;have hfz13_1:=blk_frozen BK305.out 1;have hfz13_2:=blk_frozen BK305.out 2;have hfz13_3:=blk_frozen BK305.out 3;have hfz13_4:=blk_frozen BK305.out 4))
  refine bodyPost_ret (results_ct rfl _ _ gb305 35 #[.int .i64 0, .int .i64 0, .string (⟨#[]⟩ : ByteArray), .int .i64 0, .slice none 0 0] (0,0) _ rfl (by (with_reducible repeat (first|refine blk_drewN ?_ _|refine blk_drew ?_|refine blk_alloc ?_ _));refine blk_put (cs:=#[.int .i64 0, .int .i64 0, .string (⟨#[]⟩ : ByteArray), .int .i64 0, .slice none 0 0]) ?_ 4 _ rfl;(with_reducible repeat (first|refine blk_drewN ?_ _|refine blk_drew ?_|refine blk_alloc ?_ _));refine blk_put (cs:=#[.int .i64 0, .int .i64 0, .string (⟨#[]⟩ : ByteArray), .int .i64 0, .slice none 0 0]) ?_ 3 _ rfl;(with_reducible repeat (first|refine blk_drewN ?_ _|refine blk_drew ?_|refine blk_alloc ?_ _));refine blk_put (cs:=#[.int .i64 0, .int .i64 0, .string (⟨#[]⟩ : ByteArray), .int .i64 0, .slice none 0 0]) ?_ 2 _ rfl;(with_reducible repeat (first|refine blk_drewN ?_ _|refine blk_drew ?_|refine blk_alloc ?_ _));refine blk_put (cs:=#[.int .i64 0, .int .i64 0, .string (⟨#[]⟩ : ByteArray), .int .i64 0, .slice none 0 0]) ?_ 1 _ rfl;(with_reducible repeat (first|refine blk_drewN ?_ _|refine blk_drew ?_|refine blk_alloc ?_ _));refine blk_put (cs:=#[.int .i64 0, .int .i64 0, .string (⟨#[]⟩ : ByteArray), .int .i64 0, .slice none 0 0]) ?_ 0 _ rfl;(with_reducible repeat (first|refine blk_drewN ?_ _|refine blk_drew ?_|refine blk_alloc ?_ _));exact BK305.out) Try.underlying35 rfl (by kernel_rfl)) rfl ?_
  exact ⟨_,by first|rfl|(simp [errW_none,errW_some] <;> rfl)|(simp [*,errW_none,errW_some] <;> rfl),Kd.V_mono (ok:=fun _ => False) (Kd.R_V (base:=0) (by first|exact Kd.R_nil _ _ _ _ _|exact Kd.N_nil _ _ _ _ _|exact Kd.V_nil _ _ _ _ _|exact Kd.Q_nil _ _ _ _ _|exact Kd.S_nil _ _ _ _ _)) (fun k_ hk => hk.elim),by repeat (first|(with_reducible first|exact HB.out|apply below_alloc|apply pw_below_drewN|apply below_drew1|refine below_set ?_ GE304.out|refine below_set ?_ GE305.out)|exact HB.out)⟩
 rw [if_neg c8] at H
 have c8b0 : decide ((l0_0.length : Int) ≤ a1) = false:=decide_eq_false c8
 clear c8
 by_cases c14 : 0 ≤ a1
 ·rw [if_pos c14] at H
  have c14b0 : decide (0 ≤ a1) = true:=decide_eq_true c14
  clear c14
  by_cases c15 : a1 < (l0_0.length : Int)
  ·rw [if_pos c15] at H
   have c15b0 : decide (a1 < (l0_0.length : Int)) = true:=decide_eq_true c15
   clear c15
   by_cases c16 : ((rd_L4 l0_0 a1).length : Int) = 0
   ·rw [if_pos c16] at H
    have c16b0 : (((rd_L4 l0_0 a1).length : Int) == 0) = true:=beq_iff_eq.mpr c16
    have c16b1 : (((rd_L4 l0_0 a1).length : Int) != 0) = false:=bne_eq_false_iff_eq.mpr c16
    clear c16
    simp only [Option.some.injEq,Prod.mk.injEq] at H
    obtain ⟨rfl,rfl,rfl,rfl,rfl,rfl⟩:=H
    go_enter Try.func23,Try.ntmps23
    go_wp2_with (first|((with_reducible refine gate_dst (N:=2) rfl ?_);(try (refine gate_guard (by rfl) ?_;dsimp only));refine box_event ?hg (N:=2) ?hd (cs:=#[.slice A0_0 l0_0.length c0_0]) (t:=27) ?hr ?_;(case hd => rfl);(case hg => rfl);(case hr => first|(go_simp;done)|(go_simp;rfl));intro gb304 hg w17 hbox hb;replace HO0_0:=Aside0.mk (Kd.V_below (Kd.V_elderB (vK HO0_0) gb304 (Nat.le_of_eq hg.symm)) hb);have BK304:=Aside0.mk (hbox);have GW304:=Aside0.mk ((by rw [hg];exact (below_size (bL0 HB)) : w.heap.size ≤ gb304));have GE304:=Aside0.mk ((by rw [hg];exact (below_size (bL0 HB)) : w.heap.size ≤ gb304));replace HB:=bS HB hb;clear hb hbox hg)|((with_reducible refine gate_dst (N:=4) rfl ?_);(try (refine gate_guard (by rfl) ?_;dsimp only));refine box_event ?hg (N:=4) ?hd (cs:=#[.int .i64 0, .int .i64 0, .string (⟨#[]⟩ : ByteArray), .int .i64 0, .slice none 0 0]) (t:=35) ?hr ?_;(case hd => rfl);(case hg => rfl);(case hr => first|(go_simp;done)|(go_simp;rfl));intro gb305 hg w18 hbox hb;replace HO0_0:=Aside0.mk (Kd.V_below (Kd.V_elderB (vK HO0_0) gb305 (Nat.le_of_eq hg.symm)) hb);have BK305:=Aside0.mk (hbox);have GW305:=Aside0.mk ((by rw [hg];exact (below_size (bL1 HB GE304)) : w.heap.size ≤ gb305));have GE305:=Aside0.mk ((by rw [hg];exact (below_size (bL1 HB GE304)) : w.heap.size ≤ gb305));replace HB:=Aside0.mk (below_step (bL1 HB GE304) hb);have NB304_305:=Aside0.mk ((by rw [hg];exact Nat.ne_of_lt (blk_lt (bK BK304)) : gb304 ≠ gb305));have NB305_304:=Aside0.mk ((by rw [hg];exact Nat.ne_of_gt (blk_lt (bK BK304)) : gb305 ≠ gb304));replace BK304:=bB BK304 hb;clear hb hbox hg;have hnb19:=NB304_305.out;have hnc19:=NB305_304.out;have hcz20_0 : w18.cell? ⟨gb304,0,none⟩ = some (.slice A0_0 l0_0.length c0_0):=(blk_cell BK304.out 0).trans rfl;have hfz20_0:=blk_frozen BK304.out 0;have p306 : 0 ≤ (a1 : Int):=of_decide_eq_true aX;have q306 : a1 < (l0_0.length : Int):=of_decide_eq_true aX;obtain ⟨ad306,A306_0,c306_0,e306,hx306_0,hl306_0,hi306_0⟩:=at_L4 (Kd.V_reads' HO0_0.out).2.2 a1 p306 q306;cases e306;obtain ⟨ce306,hce306,hMe306,hcc306⟩:=Kd.V_get HO0_0.out [] a1 p306 (by first|exact q306|exact of_decide_eq_true aX|(have e_:=(Kd.V_reads' HO0_0.out).1;omega));obtain ⟨ua306_0,uc306_0,rfl,ul306_0,ge306_0⟩:=Kd.FK_slice_open hMe306;have hv306_0:=hcc306 0 _ rfl;rw [Nat.add_zero,show ((Kd.slice 82 k82)).sz = 1 from rfl,Nat.mul_one] at hv306_0;replace hv306_0:=Option.some.inj (hv306_0.symm.trans hx306_0);injection hv306_0 with hva_ hvn_ hvc_;rw [hva_] at ge306_0;rw [hvc_] at ul306_0;have HL306_0:=Aside0.mk (show Kd.V k82 82 _ w.heap.size _ _ (rd_L4 l0_0 a1) from Kd.V_mk ul306_0 ge306_0);clear hva_ hvn_ hvc_ ge306_0 ul306_0;clear hcc306 hce306;have HR306_0:=Aside0.mk hi306_0;have HC306_0:=Aside0.mk hl306_0;clear hi306_0 hl306_0;replace p306:=eq_true p306;replace q306:=eq_true q306;have hcz21_0 : w18.cell? ⟨gb305,0,none⟩ = some (.int .i64 0):=(blk_cell BK305.out 0).trans rfl;have hcz21_1 : w18.cell? ⟨gb305,1,none⟩ = some (.int .i64 0):=(blk_cell BK305.out 1).trans rfl;have hcz21_2 : w18.cell? ⟨gb305,2,none⟩ = some (.string (⟨#[]⟩ : ByteArray)):=(blk_cell BK305.out 2).trans rfl;have hcz21_3 : w18.cell? ⟨gb305,3,none⟩ = some (.int .i64 0):=(blk_cell BK305.out 3).trans rfl;have hcz21_4 : w18.cell? ⟨gb305,4,none⟩ = some (.slice none 0 0):=(blk_cell BK305.out 4).trans rfl;have hfz21_0:=blk_frozen BK305.out 0;have hfz21_1:=blk_frozen BK305.out 1;have hfz21_2:=blk_frozen BK305.out 2;have hfz21_3:=blk_frozen BK305.out 3;have hfz21_4:=blk_frozen BK305.out 4))
    refine bodyPost_ret (results_ct rfl _ _ gb305 35 #[.int .i64 0, .int .i64 0, .string (⟨#[]⟩ : ByteArray), .int .i64 0, .slice none 0 0] (0,0) _ rfl (by (with_reducible repeat (first|refine blk_drewN ?_ _|refine blk_drew ?_|refine blk_alloc ?_ _));refine blk_put (cs:=#[.int .i64 0, .int .i64 0, .string (⟨#[]⟩ : ByteArray), .int .i64 0, .slice none 0 0]) ?_ 4 _ rfl;(with_reducible repeat (first|refine blk_drewN ?_ _|refine blk_drew ?_|refine blk_alloc ?_ _));refine blk_put (cs:=#[.int .i64 0, .int .i64 0, .string (⟨#[]⟩ : ByteArray), .int .i64 0, .slice none 0 0]) ?_ 3 _ rfl;(with_reducible repeat (first|refine blk_drewN ?_ _|refine blk_drew ?_|refine blk_alloc ?_ _));refine blk_put (cs:=#[.int .i64 0, .int .i64 0, .string (⟨#[]⟩ : ByteArray), .int .i64 0, .slice none 0 0]) ?_ 2 _ rfl;(with_reducible repeat (first|refine blk_drewN ?_ _|refine blk_drew ?_|refine blk_alloc ?_ _));refine blk_put (cs:=#[.int .i64 0, .int .i64 0, .string (⟨#[]⟩ : ByteArray), .int .i64 0, .slice none 0 0]) ?_ 1 _ rfl;(with_reducible repeat (first|refine blk_drewN ?_ _|refine blk_drew ?_|refine blk_alloc ?_ _));refine blk_put (cs:=#[.int .i64 0, .int .i64 0, .string (⟨#[]⟩ : ByteArray), .int .i64 0, .slice none 0 0]) ?_ 0 _ rfl;(with_reducible repeat (first|refine blk_drewN ?_ _|refine blk_drew ?_|refine blk_alloc ?_ _));exact BK305.out) Try.underlying35 rfl (by kernel_rfl)) rfl ?_
    exact ⟨_,by first|rfl|(simp [errW_none,errW_some] <;> rfl)|(simp [*,errW_none,errW_some] <;> rfl),Kd.V_mono (ok:=fun _ => False) (Kd.R_V (base:=0) (by first|exact Kd.R_nil _ _ _ _ _|exact Kd.N_nil _ _ _ _ _|exact Kd.V_nil _ _ _ _ _|exact Kd.Q_nil _ _ _ _ _|exact Kd.S_nil _ _ _ _ _)) (fun k_ hk => hk.elim),by repeat (first|(with_reducible first|exact HB.out|apply below_alloc|apply pw_below_drewN|apply below_drew1|refine below_set ?_ GE304.out|refine below_set ?_ GE305.out)|exact HB.out)⟩
   rw [if_neg c16] at H
   have c16b0 : (((rd_L4 l0_0 a1).length : Int) == 0) = false:=beq_eq_false_iff_ne.mpr c16
   have c16b1 : (((rd_L4 l0_0 a1).length : Int) != 0) = true:=bne_iff_ne.mpr c16
   have c16b2 : ¬ ((rd_L4 l0_0 a1) = []):=fun h_ => c16 (by rw [h_];rfl)
   by_cases c22 : 0 < ((rd_L4 l0_0 a1).length : Int)
   ·rw [if_pos c22] at H
    have c22b0 : decide (0 < ((rd_L4 l0_0 a1).length : Int)) = true:=decide_eq_true c22
    have c22b1 : decide (0 < (rd_L4 l0_0 a1).length) = true:=decide_eq_true (by omega)
    clear c22
    simp only [Option.some.injEq,Prod.mk.injEq] at H
    obtain ⟨rfl,rfl,rfl,rfl,rfl,rfl⟩:=H
    go_enter Try.func23,Try.ntmps23
    go_wp2_with (first|((with_reducible refine gate_dst (N:=2) rfl ?_);(try (refine gate_guard (by rfl) ?_;dsimp only));refine box_event ?hg (N:=2) ?hd (cs:=#[.slice A0_0 l0_0.length c0_0]) (t:=27) ?hr ?_;(case hd => rfl);(case hg => rfl);(case hr => first|(go_simp;done)|(go_simp;rfl));intro gb304 hg w23 hbox hb;replace HO0_0:=Aside0.mk (Kd.V_below (Kd.V_elderB (vK HO0_0) gb304 (Nat.le_of_eq hg.symm)) hb);have BK304:=Aside0.mk (hbox);have GW304:=Aside0.mk ((by rw [hg];exact (below_size (bL0 HB)) : w.heap.size ≤ gb304));have GE304:=Aside0.mk ((by rw [hg];exact (below_size (bL0 HB)) : w.heap.size ≤ gb304));replace HB:=bS HB hb;clear hb hbox hg)|((with_reducible refine gate_dst (N:=4) rfl ?_);(try (refine gate_guard (by rfl) ?_;dsimp only));refine box_event ?hg (N:=4) ?hd (cs:=#[.int .i64 0, .int .i64 0, .string (⟨#[]⟩ : ByteArray), .int .i64 0, .slice none 0 0]) (t:=35) ?hr ?_;(case hd => rfl);(case hg => rfl);(case hr => first|(go_simp;done)|(go_simp;rfl));intro gb305 hg w24 hbox hb;replace HO0_0:=Aside0.mk (Kd.V_below (Kd.V_elderB (vK HO0_0) gb305 (Nat.le_of_eq hg.symm)) hb);have BK305:=Aside0.mk (hbox);have GW305:=Aside0.mk ((by rw [hg];exact (below_size (bL1 HB GE304)) : w.heap.size ≤ gb305));have GE305:=Aside0.mk ((by rw [hg];exact (below_size (bL1 HB GE304)) : w.heap.size ≤ gb305));replace HB:=Aside0.mk (below_step (bL1 HB GE304) hb);have NB304_305:=Aside0.mk ((by rw [hg];exact Nat.ne_of_lt (blk_lt (bK BK304)) : gb304 ≠ gb305));have NB305_304:=Aside0.mk ((by rw [hg];exact Nat.ne_of_gt (blk_lt (bK BK304)) : gb305 ≠ gb304));replace BK304:=bB BK304 hb;clear hb hbox hg;have hnb25:=NB304_305.out;have hnc25:=NB305_304.out;have hcz26_0 : w24.cell? ⟨gb304,0,none⟩ = some (.slice A0_0 l0_0.length c0_0):=(blk_cell BK304.out 0).trans rfl;have hfz26_0:=blk_frozen BK304.out 0;have p306 : 0 ≤ (a1 : Int):=of_decide_eq_true aX;have q306 : a1 < (l0_0.length : Int):=of_decide_eq_true aX;obtain ⟨ad306,A306_0,c306_0,e306,hx306_0,hl306_0,hi306_0⟩:=at_L4 (Kd.V_reads' HO0_0.out).2.2 a1 p306 q306;cases e306;obtain ⟨ce306,hce306,hMe306,hcc306⟩:=Kd.V_get HO0_0.out [] a1 p306 (by first|exact q306|exact of_decide_eq_true aX|(have e_:=(Kd.V_reads' HO0_0.out).1;omega));obtain ⟨ua306_0,uc306_0,rfl,ul306_0,ge306_0⟩:=Kd.FK_slice_open hMe306;have hv306_0:=hcc306 0 _ rfl;rw [Nat.add_zero,show ((Kd.slice 82 k82)).sz = 1 from rfl,Nat.mul_one] at hv306_0;replace hv306_0:=Option.some.inj (hv306_0.symm.trans hx306_0);injection hv306_0 with hva_ hvn_ hvc_;rw [hva_] at ge306_0;rw [hvc_] at ul306_0;have HL306_0:=Aside0.mk (show Kd.V k82 82 _ w.heap.size _ _ (rd_L4 l0_0 a1) from Kd.V_mk ul306_0 ge306_0);clear hva_ hvn_ hvc_ ge306_0 ul306_0;clear hcc306 hce306;have HR306_0:=Aside0.mk hi306_0;have HC306_0:=Aside0.mk hl306_0;clear hi306_0 hl306_0;replace p306:=eq_true p306;replace q306:=eq_true q306;have p307 : 0 ≤ (a1 : Int):=of_decide_eq_true aX;have q307 : a1 < (l0_0.length : Int):=of_decide_eq_true aX;obtain ⟨ad307,A307_0,c307_0,e307,hx307_0,hl307_0,hi307_0⟩:=at_L4 (Kd.V_reads' HO0_0.out).2.2 a1 p307 q307;obtain rfl : ad306 = ad307:=(by injection e307);obtain ⟨ce307,hce307,hMe307,hcc307⟩:=Kd.V_get HO0_0.out [] a1 p307 (by first|exact q307|exact of_decide_eq_true aX|(have e_:=(Kd.V_reads' HO0_0.out).1;omega));obtain ⟨ua307_0,uc307_0,rfl,ul307_0,ge307_0⟩:=Kd.FK_slice_open hMe307;have hv307_0:=hcc307 0 _ rfl;rw [Nat.add_zero,show ((Kd.slice 82 k82)).sz = 1 from rfl,Nat.mul_one] at hv307_0;replace hv307_0:=Option.some.inj (hv307_0.symm.trans hx307_0);injection hv307_0 with hva_ hvn_ hvc_;rw [hva_] at ge307_0;rw [hvc_] at ul307_0;have HL307_0:=Aside0.mk (show Kd.V k82 82 _ w.heap.size _ _ (rd_L4 l0_0 a1) from Kd.V_mk ul307_0 ge307_0);clear hva_ hvn_ hvc_ ge307_0 ul307_0;clear hcc307 hce307;have HR307_0:=Aside0.mk hi307_0;have HC307_0:=Aside0.mk hl307_0;clear hi307_0 hl307_0;replace p307:=eq_true p307;replace q307:=eq_true q307;have ea_:=Option.some.inj (hx306_0.symm.trans hx307_0);injection ea_ with ea_ en_ ec_;subst ea_;subst ec_;clear en_;have p308 : 0 ≤ (0 : Int):=(by omega);have q308 : 0 < ((rd_L4 l0_0 a1).length : Int):=of_decide_eq_true aX;obtain ⟨ad308,A308_4,c308_4,A308_9,c308_9,e308,hx308_0,hx308_1,hx308_2,hx308_3,hx308_4,hx308_5,hx308_6,hx308_7,hx308_8,hx308_9,hl308_4,hi308_4,hl308_9,hi308_9⟩:=at_T82 (by repeat (first|(with_reducible exact HR307_0.out)|(with_reducible refine Kd.C_alloc ?_ _)|(with_reducible refine Kd.C_drewN ?_ _)|(with_reducible refine Kd.C_drew ?_)|exact HR307_0.out)) 0 p308 q308;cases e308;obtain ⟨ce308,hce308,hMe308,hcc308⟩:=Kd.V_get HL307_0.out z82 0 p308 (by first|exact q308|exact of_decide_eq_true aX|(have e_:=(Kd.V_reads' HL307_0.out).1;omega));obtain ⟨ua308_4,uc308_4,ua308_9,uc308_9,rfl,ul308_4,ge308_4,ul308_9,ge308_9⟩:=k82_openF hMe308;have hv308_4:=hcc308 4 _ rfl;rw [add_field _ _ 4 (by omega)] at hv308_4;replace hv308_4:=Option.some.inj (hv308_4.symm.trans hx308_4);injection hv308_4 with hva_ hvn_ hvc_;rw [hva_] at ge308_4;rw [hvc_] at ul308_4;have HL308_4:=Aside0.mk (show Kd.V k35 35 _ w.heap.size _ _ ((rd_T82 (rd_L4 l0_0 a1) 0).f0.f4) from Kd.V_mk ul308_4 ge308_4);clear hva_ hvn_ hvc_ ge308_4 ul308_4;have hv308_9:=hcc308 9 _ rfl;rw [add_field _ _ 9 (by omega)] at hv308_9;replace hv308_9:=Option.some.inj (hv308_9.symm.trans hx308_9);injection hv308_9 with hva_ hvn_ hvc_;rw [hva_] at ge308_9;rw [hvc_] at ul308_9;have HL308_9:=Aside0.mk (show Kd.V k35 35 _ w.heap.size _ _ ((rd_T82 (rd_L4 l0_0 a1) 0).f1.f4) from Kd.V_mk ul308_9 ge308_9);clear hva_ hvn_ hvc_ ge308_9 ul308_9;clear hcc308 hce308;have qi308 : (0 < (rd_L4 l0_0 a1).length) = True:=eq_true (by omega);(try rw [show ((0 : Int)).toNat = 0 from rfl] at hx308_0);(try rw [show 0 * 10 = 0 from rfl] at hx308_0);(try rw [Addr.add_zero'] at hx308_0);(try rw [show ((0 : Int)).toNat = 0 from rfl] at hx308_1);(try rw [show 0 * 10 = 0 from rfl] at hx308_1);(try rw [Addr.add_zero'] at hx308_1);(try rw [show ((0 : Int)).toNat = 0 from rfl] at hx308_2);(try rw [show 0 * 10 = 0 from rfl] at hx308_2);(try rw [Addr.add_zero'] at hx308_2);(try rw [show ((0 : Int)).toNat = 0 from rfl] at hx308_3);(try rw [show 0 * 10 = 0 from rfl] at hx308_3);(try rw [Addr.add_zero'] at hx308_3);(try rw [show ((0 : Int)).toNat = 0 from rfl] at hx308_4);(try rw [show 0 * 10 = 0 from rfl] at hx308_4);(try rw [Addr.add_zero'] at hx308_4);(try rw [show ((0 : Int)).toNat = 0 from rfl] at hx308_5);(try rw [show 0 * 10 = 0 from rfl] at hx308_5);(try rw [Addr.add_zero'] at hx308_5);(try rw [show ((0 : Int)).toNat = 0 from rfl] at hx308_6);(try rw [show 0 * 10 = 0 from rfl] at hx308_6);(try rw [Addr.add_zero'] at hx308_6);(try rw [show ((0 : Int)).toNat = 0 from rfl] at hx308_7);(try rw [show 0 * 10 = 0 from rfl] at hx308_7);(try rw [Addr.add_zero'] at hx308_7);(try rw [show ((0 : Int)).toNat = 0 from rfl] at hx308_8);(try rw [show 0 * 10 = 0 from rfl] at hx308_8);(try rw [Addr.add_zero'] at hx308_8);(try rw [show ((0 : Int)).toNat = 0 from rfl] at hx308_9);(try rw [show 0 * 10 = 0 from rfl] at hx308_9);(try rw [Addr.add_zero'] at hx308_9);have HR308_4:=Aside0.mk hi308_4;have HC308_4:=Aside0.mk hl308_4;clear hi308_4 hl308_4;have HR308_9:=Aside0.mk hi308_9;have HC308_9:=Aside0.mk hl308_9;clear hi308_9 hl308_9;replace p308:=eq_true p308;replace q308:=eq_true q308;have hcz27_0 : w24.cell? ⟨gb305,0,none⟩ = some (.int .i64 0):=(blk_cell BK305.out 0).trans rfl;have hcz27_1 : w24.cell? ⟨gb305,1,none⟩ = some (.int .i64 0):=(blk_cell BK305.out 1).trans rfl;have hcz27_2 : w24.cell? ⟨gb305,2,none⟩ = some (.string (⟨#[]⟩ : ByteArray)):=(blk_cell BK305.out 2).trans rfl;have hcz27_3 : w24.cell? ⟨gb305,3,none⟩ = some (.int .i64 0):=(blk_cell BK305.out 3).trans rfl;have hcz27_4 : w24.cell? ⟨gb305,4,none⟩ = some (.slice none 0 0):=(blk_cell BK305.out 4).trans rfl;have hfz27_0:=blk_frozen BK305.out 0;have hfz27_1:=blk_frozen BK305.out 1;have hfz27_2:=blk_frozen BK305.out 2;have hfz27_3:=blk_frozen BK305.out 3;have hfz27_4:=blk_frozen BK305.out 4))
    refine bodyPost_ret (results_ct rfl _ _ gb305 35 #[.int .i64 ((rd_T82 (rd_L4 l0_0 a1) 0).f0.f0), .int .i64 ((rd_T82 (rd_L4 l0_0 a1) 0).f0.f1), .string ((rd_T82 (rd_L4 l0_0 a1) 0).f0.f2), .int .i64 ((rd_T82 (rd_L4 l0_0 a1) 0).f0.f3), .slice A308_4 ((rd_T82 (rd_L4 l0_0 a1) 0).f0.f4).length c308_4] (0,0) _ rfl (by (with_reducible repeat (first|refine blk_drewN ?_ _|refine blk_drew ?_|refine blk_alloc ?_ _));refine blk_put (cs:=#[.int .i64 ((rd_T82 (rd_L4 l0_0 a1) 0).f0.f0), .int .i64 ((rd_T82 (rd_L4 l0_0 a1) 0).f0.f1), .string ((rd_T82 (rd_L4 l0_0 a1) 0).f0.f2), .int .i64 ((rd_T82 (rd_L4 l0_0 a1) 0).f0.f3), .slice none 0 0]) ?_ 4 _ rfl;(with_reducible repeat (first|refine blk_drewN ?_ _|refine blk_drew ?_|refine blk_alloc ?_ _));refine blk_put (cs:=#[.int .i64 ((rd_T82 (rd_L4 l0_0 a1) 0).f0.f0), .int .i64 ((rd_T82 (rd_L4 l0_0 a1) 0).f0.f1), .string ((rd_T82 (rd_L4 l0_0 a1) 0).f0.f2), .int .i64 0, .slice none 0 0]) ?_ 3 _ rfl;(with_reducible repeat (first|refine blk_drewN ?_ _|refine blk_drew ?_|refine blk_alloc ?_ _));refine blk_put (cs:=#[.int .i64 ((rd_T82 (rd_L4 l0_0 a1) 0).f0.f0), .int .i64 ((rd_T82 (rd_L4 l0_0 a1) 0).f0.f1), .string (⟨#[]⟩ : ByteArray), .int .i64 0, .slice none 0 0]) ?_ 2 _ rfl;(with_reducible repeat (first|refine blk_drewN ?_ _|refine blk_drew ?_|refine blk_alloc ?_ _));refine blk_put (cs:=#[.int .i64 ((rd_T82 (rd_L4 l0_0 a1) 0).f0.f0), .int .i64 0, .string (⟨#[]⟩ : ByteArray), .int .i64 0, .slice none 0 0]) ?_ 1 _ rfl;(with_reducible repeat (first|refine blk_drewN ?_ _|refine blk_drew ?_|refine blk_alloc ?_ _));refine blk_put (cs:=#[.int .i64 0, .int .i64 0, .string (⟨#[]⟩ : ByteArray), .int .i64 0, .slice none 0 0]) ?_ 0 _ rfl;(with_reducible repeat (first|refine blk_drewN ?_ _|refine blk_drew ?_|refine blk_alloc ?_ _));exact BK305.out) Try.underlying35 rfl (by kernel_rfl)) rfl ?_
    exact ⟨_,by first|rfl|(simp [errW_none,errW_some] <;> rfl)|(simp [*,errW_none,errW_some] <;> rfl),by (with_reducible repeat (first|apply Kd.V_alloc|apply Kd.V_drewN|apply Kd.V_drew));exact Kd.V_mono (Kd.V_far (p:=⟨gb305,4,none⟩) (Kd.V_far (p:=⟨gb305,3,none⟩) (Kd.V_far (p:=⟨gb305,2,none⟩) (Kd.V_far (p:=⟨gb305,1,none⟩) (Kd.V_far (p:=⟨gb305,0,none⟩) (Kd.V_mono HL308_4.out (fun k_ hk => (⟨hk,hk.2⟩ : _ ∧ k_ ≠ gb305))) (fun _ hk => hk.2) (.int .i64 ((rd_T82 (rd_L4 l0_0 a1) 0).f0.f0))) (fun _ hk => hk.2) (.int .i64 ((rd_T82 (rd_L4 l0_0 a1) 0).f0.f1))) (fun _ hk => hk.2) (.string ((rd_T82 (rd_L4 l0_0 a1) 0).f0.f2))) (fun _ hk => hk.2) (.int .i64 ((rd_T82 (rd_L4 l0_0 a1) 0).f0.f3))) (fun _ hk => hk.2) (.slice A308_4 ((rd_T82 (rd_L4 l0_0 a1) 0).f0.f4).length c308_4)) (fun _ hk => hk.1.1.1),by repeat (first|(with_reducible first|exact HB.out|apply below_alloc|apply pw_below_drewN|apply below_drew1|refine below_set ?_ GE304.out|refine below_set ?_ GE305.out)|exact HB.out)⟩
   rw [if_neg c22] at H
   exact absurd H (by simp)
  rw [if_neg c15] at H
  exact absurd H (by simp)
 rw [if_neg c14] at H
 exact absurd H (by simp)

/-! ### heap_Same: function 25: its contract lies in a text of its own -/

-- NOT PRINTED: function 4 (windlasslaw4_HeapPlays)

end Go.Proofs.Ytnokieaebnmljaa.PAll
/- The document's Get and First tell what the heap's tell. -/
namespace Go.Proofs.Ytnokieaebnmljaa.PAll
open Go Go.Proofs Go.RowKit Go.Shelf Go.Proofs.YtnokieaebnmljaaW.PrintWords
set_option linter.unusedVariables false
set_option linter.unusedSimpArgs false
theorem first_eq (l0 : List (List S82)) (m : Int) : windlassref4_First.f l0 m = heap_First.f l0 m := by
  unfold windlassref4_First.f heap_First.f mapOf
  by_cases h0 : m < 0
  · have hm : ¬ (0 ≤ m ∧ m < (l0.length : Int)) := by omega
    simp [h0, hm]
  · by_cases h1 : m < (l0.length : Int)
    · have h0' : 0 ≤ m := by omega
      have h1' : ¬ (m ≥ (l0.length : Int)) := by omega
      simp only [h0, h1, h0', h1', if_true, if_false, and_self]
      generalize rd_L4 l0 m = l
      cases l with
      | nil => simp
      | cons e t =>
        simp only [List.length_cons]
        rw [if_neg (by omega), if_pos (by omega)]
        simp [rd_T82]
    · have hm : ¬ (0 ≤ m ∧ m < (l0.length : Int)) := by omega
      have h1' : m ≥ (l0.length : Int) := by omega
      simp [h0, hm, h1']
theorem get_eq (d k : Nat) (key : S35) (hkey : dw d key) (l0 : List (List S82)) (m : Int) (hl : ∀ e ∈ mapOf l0 m, dw d e.f0) (hn : (mapOf l0 m).length ≤ 1000) (hk : 1010 * d + 1002 ≤ k) : windlassref4_Get.f k l0 m key.f0 key.f1 key.f2 key.f3 key.f4 = heap_Get.f k l0 m key.f0 key.f1 key.f2 key.f3 key.f4 := by
  unfold windlassref4_Get.f heap_Get.f
  rw [at_cmpD d k key hkey l0 m hl hn hk, place_cmpD d k key (by omega) hkey l0 m hl]
end Go.Proofs.Ytnokieaebnmljaa.PAll
-- Laid by a program of this seat (wip/xprint.py over the kit's print).
namespace Go.Proofs.Ytnokieaebnmljaa.PAll
open Go.RowKit Go.Proofs.YtnokieaebnmljaaW.PrintWords Go.Proofs.YtnokieaebnmljaaW.PrintLast Go.Proofs.YtnokieaebnmljaaW.PrintMore
attribute [local go_sem] max2_int min2_int max_two min_two max_three min_three max_four min_four   -- for this text's walks alone
set_option linter.unusedVariables false
set_option linter.unusedSimpArgs false

/-! ### windlassref4_Next: function 22 -/
mutual
def windlassref4_Next.j0 : Nat → Int → Bool → List (List (S82)) → Int → Int → ByteArray → Int → List (S35) → Option (Int × Int × ByteArray × Int × (List (S35)) × Bool)
 | 0,_,_,_,_,_,_,_,_ => none
 | k + 1,x1,x18,x294000,x295000,x295001,x295002,x295003,x295004 => if x18 = true then (some (0,0,(⟨#[]⟩ : ByteArray),0,([] : List (S35)),false)) else ((windlassref4_at.f k x294000 x1 x295000 x295001 x295002 x295003 x295004).bind fun bt296 => (if bt296.2 = true then (windlassref4_Next.j1 k x1 (wrap64 (bt296.1 + 1)) x294000) else (windlassref4_Next.j1 k x1 bt296.1 x294000)))
def windlassref4_Next.j1 : Nat → Int → Int → List (List (S82)) → Option (Int × Int × ByteArray × Int × (List (S35)) × Bool)
 | 0,_,_,_ => none
 | k + 1,x1,x8,x294000 => if 0 ≤ x1 then (if x1 < (x294000.length : Int) then (if x8 ≥ ((rd_L4 x294000 x1).length : Int) then (some (0,0,(⟨#[]⟩ : ByteArray),0,([] : List (S35)),false)) else (if 0 ≤ x8 then (if x8 < ((rd_L4 x294000 x1).length : Int) then (some ((rd_T82 (rd_L4 x294000 x1) x8).f0.f0,(rd_T82 (rd_L4 x294000 x1) x8).f0.f1,(rd_T82 (rd_L4 x294000 x1) x8).f0.f2,(rd_T82 (rd_L4 x294000 x1) x8).f0.f3,(rd_T82 (rd_L4 x294000 x1) x8).f0.f4,true)) else (none)) else (none))) else (none)) else (none)
end
def windlassref4_Next.f (k : Nat) (l0_0 : List (List (S82))) (a1 : Int) (a2_0 : Int) (a2_1 : Int) (a2_2 : ByteArray) (a2_3 : Int) (l2_4 : List (S35)) : Option (Int × Int × ByteArray × Int × (List (S35)) × Bool):=if a1 < 0 then (windlassref4_Next.j0 k a1 true l0_0 a2_0 a2_1 a2_2 a2_3 l2_4) else (windlassref4_Next.j0 k a1 (decide (a1 ≥ (l0_0.length : Int))) l0_0 a2_0 a2_1 a2_2 a2_3 l2_4)
set_option maxHeartbeats 8000000 in
set_option maxRecDepth 100000 in
theorem windlassref4_Next.calls (k : Nat) (P0_0_ : Nat → Prop) (A0_0 : Option Addr) (c0_0 : Nat) (l0_0 : List (List (S82))) (a1 : Int) (a2_0 : Int) (a2_1 : Int) (a2_2 : ByteArray) (a2_3 : Int) (A2_4 : Option Addr) (c2_4 : Nat) (l2_4 : List (S35)) (r1 : Int) (r2 : Int) (r3 : ByteArray) (r4 : Int) (r5 : List (S35)) (r6 : Bool) (w : World) (hs0_0 : Kd.V (Kd.slice 82 k82) 41 w w.heap.size (fun k_ => P0_0_ k_) (.slice A0_0 l0_0.length c0_0) l0_0) (hr2_4 : Kd.C k35 w A2_4 l2_4.length l2_4) (hc2_4 : l2_4.length ≤ c2_4) (h : windlassref4_Next.f k l0_0 a1 a2_0 a2_1 a2_2 a2_3 l2_4 = some (r1,r2,r3,r4,r5,r6)) :
  Calls Try.prog 22 #[.agg #[.slice A0_0 l0_0.length c0_0], .int .i64 a1, .agg #[.int .i64 a2_0, .int .i64 a2_1, .string a2_2, .int .i64 a2_3, .slice A2_4 l2_4.length c2_4]] w fun e w' => ∃ v4_ : Value,e = .returned (.tuple #[.agg #[.int .i64 r1, .int .i64 r2, .string r3, .int .i64 r4,v4_], .bool r6]) ∧ Kd.V k35 35 w' w.heap.size (fun k_ => (P0_0_ k_ ∨ w.heap.size ≤ k_)) v4_ r5 ∧ Below w.heap.size w w':=by
 have hu27:=Try.underlying27
 have hu35:=Try.underlying35
 have HO0_0:=Aside0.mk (show Kd.V (Kd.slice 82 k82) 41 w w.heap.size (fun k_ => (P0_0_ k_ ∨ w.heap.size ≤ k_)) (.slice A0_0 l0_0.length c0_0) l0_0 from Kd.V_mono hs0_0 (fun k_ hk => .inl hk))
 have HR2_4:=Aside0.mk hr2_4
 have HC2_4:=Aside0.mk hc2_4
 clear hr2_4 hc2_4
 have HB:=Aside0.mk (Below.refl w.heap.size w)
 have H : (if a1 < 0 then (windlassref4_Next.j0 k a1 true l0_0 a2_0 a2_1 a2_2 a2_3 l2_4) else (windlassref4_Next.j0 k a1 (decide (a1 ≥ (l0_0.length : Int))) l0_0 a2_0 a2_1 a2_2 a2_3 l2_4)) = some (r1,r2,r3,r4,r5,r6):=h
 clear h
 have HC4:=Aside0.mk H
 clear H
 go_enter Try.func22,Try.ntmps22
 go_upto_region 1 with (first|((with_reducible refine gate_dst (N:=3) rfl ?_);(try (refine gate_guard (by rfl) ?_;dsimp only));refine box_event ?hg (N:=3) ?hd (cs:=#[.slice A0_0 l0_0.length c0_0]) (t:=27) ?hr ?_;(case hd => rfl);(case hg => rfl);(case hr => first|(go_simp;done)|(go_simp;rfl));intro gb293 hg w5 hbox hb;replace HO0_0:=Aside0.mk (Kd.V_below (Kd.V_elderB (vK HO0_0) gb293 (Nat.le_of_eq hg.symm)) hb);have BK293:=Aside0.mk (hbox);have GW293:=Aside0.mk ((by rw [hg];exact (below_size (bL0 HB)) : w.heap.size ≤ gb293));have GE293:=Aside0.mk ((by rw [hg];exact (below_size (bL0 HB)) : w.heap.size ≤ gb293));replace HB:=bS HB hb;clear hb hbox hg)|((with_reducible refine gate_dst (N:=5) rfl ?_);(try (refine gate_guard (by rfl) ?_;dsimp only));refine box_event ?hg (N:=5) ?hd (cs:=#[.int .i64 a2_0, .int .i64 a2_1, .string a2_2, .int .i64 a2_3, .slice A2_4 l2_4.length c2_4]) (t:=35) ?hr ?_;(case hd => rfl);(case hg => rfl);(case hr => first|(go_simp;done)|(go_simp;rfl));intro gb294 hg w6 hbox hb;replace HO0_0:=Aside0.mk (Kd.V_below (Kd.V_elderB (vK HO0_0) gb294 (Nat.le_of_eq hg.symm)) hb);have BK294:=Aside0.mk (hbox);have GW294:=Aside0.mk ((by rw [hg];exact (below_size (bL1 HB GE293)) : w.heap.size ≤ gb294));have GE294:=Aside0.mk ((by rw [hg];exact (below_size (bL1 HB GE293)) : w.heap.size ≤ gb294));replace HB:=Aside0.mk (below_step (bL1 HB GE293) hb);have NB293_294:=Aside0.mk ((by rw [hg];exact Nat.ne_of_lt (blk_lt (bK BK293)) : gb293 ≠ gb294));have NB294_293:=Aside0.mk ((by rw [hg];exact Nat.ne_of_gt (blk_lt (bK BK293)) : gb294 ≠ gb293));replace BK293:=bB BK293 hb;clear hb hbox hg)|((with_reducible refine gate_dst (N:=6) rfl ?_);(try (refine gate_guard (by rfl) ?_;dsimp only));refine box_event ?hg (N:=6) ?hd (cs:=#[.int .i64 0, .int .i64 0, .string (⟨#[]⟩ : ByteArray), .int .i64 0, .slice none 0 0]) (t:=35) ?hr ?_;(case hd => rfl);(case hg => rfl);(case hr => first|(go_simp;done)|(go_simp;rfl));intro gb295 hg w7 hbox hb;replace HO0_0:=Aside0.mk (Kd.V_below (Kd.V_elderB (vK HO0_0) gb295 (Nat.le_of_eq hg.symm)) hb);have BK295:=Aside0.mk (hbox);have GW295:=Aside0.mk ((by rw [hg];exact (below_size (bL2 HB GE293 GE294)) : w.heap.size ≤ gb295));have GE295:=Aside0.mk ((by rw [hg];exact (below_size (bL2 HB GE293 GE294)) : w.heap.size ≤ gb295));replace HB:=Aside0.mk (below_step (bL2 HB GE293 GE294) hb);have NB293_295:=Aside0.mk ((by rw [hg];exact Nat.ne_of_lt (blk_lt (bK BK293)) : gb293 ≠ gb295));have NB295_293:=Aside0.mk ((by rw [hg];exact Nat.ne_of_gt (blk_lt (bK BK293)) : gb295 ≠ gb293));replace BK293:=bB BK293 hb;have NB294_295:=Aside0.mk ((by rw [hg];exact Nat.ne_of_lt (blk_lt (bK BK294)) : gb294 ≠ gb295));have NB295_294:=Aside0.mk ((by rw [hg];exact Nat.ne_of_gt (blk_lt (bK BK294)) : gb295 ≠ gb294));replace BK294:=bB BK294 hb;clear hb hbox hg))
 (try go_frame)
 go_cut [18] (fun v18 wc => ∃ (kq : Nat) (x18_3 : Bool),v18 = .bool x18_3 ∧ Aside0 (windlassref4_Next.j0 kq a1 x18_3 l0_0 a2_0 a2_1 a2_2 a2_3 l2_4 = some (r1,r2,r3,r4,r5,r6)) ∧ Aside0 (kq ≤ k) ∧ Aside0 (Kd.V (Kd.slice 82 k82) 41 wc w.heap.size (fun k_ => (P0_0_ k_ ∨ w.heap.size ≤ k_) ∧ k_ ≠ gb293 ∧ k_ ≠ gb294 ∧ k_ ≠ gb295) (.slice A0_0 l0_0.length c0_0) l0_0) ∧ Aside0 (wc.heap[gb293]? = some (.cells #[(.slice A0_0 l0_0.length c0_0)] 27 (0,0))) ∧ Aside0 (wc.heap[gb294]? = some (.cells #[.int .i64 a2_0, .int .i64 a2_1, .string a2_2, .int .i64 a2_3,(.slice A2_4 l2_4.length c2_4)] 35 (0,0))) ∧ Aside0 (wc.heap[gb295]? = some (.cells #[.int .i64 0, .int .i64 0, .string (⟨#[]⟩ : ByteArray), .int .i64 0,(.slice none 0 0)] 35 (0,0))) ∧ Aside0 (Below w.heap.size w wc))
 case first =>
  have H:=HC4.out
  clear HC4
  by_cases c8 : a1 < 0
  ·rw [if_pos c8] at H
   have c8b0 : decide (a1 < 0) = true:=decide_eq_true c8
   clear c8
   (first|rw [c8b0]|(simp only [i64_w,i32_w];rw [c8b0])|skip)
   have H':=Aside0.mk H
   clear H
   go_wp2
   go_meet
   case rel => exact ⟨_,(true),(by first|rfl|(simp;done)|(simp [*];done)),H',⟨by first|omega|exact Nat.le_refl _⟩,⟨by (with_reducible repeat (first|apply Kd.V_alloc|apply Kd.V_drewN|apply Kd.V_drew));exact Kd.V_mono HO0_0.out (fun _ hk => ⟨hk.1.1.1,⟨hk.1.1.2,⟨hk.1.2,hk.2⟩⟩⟩)⟩,⟨by (with_reducible repeat (first|refine blk_drewN ?_ _|refine blk_drew ?_|refine blk_alloc ?_ _));exact BK293.out⟩,⟨by (with_reducible repeat (first|refine blk_drewN ?_ _|refine blk_drew ?_|refine blk_alloc ?_ _));exact BK294.out⟩,⟨by (with_reducible repeat (first|refine blk_drewN ?_ _|refine blk_drew ?_|refine blk_alloc ?_ _));exact BK295.out⟩,⟨by repeat (first|(with_reducible first|exact HB.out|apply below_alloc|apply pw_below_drewN|apply below_drew1|refine below_set ?_ GE293.out|refine below_set ?_ GE294.out|refine below_set ?_ GE295.out)|exact HB.out)⟩⟩
  rw [if_neg c8] at H
  have c8b0 : decide (a1 < 0) = false:=decide_eq_false c8
  clear c8
  (first|rw [c8b0]|(simp only [i64_w,i32_w];rw [c8b0])|skip)
  have H':=Aside0.mk H
  clear H
  have hnb9:=NB293_294.out
  have hnc9:=NB294_293.out
  have hnb10:=NB293_295.out
  have hnc10:=NB295_293.out
  have hcz11_0 : w7.cell? ⟨gb293,0,none⟩ = some (.slice A0_0 l0_0.length c0_0):=(blk_cell BK293.out 0).trans rfl
  have hfz11_0:=blk_frozen BK293.out 0
  go_wp2
  go_meet
  case rel => exact ⟨_,(decide (a1 ≥ (l0_0.length : Int))),(by first|rfl|(simp;done)|(simp [*];done)),H',⟨by first|omega|exact Nat.le_refl _⟩,⟨by (with_reducible repeat (first|apply Kd.V_alloc|apply Kd.V_drewN|apply Kd.V_drew));exact Kd.V_mono HO0_0.out (fun _ hk => ⟨hk.1.1.1,⟨hk.1.1.2,⟨hk.1.2,hk.2⟩⟩⟩)⟩,⟨by (with_reducible repeat (first|refine blk_drewN ?_ _|refine blk_drew ?_|refine blk_alloc ?_ _));exact BK293.out⟩,⟨by (with_reducible repeat (first|refine blk_drewN ?_ _|refine blk_drew ?_|refine blk_alloc ?_ _));exact BK294.out⟩,⟨by (with_reducible repeat (first|refine blk_drewN ?_ _|refine blk_drew ?_|refine blk_alloc ?_ _));exact BK295.out⟩,⟨by repeat (first|(with_reducible first|exact HB.out|apply below_alloc|apply pw_below_drewN|apply below_drew1|refine below_set ?_ GE293.out|refine below_set ?_ GE294.out|refine below_set ?_ GE295.out)|exact HB.out)⟩⟩
 case rest =>
  clear HC4
  try clear c1
  try clear c2
  try clear p2
  try clear c8
  try clear c8b0
  try clear c9
  try clear c10
  try clear hcz11_0
  try clear hfz11_0
  obtain ⟨kq,x18_3,rfl,HA,HJ3,HO_294000,BK293,BK294,BK295,HB⟩:=hcut
  cases kq with
  | zero => exact absurd HA.out (by simp [windlassref4_Next.j0])
  | succ kj3 =>
   have H:=HA.out
   clear HA
   simp only [windlassref4_Next.j0] at H
   by_cases c12 : x18_3 = true
   ·subst c12
    have H1 : (some (0,0,(⟨#[]⟩ : ByteArray),0,([] : List (S35)),false)) = some (r1,r2,r3,r4,r5,r6):=by rw [if_pos rfl] at H;exact H
    clear H
    have H:=H1
    clear H1
    simp only [Option.some.injEq,Prod.mk.injEq] at H
    obtain ⟨rfl,rfl,rfl,rfl,rfl,rfl⟩:=H
    have hnb13:=NB295_293.out
    have hnc13:=NB293_295.out
    have hnb14:=NB295_294.out
    have hnc14:=NB294_295.out
    have hcz15_0 : wc.cell? ⟨gb295,0,none⟩ = some (.int .i64 0):=(blk_cell BK295.out 0).trans rfl
    have hcz15_1 : wc.cell? ⟨gb295,1,none⟩ = some (.int .i64 0):=(blk_cell BK295.out 1).trans rfl
    have hcz15_2 : wc.cell? ⟨gb295,2,none⟩ = some (.string (⟨#[]⟩ : ByteArray)):=(blk_cell BK295.out 2).trans rfl
    have hcz15_3 : wc.cell? ⟨gb295,3,none⟩ = some (.int .i64 0):=(blk_cell BK295.out 3).trans rfl
    have hcz15_4 : wc.cell? ⟨gb295,4,none⟩ = some (.slice none 0 0):=(blk_cell BK295.out 4).trans rfl
    have hfz15_0:=blk_frozen BK295.out 0
    have hfz15_1:=blk_frozen BK295.out 1
    have hfz15_2:=blk_frozen BK295.out 2
    have hfz15_3:=blk_frozen BK295.out 3
    have hfz15_4:=blk_frozen BK295.out 4
    go_wp2
    refine bodyPost_ret (results_ct rfl _ _ gb295 35 #[.int .i64 0, .int .i64 0, .string (⟨#[]⟩ : ByteArray), .int .i64 0, .slice none 0 0] (0,0) _ rfl (by (with_reducible repeat (first|refine blk_drewN ?_ _|refine blk_drew ?_|refine blk_alloc ?_ _));refine blk_put (cs:=#[.int .i64 0, .int .i64 0, .string (⟨#[]⟩ : ByteArray), .int .i64 0, .slice none 0 0]) ?_ 4 _ rfl;(with_reducible repeat (first|refine blk_drewN ?_ _|refine blk_drew ?_|refine blk_alloc ?_ _));refine blk_put (cs:=#[.int .i64 0, .int .i64 0, .string (⟨#[]⟩ : ByteArray), .int .i64 0, .slice none 0 0]) ?_ 3 _ rfl;(with_reducible repeat (first|refine blk_drewN ?_ _|refine blk_drew ?_|refine blk_alloc ?_ _));refine blk_put (cs:=#[.int .i64 0, .int .i64 0, .string (⟨#[]⟩ : ByteArray), .int .i64 0, .slice none 0 0]) ?_ 2 _ rfl;(with_reducible repeat (first|refine blk_drewN ?_ _|refine blk_drew ?_|refine blk_alloc ?_ _));refine blk_put (cs:=#[.int .i64 0, .int .i64 0, .string (⟨#[]⟩ : ByteArray), .int .i64 0, .slice none 0 0]) ?_ 1 _ rfl;(with_reducible repeat (first|refine blk_drewN ?_ _|refine blk_drew ?_|refine blk_alloc ?_ _));refine blk_put (cs:=#[.int .i64 0, .int .i64 0, .string (⟨#[]⟩ : ByteArray), .int .i64 0, .slice none 0 0]) ?_ 0 _ rfl;(with_reducible repeat (first|refine blk_drewN ?_ _|refine blk_drew ?_|refine blk_alloc ?_ _));exact BK295.out) Try.underlying35 rfl (by kernel_rfl)) rfl ?_
    exact ⟨_,by first|rfl|(simp [errW_none,errW_some] <;> rfl)|(simp [*,errW_none,errW_some] <;> rfl),Kd.V_mono (ok:=fun _ => False) (Kd.R_V (base:=0) (by first|exact Kd.R_nil _ _ _ _ _|exact Kd.N_nil _ _ _ _ _|exact Kd.V_nil _ _ _ _ _|exact Kd.Q_nil _ _ _ _ _|exact Kd.S_nil _ _ _ _ _)) (fun k_ hk => hk.elim),by repeat (first|(with_reducible first|exact HB.out|apply below_alloc|apply pw_below_drewN|apply below_drew1|refine below_set ?_ GE293.out|refine below_set ?_ GE294.out|refine below_set ?_ GE295.out)|exact HB.out)⟩
   replace c12:=Bool.eq_false_iff.mpr c12
   subst c12
   have H1 : ((windlassref4_at.f kj3 l0_0 a1 a2_0 a2_1 a2_2 a2_3 l2_4).bind fun bt296 => (if bt296.2 = true then (windlassref4_Next.j1 kj3 a1 (wrap64 (bt296.1 + 1)) l0_0) else (windlassref4_Next.j1 kj3 a1 bt296.1 l0_0))) = some (r1,r2,r3,r4,r5,r6):=by rw [if_neg (show ¬ (false = true) by decide)] at H;exact H
   clear H
   have H:=H1
   clear H1
   replace H:=Option.bind_eq_some_iff.mp H
   obtain ⟨⟨t296,t297⟩,A160,H⟩:=H
   replace H : (if t297 = true then (windlassref4_Next.j1 kj3 a1 (wrap64 (t296 + 1)) l0_0) else (windlassref4_Next.j1 kj3 a1 t296 l0_0)) = some (r1,r2,r3,r4,r5,r6):=H
   have A16:=Aside0.mk A160
   clear A160
   have HC17:=Aside0.mk H
   clear H
   have hnb18:=NB293_294.out
   have hnc18:=NB294_293.out
   have hnb19:=NB293_295.out
   have hnc19:=NB295_293.out
   have hcz20_0 : wc.cell? ⟨gb293,0,none⟩ = some (.slice A0_0 l0_0.length c0_0):=(blk_cell BK293.out 0).trans rfl
   have hfz20_0:=blk_frozen BK293.out 0
   have hnb21:=NB294_295.out
   have hnc21:=NB295_294.out
   have hcz22_0 : wc.cell? ⟨gb294,0,none⟩ = some (.int .i64 a2_0):=(blk_cell BK294.out 0).trans rfl
   have hcz22_1 : wc.cell? ⟨gb294,1,none⟩ = some (.int .i64 a2_1):=(blk_cell BK294.out 1).trans rfl
   have hcz22_2 : wc.cell? ⟨gb294,2,none⟩ = some (.string a2_2):=(blk_cell BK294.out 2).trans rfl
   have hcz22_3 : wc.cell? ⟨gb294,3,none⟩ = some (.int .i64 a2_3):=(blk_cell BK294.out 3).trans rfl
   have hcz22_4 : wc.cell? ⟨gb294,4,none⟩ = some (.slice A2_4 l2_4.length c2_4):=(blk_cell BK294.out 4).trans rfl
   have hfz22_0:=blk_frozen BK294.out 0
   have hfz22_1:=blk_frozen BK294.out 1
   have hfz22_2:=blk_frozen BK294.out 2
   have hfz22_3:=blk_frozen BK294.out 3
   have hfz22_4:=blk_frozen BK294.out 4
   go_upto_if 27 with (first|((with_reducible refine gate_callee (f:=43) rfl ?_);refine goesL_ (some 24) rfl rfl Try.func43 (by kernel_rfl) rfl #[.agg #[.slice A0_0 l0_0.length c0_0], .int .i64 a1, .agg #[.int .i64 a2_0, .int .i64 a2_1, .string a2_2, .int .i64 a2_3, .slice A2_4 l2_4.length c2_4]] rfl aG ?_;(with_reducible refine (windlassref4_at.calls kj3 _ _ l0_0 a1 a2_0 a2_1 a2_2 a2_3 _ _ l2_4 t296 t297 _ ?side1 ?side2 ?side3 ?side4 A16.out).mono ?_);(case side1 => repeat (first|exact (Kd.V_reads' HO_294000.out).2.2|(with_reducible refine Kd.C_alloc ?_ _)|(with_reducible refine Kd.C_drewN ?_ _)|(with_reducible refine Kd.C_drew ?_)));(case side2 => exact (Kd.V_reads' HO_294000.out).2.1);(case side3 => repeat (first|exact (Kd.C_below HR2_4.out HB.out)|(with_reducible refine Kd.C_alloc ?_ _)|(with_reducible refine Kd.C_drewN ?_ _)|(with_reducible refine Kd.C_drew ?_)));(case side4 => exact HC2_4.out);rintro e w23 ⟨rfl,hb⟩;refine ⟨_,rfl,?_⟩;replace HO_294000:=Aside0.mk (Kd.V_below (vK HO_294000) hb);replace BK293:=bB BK293 hb;replace BK294:=bB BK294 hb;replace BK295:=bB BK295 hb;replace HB:=Aside0.mk (below_step (bL3 HB GE293 GE294 GE295) hb);(try clear hb);(try clear hb2);(try clear hk);(try clear hi)))
   (try go_frame)
   go_cut [8] (fun v8 wc => ∃ (kq : Nat) (x8_16 : Int),v8 = .int .i64 x8_16 ∧ Aside0 (windlassref4_Next.j1 kq a1 x8_16 l0_0 = some (r1,r2,r3,r4,r5,r6)) ∧ Aside0 (kq ≤ kj3) ∧ Aside0 (Kd.V (Kd.slice 82 k82) 41 wc w.heap.size (fun k_ => (P0_0_ k_ ∨ w.heap.size ≤ k_) ∧ k_ ≠ gb293 ∧ k_ ≠ gb294 ∧ k_ ≠ gb295) (.slice A0_0 l0_0.length c0_0) l0_0) ∧ Aside0 (wc.heap[gb293]? = some (.cells #[(.slice A0_0 l0_0.length c0_0)] 27 (0,0))) ∧ Aside0 (wc.heap[gb294]? = some (.cells #[.int .i64 a2_0, .int .i64 a2_1, .string a2_2, .int .i64 a2_3,(.slice A2_4 l2_4.length c2_4)] 35 (0,0))) ∧ Aside0 (wc.heap[gb295]? = some (.cells #[.int .i64 0, .int .i64 0, .string (⟨#[]⟩ : ByteArray), .int .i64 0,(.slice none 0 0)] 35 (0,0))) ∧ Aside0 (Below w.heap.size w wc))
   case first =>
    have H:=HC17.out
    clear HC17
    by_cases c24 : t297 = true
    ·subst c24
     have H1 : (windlassref4_Next.j1 kj3 a1 (wrap64 (t296 + 1)) l0_0) = some (r1,r2,r3,r4,r5,r6):=by rw [if_pos rfl] at H;exact H
     clear H
     have H:=H1
     clear H1
     have H':=Aside0.mk H
     clear H
     go_wp2
     go_meet
     case rel => exact ⟨_,(wrap64 (t296 + 1)),(by first|rfl|(simp;done)|(simp [*];done)),H',⟨by have:=HJ3.out;first|omega|exact Nat.le_refl _⟩,⟨by (with_reducible repeat (first|apply Kd.V_alloc|apply Kd.V_drewN|apply Kd.V_drew));exact HO_294000.out⟩,⟨by (with_reducible repeat (first|refine blk_drewN ?_ _|refine blk_drew ?_|refine blk_alloc ?_ _));exact BK293.out⟩,⟨by (with_reducible repeat (first|refine blk_drewN ?_ _|refine blk_drew ?_|refine blk_alloc ?_ _));exact BK294.out⟩,⟨by (with_reducible repeat (first|refine blk_drewN ?_ _|refine blk_drew ?_|refine blk_alloc ?_ _));exact BK295.out⟩,⟨by repeat (first|(with_reducible first|exact HB.out|apply below_alloc|apply pw_below_drewN|apply below_drew1|refine below_set ?_ GE293.out|refine below_set ?_ GE294.out|refine below_set ?_ GE295.out)|exact HB.out)⟩⟩
    replace c24:=Bool.eq_false_iff.mpr c24
    subst c24
    have H1 : (windlassref4_Next.j1 kj3 a1 t296 l0_0) = some (r1,r2,r3,r4,r5,r6):=by rw [if_neg (show ¬ (false = true) by decide)] at H;exact H
    clear H
    have H:=H1
    clear H1
    have H':=Aside0.mk H
    clear H
    go_wp2
    go_meet
    case rel => exact ⟨_,(t296),(by first|rfl|(simp;done)|(simp [*];done)),H',⟨by have:=HJ3.out;first|omega|exact Nat.le_refl _⟩,⟨by (with_reducible repeat (first|apply Kd.V_alloc|apply Kd.V_drewN|apply Kd.V_drew));exact HO_294000.out⟩,⟨by (with_reducible repeat (first|refine blk_drewN ?_ _|refine blk_drew ?_|refine blk_alloc ?_ _));exact BK293.out⟩,⟨by (with_reducible repeat (first|refine blk_drewN ?_ _|refine blk_drew ?_|refine blk_alloc ?_ _));exact BK294.out⟩,⟨by (with_reducible repeat (first|refine blk_drewN ?_ _|refine blk_drew ?_|refine blk_alloc ?_ _));exact BK295.out⟩,⟨by repeat (first|(with_reducible first|exact HB.out|apply below_alloc|apply pw_below_drewN|apply below_drew1|refine below_set ?_ GE293.out|refine below_set ?_ GE294.out|refine below_set ?_ GE295.out)|exact HB.out)⟩⟩
   case rest =>
    clear HC17
    try clear c1
    try clear c2
    try clear p2
    try clear c4
    try clear p6
    try clear c8
    try clear c8b0
    try clear c9
    try clear c10
    try clear c12
    try clear c13
    try clear c14
    try clear c18
    try clear c19
    try clear c21
    try clear c22
    try clear c24
    try clear hcz11_0
    try clear hcz15_0
    try clear hcz15_1
    try clear hcz15_2
    try clear hcz15_3
    try clear hcz15_4
    try clear hcz20_0
    try clear hcz22_0
    try clear hcz22_1
    try clear hcz22_2
    try clear hcz22_3
    try clear hcz22_4
    try clear hfz11_0
    try clear hfz15_0
    try clear hfz15_1
    try clear hfz15_2
    try clear hfz15_3
    try clear hfz15_4
    try clear hfz20_0
    try clear hfz22_0
    try clear hfz22_1
    try clear hfz22_2
    try clear hfz22_3
    try clear hfz22_4
    try clear p2
    obtain ⟨kq,x8_16,rfl,HA,HJ16,HO_294000,BK293,BK294,BK295,HB⟩:=hcut
    cases kq with
    | zero => exact absurd HA.out (by simp [windlassref4_Next.j1])
    | succ kj16 =>
     have H:=HA.out
     clear HA
     simp only [windlassref4_Next.j1] at H
     by_cases c25 : 0 ≤ a1
     ·rw [if_pos c25] at H
      have c25b0 : decide (0 ≤ a1) = true:=decide_eq_true c25
      clear c25
      by_cases c26 : a1 < (l0_0.length : Int)
      ·rw [if_pos c26] at H
       have c26b0 : decide (a1 < (l0_0.length : Int)) = true:=decide_eq_true c26
       clear c26
       by_cases c27 : x8_16 ≥ ((rd_L4 l0_0 a1).length : Int)
       ·rw [if_pos c27] at H
        have c27b0 : decide (((rd_L4 l0_0 a1).length : Int) ≤ x8_16) = true:=decide_eq_true c27
        clear c27
        simp only [Option.some.injEq,Prod.mk.injEq] at H
        obtain ⟨rfl,rfl,rfl,rfl,rfl,rfl⟩:=H
        have hnb28:=NB293_294.out
        have hnc28:=NB294_293.out
        have hnb29:=NB293_295.out
        have hnc29:=NB295_293.out
        have hcz30_0 : wc.cell? ⟨gb293,0,none⟩ = some (.slice A0_0 l0_0.length c0_0):=(blk_cell BK293.out 0).trans rfl
        have hfz30_0:=blk_frozen BK293.out 0
        have p298 : 0 ≤ (a1 : Int):=of_decide_eq_true aX
        have q298 : a1 < (l0_0.length : Int):=of_decide_eq_true aX
        obtain ⟨ad298,A298_0,c298_0,e298,hx298_0,hl298_0,hi298_0⟩:=at_L4 (Kd.V_reads' HO_294000.out).2.2 a1 p298 q298
        cases e298
        obtain ⟨ce298,hce298,hMe298,hcc298⟩:=Kd.V_get HO_294000.out [] a1 p298 (by first|exact q298|exact of_decide_eq_true aX|(have e_:=(Kd.V_reads' HO_294000.out).1;omega))
        obtain ⟨ua298_0,uc298_0,rfl,ul298_0,ge298_0⟩:=Kd.FK_slice_open hMe298
        have hv298_0:=hcc298 0 _ rfl
        rw [Nat.add_zero,show ((Kd.slice 82 k82)).sz = 1 from rfl,Nat.mul_one] at hv298_0
        replace hv298_0:=Option.some.inj (hv298_0.symm.trans hx298_0)
        injection hv298_0 with hva_ hvn_ hvc_
        rw [hva_] at ge298_0
        rw [hvc_] at ul298_0
        have HL298_0:=Aside0.mk (show Kd.V k82 82 _ w.heap.size _ _ (rd_L4 l0_0 a1) from Kd.V_mk ul298_0 ge298_0)
        clear hva_ hvn_ hvc_ ge298_0 ul298_0
        clear hcc298 hce298
        have HR298_0:=Aside0.mk hi298_0
        have HC298_0:=Aside0.mk hl298_0
        clear hi298_0 hl298_0
        replace p298:=eq_true p298
        replace q298:=eq_true q298
        have hnb31:=NB295_294.out
        have hnc31:=NB294_295.out
        have hcz32_0 : wc.cell? ⟨gb295,0,none⟩ = some (.int .i64 0):=(blk_cell BK295.out 0).trans rfl
        have hcz32_1 : wc.cell? ⟨gb295,1,none⟩ = some (.int .i64 0):=(blk_cell BK295.out 1).trans rfl
        have hcz32_2 : wc.cell? ⟨gb295,2,none⟩ = some (.string (⟨#[]⟩ : ByteArray)):=(blk_cell BK295.out 2).trans rfl
        have hcz32_3 : wc.cell? ⟨gb295,3,none⟩ = some (.int .i64 0):=(blk_cell BK295.out 3).trans rfl
        have hcz32_4 : wc.cell? ⟨gb295,4,none⟩ = some (.slice none 0 0):=(blk_cell BK295.out 4).trans rfl
        have hfz32_0:=blk_frozen BK295.out 0
        have hfz32_1:=blk_frozen BK295.out 1
        have hfz32_2:=blk_frozen BK295.out 2
        have hfz32_3:=blk_frozen BK295.out 3
        have hfz32_4:=blk_frozen BK295.out 4
        go_wp2
        refine bodyPost_ret (results_ct rfl _ _ gb295 35 #[.int .i64 0, .int .i64 0, .string (⟨#[]⟩ : ByteArray), .int .i64 0, .slice none 0 0] (0,0) _ rfl (by (with_reducible repeat (first|refine blk_drewN ?_ _|refine blk_drew ?_|refine blk_alloc ?_ _));refine blk_put (cs:=#[.int .i64 0, .int .i64 0, .string (⟨#[]⟩ : ByteArray), .int .i64 0, .slice none 0 0]) ?_ 4 _ rfl;(with_reducible repeat (first|refine blk_drewN ?_ _|refine blk_drew ?_|refine blk_alloc ?_ _));refine blk_put (cs:=#[.int .i64 0, .int .i64 0, .string (⟨#[]⟩ : ByteArray), .int .i64 0, .slice none 0 0]) ?_ 3 _ rfl;(with_reducible repeat (first|refine blk_drewN ?_ _|refine blk_drew ?_|refine blk_alloc ?_ _));refine blk_put (cs:=#[.int .i64 0, .int .i64 0, .string (⟨#[]⟩ : ByteArray), .int .i64 0, .slice none 0 0]) ?_ 2 _ rfl;(with_reducible repeat (first|refine blk_drewN ?_ _|refine blk_drew ?_|refine blk_alloc ?_ _));refine blk_put (cs:=#[.int .i64 0, .int .i64 0, .string (⟨#[]⟩ : ByteArray), .int .i64 0, .slice none 0 0]) ?_ 1 _ rfl;(with_reducible repeat (first|refine blk_drewN ?_ _|refine blk_drew ?_|refine blk_alloc ?_ _));refine blk_put (cs:=#[.int .i64 0, .int .i64 0, .string (⟨#[]⟩ : ByteArray), .int .i64 0, .slice none 0 0]) ?_ 0 _ rfl;(with_reducible repeat (first|refine blk_drewN ?_ _|refine blk_drew ?_|refine blk_alloc ?_ _));exact BK295.out) Try.underlying35 rfl (by kernel_rfl)) rfl ?_
        exact ⟨_,by first|rfl|(simp [errW_none,errW_some] <;> rfl)|(simp [*,errW_none,errW_some] <;> rfl),Kd.V_mono (ok:=fun _ => False) (Kd.R_V (base:=0) (by first|exact Kd.R_nil _ _ _ _ _|exact Kd.N_nil _ _ _ _ _|exact Kd.V_nil _ _ _ _ _|exact Kd.Q_nil _ _ _ _ _|exact Kd.S_nil _ _ _ _ _)) (fun k_ hk => hk.elim),by repeat (first|(with_reducible first|exact HB.out|apply below_alloc|apply pw_below_drewN|apply below_drew1|refine below_set ?_ GE293.out|refine below_set ?_ GE294.out|refine below_set ?_ GE295.out)|exact HB.out)⟩
       rw [if_neg c27] at H
       have c27b0 : decide (((rd_L4 l0_0 a1).length : Int) ≤ x8_16) = false:=decide_eq_false c27
       clear c27
       by_cases c33 : 0 ≤ x8_16
       ·rw [if_pos c33] at H
        have c33b0 : decide (0 ≤ x8_16) = true:=decide_eq_true c33
        clear c33
        by_cases c34 : x8_16 < ((rd_L4 l0_0 a1).length : Int)
        ·rw [if_pos c34] at H
         have c34b0 : decide (x8_16 < ((rd_L4 l0_0 a1).length : Int)) = true:=decide_eq_true c34
         clear c34
         simp only [Option.some.injEq,Prod.mk.injEq] at H
         obtain ⟨rfl,rfl,rfl,rfl,rfl,rfl⟩:=H
         have hnb35:=NB293_294.out
         have hnc35:=NB294_293.out
         have hnb36:=NB293_295.out
         have hnc36:=NB295_293.out
         have hcz37_0 : wc.cell? ⟨gb293,0,none⟩ = some (.slice A0_0 l0_0.length c0_0):=(blk_cell BK293.out 0).trans rfl
         have hfz37_0:=blk_frozen BK293.out 0
         have p298 : 0 ≤ (a1 : Int):=of_decide_eq_true aX
         have q298 : a1 < (l0_0.length : Int):=of_decide_eq_true aX
         obtain ⟨ad298,A298_0,c298_0,e298,hx298_0,hl298_0,hi298_0⟩:=at_L4 (Kd.V_reads' HO_294000.out).2.2 a1 p298 q298
         cases e298
         obtain ⟨ce298,hce298,hMe298,hcc298⟩:=Kd.V_get HO_294000.out [] a1 p298 (by first|exact q298|exact of_decide_eq_true aX|(have e_:=(Kd.V_reads' HO_294000.out).1;omega))
         obtain ⟨ua298_0,uc298_0,rfl,ul298_0,ge298_0⟩:=Kd.FK_slice_open hMe298
         have hv298_0:=hcc298 0 _ rfl
         rw [Nat.add_zero,show ((Kd.slice 82 k82)).sz = 1 from rfl,Nat.mul_one] at hv298_0
         replace hv298_0:=Option.some.inj (hv298_0.symm.trans hx298_0)
         injection hv298_0 with hva_ hvn_ hvc_
         rw [hva_] at ge298_0
         rw [hvc_] at ul298_0
         have HL298_0:=Aside0.mk (show Kd.V k82 82 _ w.heap.size _ _ (rd_L4 l0_0 a1) from Kd.V_mk ul298_0 ge298_0)
         clear hva_ hvn_ hvc_ ge298_0 ul298_0
         clear hcc298 hce298
         have HR298_0:=Aside0.mk hi298_0
         have HC298_0:=Aside0.mk hl298_0
         clear hi298_0 hl298_0
         replace p298:=eq_true p298
         replace q298:=eq_true q298
         have p299 : 0 ≤ (a1 : Int):=of_decide_eq_true aX
         have q299 : a1 < (l0_0.length : Int):=of_decide_eq_true aX
         obtain ⟨ad299,A299_0,c299_0,e299,hx299_0,hl299_0,hi299_0⟩:=at_L4 (Kd.V_reads' HO_294000.out).2.2 a1 p299 q299
         obtain rfl : ad298 = ad299:=(by injection e299)
         obtain ⟨ce299,hce299,hMe299,hcc299⟩:=Kd.V_get HO_294000.out [] a1 p299 (by first|exact q299|exact of_decide_eq_true aX|(have e_:=(Kd.V_reads' HO_294000.out).1;omega))
         obtain ⟨ua299_0,uc299_0,rfl,ul299_0,ge299_0⟩:=Kd.FK_slice_open hMe299
         have hv299_0:=hcc299 0 _ rfl
         rw [Nat.add_zero,show ((Kd.slice 82 k82)).sz = 1 from rfl,Nat.mul_one] at hv299_0
         replace hv299_0:=Option.some.inj (hv299_0.symm.trans hx299_0)
         injection hv299_0 with hva_ hvn_ hvc_
         rw [hva_] at ge299_0
         rw [hvc_] at ul299_0
         have HL299_0:=Aside0.mk (show Kd.V k82 82 _ w.heap.size _ _ (rd_L4 l0_0 a1) from Kd.V_mk ul299_0 ge299_0)
         clear hva_ hvn_ hvc_ ge299_0 ul299_0
         clear hcc299 hce299
         have HR299_0:=Aside0.mk hi299_0
         have HC299_0:=Aside0.mk hl299_0
         clear hi299_0 hl299_0
         replace p299:=eq_true p299
         replace q299:=eq_true q299
         have ea_:=Option.some.inj (hx298_0.symm.trans hx299_0)
         injection ea_ with ea_ en_ ec_
         subst ea_
         subst ec_
         clear en_
         have p300 : 0 ≤ (x8_16 : Int):=of_decide_eq_true aX
         have q300 : x8_16 < ((rd_L4 l0_0 a1).length : Int):=of_decide_eq_true aX
         obtain ⟨ad300,A300_4,c300_4,A300_9,c300_9,e300,hx300_0,hx300_1,hx300_2,hx300_3,hx300_4,hx300_5,hx300_6,hx300_7,hx300_8,hx300_9,hl300_4,hi300_4,hl300_9,hi300_9⟩:=at_T82 (by repeat (first|(with_reducible exact HR299_0.out)|(with_reducible refine Kd.C_alloc ?_ _)|(with_reducible refine Kd.C_drewN ?_ _)|(with_reducible refine Kd.C_drew ?_)|exact HR299_0.out)) x8_16 p300 q300
         cases e300
         obtain ⟨ce300,hce300,hMe300,hcc300⟩:=Kd.V_get HL299_0.out z82 x8_16 p300 (by first|exact q300|exact of_decide_eq_true aX|(have e_:=(Kd.V_reads' HL299_0.out).1;omega))
         obtain ⟨ua300_4,uc300_4,ua300_9,uc300_9,rfl,ul300_4,ge300_4,ul300_9,ge300_9⟩:=k82_openF hMe300
         have hv300_4:=hcc300 4 _ rfl
         rw [add_field _ _ 4 (by omega)] at hv300_4
         replace hv300_4:=Option.some.inj (hv300_4.symm.trans hx300_4)
         injection hv300_4 with hva_ hvn_ hvc_
         rw [hva_] at ge300_4
         rw [hvc_] at ul300_4
         have HL300_4:=Aside0.mk (show Kd.V k35 35 _ w.heap.size _ _ ((rd_T82 (rd_L4 l0_0 a1) x8_16).f0.f4) from Kd.V_mk ul300_4 ge300_4)
         clear hva_ hvn_ hvc_ ge300_4 ul300_4
         have hv300_9:=hcc300 9 _ rfl
         rw [add_field _ _ 9 (by omega)] at hv300_9
         replace hv300_9:=Option.some.inj (hv300_9.symm.trans hx300_9)
         injection hv300_9 with hva_ hvn_ hvc_
         rw [hva_] at ge300_9
         rw [hvc_] at ul300_9
         have HL300_9:=Aside0.mk (show Kd.V k35 35 _ w.heap.size _ _ ((rd_T82 (rd_L4 l0_0 a1) x8_16).f1.f4) from Kd.V_mk ul300_9 ge300_9)
         clear hva_ hvn_ hvc_ ge300_9 ul300_9
         clear hcc300 hce300
         have HR300_4:=Aside0.mk hi300_4
         have HC300_4:=Aside0.mk hl300_4
         clear hi300_4 hl300_4
         have HR300_9:=Aside0.mk hi300_9
         have HC300_9:=Aside0.mk hl300_9
         clear hi300_9 hl300_9
         replace p300:=eq_true p300
         replace q300:=eq_true q300
         have hnb38:=NB295_294.out
         have hnc38:=NB294_295.out
         have hcz39_0 : wc.cell? ⟨gb295,0,none⟩ = some (.int .i64 0):=(blk_cell BK295.out 0).trans rfl
         have hcz39_1 : wc.cell? ⟨gb295,1,none⟩ = some (.int .i64 0):=(blk_cell BK295.out 1).trans rfl
         have hcz39_2 : wc.cell? ⟨gb295,2,none⟩ = some (.string (⟨#[]⟩ : ByteArray)):=(blk_cell BK295.out 2).trans rfl
         have hcz39_3 : wc.cell? ⟨gb295,3,none⟩ = some (.int .i64 0):=(blk_cell BK295.out 3).trans rfl
         have hcz39_4 : wc.cell? ⟨gb295,4,none⟩ = some (.slice none 0 0):=(blk_cell BK295.out 4).trans rfl
         have hfz39_0:=blk_frozen BK295.out 0
         have hfz39_1:=blk_frozen BK295.out 1
         have hfz39_2:=blk_frozen BK295.out 2
         have hfz39_3:=blk_frozen BK295.out 3
         have hfz39_4:=blk_frozen BK295.out 4
         go_wp2
         refine bodyPost_ret (results_ct rfl _ _ gb295 35 #[.int .i64 ((rd_T82 (rd_L4 l0_0 a1) x8_16).f0.f0), .int .i64 ((rd_T82 (rd_L4 l0_0 a1) x8_16).f0.f1), .string ((rd_T82 (rd_L4 l0_0 a1) x8_16).f0.f2), .int .i64 ((rd_T82 (rd_L4 l0_0 a1) x8_16).f0.f3), .slice A300_4 ((rd_T82 (rd_L4 l0_0 a1) x8_16).f0.f4).length c300_4] (0,0) _ rfl (by (with_reducible repeat (first|refine blk_drewN ?_ _|refine blk_drew ?_|refine blk_alloc ?_ _));refine blk_put (cs:=#[.int .i64 ((rd_T82 (rd_L4 l0_0 a1) x8_16).f0.f0), .int .i64 ((rd_T82 (rd_L4 l0_0 a1) x8_16).f0.f1), .string ((rd_T82 (rd_L4 l0_0 a1) x8_16).f0.f2), .int .i64 ((rd_T82 (rd_L4 l0_0 a1) x8_16).f0.f3), .slice none 0 0]) ?_ 4 _ rfl;(with_reducible repeat (first|refine blk_drewN ?_ _|refine blk_drew ?_|refine blk_alloc ?_ _));refine blk_put (cs:=#[.int .i64 ((rd_T82 (rd_L4 l0_0 a1) x8_16).f0.f0), .int .i64 ((rd_T82 (rd_L4 l0_0 a1) x8_16).f0.f1), .string ((rd_T82 (rd_L4 l0_0 a1) x8_16).f0.f2), .int .i64 0, .slice none 0 0]) ?_ 3 _ rfl;(with_reducible repeat (first|refine blk_drewN ?_ _|refine blk_drew ?_|refine blk_alloc ?_ _));refine blk_put (cs:=#[.int .i64 ((rd_T82 (rd_L4 l0_0 a1) x8_16).f0.f0), .int .i64 ((rd_T82 (rd_L4 l0_0 a1) x8_16).f0.f1), .string (⟨#[]⟩ : ByteArray), .int .i64 0, .slice none 0 0]) ?_ 2 _ rfl;(with_reducible repeat (first|refine blk_drewN ?_ _|refine blk_drew ?_|refine blk_alloc ?_ _));refine blk_put (cs:=#[.int .i64 ((rd_T82 (rd_L4 l0_0 a1) x8_16).f0.f0), .int .i64 0, .string (⟨#[]⟩ : ByteArray), .int .i64 0, .slice none 0 0]) ?_ 1 _ rfl;(with_reducible repeat (first|refine blk_drewN ?_ _|refine blk_drew ?_|refine blk_alloc ?_ _));refine blk_put (cs:=#[.int .i64 0, .int .i64 0, .string (⟨#[]⟩ : ByteArray), .int .i64 0, .slice none 0 0]) ?_ 0 _ rfl;(with_reducible repeat (first|refine blk_drewN ?_ _|refine blk_drew ?_|refine blk_alloc ?_ _));exact BK295.out) Try.underlying35 rfl (by kernel_rfl)) rfl ?_
         exact ⟨_,by first|rfl|(simp [errW_none,errW_some] <;> rfl)|(simp [*,errW_none,errW_some] <;> rfl),by (with_reducible repeat (first|apply Kd.V_alloc|apply Kd.V_drewN|apply Kd.V_drew));exact Kd.V_mono (Kd.V_far (p:=⟨gb295,4,none⟩) (Kd.V_far (p:=⟨gb295,3,none⟩) (Kd.V_far (p:=⟨gb295,2,none⟩) (Kd.V_far (p:=⟨gb295,1,none⟩) (Kd.V_far (p:=⟨gb295,0,none⟩) (Kd.V_mono HL300_4.out (fun k_ hk => (⟨hk,hk.2.2.2⟩ : _ ∧ k_ ≠ gb295))) (fun _ hk => hk.2) (.int .i64 ((rd_T82 (rd_L4 l0_0 a1) x8_16).f0.f0))) (fun _ hk => hk.2) (.int .i64 ((rd_T82 (rd_L4 l0_0 a1) x8_16).f0.f1))) (fun _ hk => hk.2) (.string ((rd_T82 (rd_L4 l0_0 a1) x8_16).f0.f2))) (fun _ hk => hk.2) (.int .i64 ((rd_T82 (rd_L4 l0_0 a1) x8_16).f0.f3))) (fun _ hk => hk.2) (.slice A300_4 ((rd_T82 (rd_L4 l0_0 a1) x8_16).f0.f4).length c300_4)) (fun _ hk => hk.1.1),by repeat (first|(with_reducible first|exact HB.out|apply below_alloc|apply pw_below_drewN|apply below_drew1|refine below_set ?_ GE293.out|refine below_set ?_ GE294.out|refine below_set ?_ GE295.out)|exact HB.out)⟩
        rw [if_neg c34] at H
        exact absurd H (by simp)
       rw [if_neg c33] at H
       exact absurd H (by simp)
      rw [if_neg c26] at H
      exact absurd H (by simp)
     rw [if_neg c25] at H
     exact absurd H (by simp)

end Go.Proofs.Ytnokieaebnmljaa.PAll
/- What HeapPlays asks of a state whose maps rise: both sides answer alike, and the maps go on rising. -/
namespace Go.Proofs.Ytnokieaebnmljaa.PAll
open Go Go.Proofs Go.RowKit Go.Shelf Go.Proofs.YtnokieaebnmljaaW.PrintWords
set_option linter.unusedVariables false
set_option linter.unusedSimpArgs false
def Rise (l : List S82) : Prop := l.Pairwise fun a b => cmpD 3 a.f0 b.f0 = -1
def GoodL (l : List S82) : Prop := l.length ≤ 24 ∧ Rise l ∧ ∀ e ∈ l, dw 3 e.f0 ∧ dw 3 e.f1
def Good (S : List (List S82)) : Prop := S.length ≤ 5 ∧ ∀ l ∈ S, GoodL l
theorem eta35 (v : S35) : (⟨v.f0, v.f1, v.f2, v.f3, v.f4⟩ : S35) = v := by cases v; rfl
theorem GoodL.nil : GoodL [] := ⟨by simp, List.Pairwise.nil, by simp⟩
theorem Good.nil : Good [] := ⟨by simp, by simp⟩
theorem Good.mapOf {S : List (List S82)} (h : Good S) (m : Int) : GoodL (mapOf S m) := by
  unfold PAll.mapOf
  split
  · rename_i hm
    refine h.2 _ ?_
    have : m.toNat < S.length := by omega
    simp only [rd_L4, List.getD, List.getElem?_eq_getElem this, Option.getD_some]
    exact List.getElem_mem _
  exact GoodL.nil
theorem place_split (c : S82 → Int) : ∀ (l : List S82) (s : Int), ∃ A B, l = A ++ B ∧ (placeOf c l s).1 = s + A.length ∧ (∀ e ∈ A, c e < 0) ∧ ((placeOf c l s).2 = true → ∃ e t, B = e :: t ∧ c e = 0) ∧ ((placeOf c l s).2 = false → ∀ e t, B = e :: t → 0 < c e)
  | [], s => ⟨[], [], rfl, by simp [placeOf], by simp, by simp [placeOf], by simp⟩
  | e :: es, s => by
    simp only [placeOf]
    by_cases h0 : c e = 0
    · rw [if_pos h0]
      exact ⟨[], e :: es, rfl, by simp, by simp, fun _ => ⟨e, es, rfl, h0⟩, by simp⟩
    rw [if_neg h0]
    by_cases h1 : 0 < c e
    · rw [if_pos h1]
      refine ⟨[], e :: es, rfl, by simp, by simp, by simp, fun _ x t hx => ?_⟩
      injection hx with hx _
      exact hx ▸ h1
    rw [if_neg h1]
    obtain ⟨A, B, e1, e2, e3, e4, e5⟩ := place_split c es (s + 1)
    refine ⟨e :: A, B, by rw [e1]; rfl, by rw [e2]; simp; omega, ?_, e4, e5⟩
    intro x hx
    rcases List.mem_cons.1 hx with rfl | hx
    · omega
    exact e3 x hx
theorem gt_of {a b : S35} (ha : dw 3 a) (hb : dw 3 b) : 0 < cmpD 3 a b ↔ cmpD 3 b a = -1 := by
  have h1 := (lin_cmpD 3).anti a b (dw_dep 3 _ ha) (dw_dep 3 _ hb)
  rcases (lin_cmpD 3).rng a b with h | h | h <;> omega
theorem lt_of {a b : S35} : cmpD 3 a b < 0 ↔ cmpD 3 a b = -1 := by
  rcases (lin_cmpD 3).rng a b with h | h | h <;> omega
theorem key_of {a b : S35} (ha : dw 3 a) (hb : dw 3 b) (h : cmpD 3 a b = 0) : a = b := (lin_cmpD 3).eq a b (dw_dep 3 _ ha) (dw_dep 3 _ hb) h
theorem lt_tr {a b c : S35} (ha : dw 3 a) (hb : dw 3 b) (hc : dw 3 c) (h1 : cmpD 3 a b = -1) (h2 : cmpD 3 b c = -1) : cmpD 3 a c = -1 := (lin_cmpD 3).tr a b c (dw_dep 3 _ ha) (dw_dep 3 _ hb) (dw_dep 3 _ hc) h1 h2
/-- A rising row at a key: what is less, the key if it is there, what is greater. -/
theorem good_split {l : List S82} (h : GoodL l) {key : S35} (hk : dw 3 key) : ∃ A T, (placeOf (fun e => cmpD 3 e.f0 key) l 0).1 = A.length ∧ (∀ e ∈ A, cmpD 3 e.f0 key = -1) ∧ (∀ e ∈ T, cmpD 3 key e.f0 = -1) ∧
    (((placeOf (fun e => cmpD 3 e.f0 key) l 0).2 = true ∧ ∃ e, e.f0 = key ∧ l = A ++ e :: T) ∨ ((placeOf (fun e => cmpD 3 e.f0 key) l 0).2 = false ∧ l = A ++ T)) := by
  obtain ⟨A, B, e1, e2, e3, e4, e5⟩ := place_split (fun e => cmpD 3 e.f0 key) l 0
  have hr := h.2.1
  unfold Rise at hr
  rw [e1] at hr
  have hB := (List.pairwise_append.1 hr).2.1
  have hd : ∀ e ∈ B, dw 3 e.f0 := fun e he => (h.2.2 e (by rw [e1]; simp [he])).1
  cases hp : (placeOf (fun e => cmpD 3 e.f0 key) l 0).2 with
  | true =>
    obtain ⟨e, t, rfl, he⟩ := e4 hp
    have hek : e.f0 = key := key_of (hd e (by simp)) hk he
    refine ⟨A, t, by rw [e2]; omega, fun x hx => lt_of.1 (e3 x hx), fun x hx => ?_, .inl ⟨rfl, e, hek, e1⟩⟩
    rw [← hek]
    exact (List.pairwise_cons.1 hB).1 x hx
  | false =>
    refine ⟨A, B, by rw [e2]; omega, fun x hx => lt_of.1 (e3 x hx), fun x hx => ?_, .inr ⟨rfl, e1⟩⟩
    cases B with
    | nil => simp at hx
    | cons b t =>
      have h0 := (gt_of (hd b (by simp)) hk).1 (e5 hp b t rfl)
      rcases List.mem_cons.1 hx with rfl | hx'
      · exact h0
      exact lt_tr hk (hd b (by simp)) (hd x (by simp [hx'])) h0 ((List.pairwise_cons.1 hB).1 x hx')
theorem rise_mid {A T : List S82} {x : S82} (hA : Rise (A ++ T)) (h1 : ∀ e ∈ A, cmpD 3 e.f0 x.f0 = -1) (h2 : ∀ e ∈ T, cmpD 3 x.f0 e.f0 = -1) : Rise (A ++ [x] ++ T) := by
  unfold Rise at *
  rw [List.append_assoc]
  obtain ⟨a1, a2, a3⟩ := List.pairwise_append.1 hA
  refine List.pairwise_append.2 ⟨a1, List.pairwise_cons.2 ⟨h2, a2⟩, fun a ha b hb => ?_⟩
  rcases List.mem_cons.1 hb with rfl | hb
  · exact h1 a ha
  exact a3 a ha b hb
theorem rise_sub {A T : List S82} {e : S82} (h : Rise (A ++ e :: T)) : Rise (A ++ T) :=
  List.Pairwise.sublist (List.Sublist.append (List.Sublist.refl A) (List.sublist_cons_self e T)) h
theorem set_good {S : List (List S82)} (h : Good S) (m : Nat) {l : List S82} (hl : GoodL l) : Good (S.set m l) :=
  ⟨by rw [List.length_set]; exact h.1, fun x hx => by
    rcases List.mem_or_eq_of_mem_set hx with hx | hx
    · exact h.2 x hx
    exact hx ▸ hl⟩
section
variable {S : List (List S82)} {key val : S35}
theorem keys3 (h : Good S) (m : Int) : ∀ e ∈ mapOf S m, dw 3 e.f0 := fun e he => ((h.mapOf m).2.2 e he).1
theorem len_map (h : Good S) (m : Int) : (mapOf S m).length ≤ 24 := (h.mapOf m).1
/-- Put: both alike. -/
theorem plays_put (h : Good S) (hk : dw 3 key) (hv : dw 3 val) (m : Int) : ∃ T r, heap_Put.f 5000 S m key.f0 key.f1 key.f2 key.f3 key.f4 val.f0 val.f1 val.f2 val.f3 val.f4 = some (T, r) ∧ windlassref4_Put.f 5000 S m key.f0 key.f1 key.f2 key.f3 key.f4 val.f0 val.f1 val.f2 val.f3 val.f4 = some (T, r) ∧ Good T := by
  have h5 := h.1
  have h24 := len_map h m
  have e1 := put_eq 3 5000 key val hk S m (keys3 h m) (by omega) (by omega) (by omega)
  suffices hs : ∃ T r, heap_Put.f 5000 S m key.f0 key.f1 key.f2 key.f3 key.f4 val.f0 val.f1 val.f2 val.f3 val.f4 = some (T, r) ∧ Good T by
    obtain ⟨T, r, a, b⟩ := hs
    exact ⟨T, r, a, e1.trans a, b⟩
  clear e1
  unfold heap_Put.f
  rw [place_cmpD 3 5000 key (by omega) hk S m (keys3 h m)]
  simp only [Option.bind_some]
  by_cases hin : 0 ≤ m ∧ m < (S.length : Int)
  · rw [if_pos hin, if_pos ⟨by omega, by omega⟩]
    obtain ⟨A, T, p1, hA, hT, hp⟩ := good_split (h.mapOf m) hk
    have hg := h.mapOf m
    have hn : ((placeOf (fun e => cmpD 3 e.f0 key) (mapOf S m) 0).1).toNat = A.length := by rw [p1]; simp
    rcases hp with ⟨hp, e, he, hl⟩ | ⟨hp, hl⟩
    · rw [if_pos hp]
      refine ⟨_, _, rfl, set_good h _ ?_⟩
      rw [hn, hl]
      rw [hl] at hg
      have e1 : putRow (A ++ e :: T) A.length (A.length + 1) ⟨key, val⟩ = A ++ [⟨key, val⟩] ++ T := by
        unfold putRow
        rw [List.take_left' rfl, show A.length + 1 = (A ++ [e]).length by simp, show A ++ e :: T = (A ++ [e]) ++ T by simp, List.drop_left' rfl]
      rw [eta35, eta35, e1]
      refine ⟨by have := hg.1; simp at this ⊢; omega, rise_mid (rise_sub hg.2.1) hA hT, fun x hx => ?_⟩
      rcases List.mem_append.1 hx with hx | hx
      · rcases List.mem_append.1 hx with hx | hx
        · exact hg.2.2 x (by simp [hx])
        rw [List.mem_singleton] at hx
        subst hx
        exact ⟨hk, hv⟩
      exact hg.2.2 x (by simp [hx])
    rw [if_neg (by rw [hp]; decide)]
    split
    · exact ⟨_, _, rfl, Good.nil⟩
    rename_i hlt
    refine ⟨_, _, rfl, set_good h _ ?_⟩
    rw [hn]
    rw [hl] at hg hlt ⊢
    have e1 : putRow (A ++ T) A.length A.length ⟨key, val⟩ = A ++ [⟨key, val⟩] ++ T := by
      unfold putRow
      rw [List.take_left' rfl, List.drop_left' rfl]
    rw [eta35, eta35, e1]
    refine ⟨by simp at hlt ⊢; omega, rise_mid hg.2.1 hA hT, fun x hx => ?_⟩
    rcases List.mem_append.1 hx with hx | hx
    · rcases List.mem_append.1 hx with hx | hx
      · exact hg.2.2 x (by simp [hx])
      rw [List.mem_singleton] at hx
      subst hx
      exact ⟨hk, hv⟩
    exact hg.2.2 x (by simp [hx])
  rw [if_neg hin]
  exact ⟨_, _, rfl, Good.nil⟩
/-- Del: both alike. -/
theorem plays_del (h : Good S) (hk : dw 3 key) (m : Int) : ∃ T, heap_Del.f 5000 S m key.f0 key.f1 key.f2 key.f3 key.f4 = some T ∧ windlassref4_Del.f 5000 S m key.f0 key.f1 key.f2 key.f3 key.f4 = some T ∧ Good T := by
  have h5 := h.1
  have h24 := len_map h m
  have e1 := del_eq 3 5000 key hk S m (keys3 h m) (by omega) (by omega) (by omega)
  suffices hs : ∃ T, heap_Del.f 5000 S m key.f0 key.f1 key.f2 key.f3 key.f4 = some T ∧ Good T by
    obtain ⟨T, a, b⟩ := hs
    exact ⟨T, a, e1.trans a, b⟩
  clear e1
  unfold heap_Del.f
  rw [place_cmpD 3 5000 key (by omega) hk S m (keys3 h m)]
  simp only [Option.bind_some]
  obtain ⟨A, T, p1, hA, hT, hp⟩ := good_split (h.mapOf m) hk
  have hg := h.mapOf m
  have hn : ((placeOf (fun e => cmpD 3 e.f0 key) (mapOf S m) 0).1).toNat = A.length := by rw [p1]; simp
  rcases hp with ⟨hp, e, he, hl⟩ | ⟨hp, hl⟩
  · rw [if_pos hp, if_pos ⟨by omega, by omega⟩]
    refine ⟨_, rfl, set_good h _ ?_⟩
    rw [hn, hl]
    rw [hl] at hg
    have e1 : (A ++ e :: T).take A.length ++ (A ++ e :: T).drop (A.length + 1) = A ++ T := by
      rw [List.take_left' rfl, show A.length + 1 = (A ++ [e]).length by simp, show A ++ e :: T = (A ++ [e]) ++ T by simp, List.drop_left' rfl]
    rw [e1]
    refine ⟨by have := hg.1; simp at this ⊢; omega, rise_sub hg.2.1, fun x hx => ?_⟩
    rcases List.mem_append.1 hx with hx | hx
    · exact hg.2.2 x (by simp [hx])
    exact hg.2.2 x (by simp [hx])
  rw [if_neg (by rw [hp]; decide)]
  exact ⟨_, rfl, h⟩
/-- What is told is alike, and it is a value that isn't too great. -/
theorem dw_zero : dw 3 ⟨0, 0, ⟨#[]⟩, 0, []⟩ := by simp [dw]
theorem plays_first (h : Good S) (m : Int) : ∃ v : S35, ∃ b, heap_First.f S m = some (v.f0, v.f1, v.f2, v.f3, v.f4, b) ∧ windlassref4_First.f S m = some (v.f0, v.f1, v.f2, v.f3, v.f4, b) ∧ dw 3 v := by
  rw [first_eq]
  have hg := h.mapOf m
  unfold heap_First.f
  revert hg
  generalize mapOf S m = l
  intro hg
  cases l with
  | nil => exact ⟨⟨0, 0, ⟨#[]⟩, 0, []⟩, false, rfl, rfl, dw_zero⟩
  | cons e t => exact ⟨e.f0, true, rfl, rfl, (hg.2.2 e (by simp)).1⟩
theorem plays_get (h : Good S) (hk : dw 3 key) (m : Int) : ∃ v : S35, ∃ b, heap_Get.f 5000 S m key.f0 key.f1 key.f2 key.f3 key.f4 = some (v.f0, v.f1, v.f2, v.f3, v.f4, b) ∧ windlassref4_Get.f 5000 S m key.f0 key.f1 key.f2 key.f3 key.f4 = some (v.f0, v.f1, v.f2, v.f3, v.f4, b) ∧ dw 3 v := by
  have h24 := len_map h m
  rw [get_eq 3 5000 key hk S m (keys3 h m) (by omega) (by omega)]
  suffices hs : ∃ v : S35, ∃ b, heap_Get.f 5000 S m key.f0 key.f1 key.f2 key.f3 key.f4 = some (v.f0, v.f1, v.f2, v.f3, v.f4, b) ∧ dw 3 v by
    obtain ⟨v, b, x, y⟩ := hs
    exact ⟨v, b, x, x, y⟩
  unfold heap_Get.f
  rw [place_cmpD 3 5000 key (by omega) hk S m (keys3 h m)]
  simp only [Option.bind_some]
  by_cases hp : (placeOf (fun e => cmpD 3 e.f0 key) (mapOf S m) 0).2 = true
  · obtain ⟨ix, e1, hix, _⟩ := placeOf_hit _ _ hp
    have hin : 0 ≤ m ∧ m < (S.length : Int) := by
      by_cases h : 0 ≤ m ∧ m < (S.length : Int)
      · exact h
      rw [show mapOf S m = [] from if_neg h] at hix; simp at hix
    have er : rd_L4 S m = mapOf S m := (if_pos hin).symm
    rw [if_pos hp, if_pos hin.1, if_pos hin.2, e1, er, if_pos (show (0 : Int) ≤ 0 + (ix : Int) by omega), if_pos (show (0 : Int) + (ix : Int) < ((mapOf S m).length : Int) by omega)]
    refine ⟨(rd_T82 (mapOf S m) (0 + (ix : Int))).f1, true, rfl, ?_⟩
    have : ((0 : Int) + (ix : Int)).toNat = ix := by omega
    simp only [rd_T82, List.getD, this, List.getElem?_eq_getElem hix, Option.getD_some]
    exact ((h.mapOf m).2.2 _ (List.getElem_mem hix)).2
  rw [if_neg hp]
  exact ⟨⟨0, 0, ⟨#[]⟩, 0, []⟩, false, rfl, dw_zero⟩
def headOf : List S82 → S35 × Bool
  | [] => (⟨0, 0, ⟨#[]⟩, 0, []⟩, false)
  | e :: _ => (e.f0, true)
theorem nextOf_skip {c : S82 → Int} (t : List S82) : ∀ l : List S82, (∀ e ∈ l, ¬ 0 < c e) → nextOf c (l ++ t) = nextOf c t
  | [], _ => rfl
  | e :: l, h => by simp only [List.cons_append, nextOf]; rw [if_neg (h e (by simp)), nextOf_skip t l (fun x hx => h x (by simp [hx]))]
theorem nextOf_head {c : S82 → Int} : ∀ l : List S82, (∀ e ∈ l, 0 < c e) → nextOf c l = ((headOf l).1.f0, (headOf l).1.f1, (headOf l).1.f2, (headOf l).1.f3, (headOf l).1.f4, (headOf l).2)
  | [], _ => rfl
  | e :: l, h => by simp only [nextOf, headOf]; rw [if_pos (h e (by simp))]
theorem headOf_ref (l : List S82) (i : Int) (h0 : 0 ≤ i) (hi : i ≤ l.length) : (if i ≥ (l.length : Int) then some (0, 0, (⟨#[]⟩ : ByteArray), 0, ([] : List S35), false) else if 0 ≤ i then (if i < (l.length : Int) then some ((rd_T82 l i).f0.f0, (rd_T82 l i).f0.f1, (rd_T82 l i).f0.f2, (rd_T82 l i).f0.f3, (rd_T82 l i).f0.f4, true) else none) else none) = some ((headOf (l.drop i.toNat)).1.f0, (headOf (l.drop i.toNat)).1.f1, (headOf (l.drop i.toNat)).1.f2, (headOf (l.drop i.toNat)).1.f3, (headOf (l.drop i.toNat)).1.f4, (headOf (l.drop i.toNat)).2) := by
  by_cases h : i ≥ (l.length : Int)
  · rw [if_pos h, List.drop_of_length_le (by omega)]
    rfl
  have hl : i.toNat < l.length := by omega
  rw [if_neg h, if_pos h0, if_pos (by omega), List.drop_eq_getElem_cons hl]
  simp [headOf, rd_T82, List.getD, hl]
theorem plays_next (h : Good S) (hk : dw 3 key) (m : Int) : ∃ v : S35, ∃ b, heap_Next.f 5000 S m key.f0 key.f1 key.f2 key.f3 key.f4 = some (v.f0, v.f1, v.f2, v.f3, v.f4, b) ∧ windlassref4_Next.f 5000 S m key.f0 key.f1 key.f2 key.f3 key.f4 = some (v.f0, v.f1, v.f2, v.f3, v.f4, b) ∧ dw 3 v := by
  have h24 := len_map h m
  have hg := h.mapOf m
  have hcall : call 5000 key.f0 key.f1 key.f2 key.f3 key.f4 (mapOf S m) := fun e he => ⟨_, cval_cmpD 3 5000 key (by omega) hk e (keys3 h m e he)⟩
  have hheap : heap_Next.f 5000 S m key.f0 key.f1 key.f2 key.f3 key.f4 = some (nextOf (fun e => cmpD 3 e.f0 key) (mapOf S m)) := by
    unfold heap_Next.f
    rw [if_pos hcall]
    congr 1
    exact nextOf_congr _ (fun e he => by simp [cval, cval_cmpD 3 5000 key (by omega) hk e (keys3 h m e he)])
  obtain ⟨A, T, p1, hA, hT, hp⟩ := good_split hg hk
  have hTd : dw 3 (headOf T).1 := by
    cases T with
    | nil => exact dw_zero
    | cons e t => exact (hg.2.2 e (by rcases hp with ⟨_, x, _, hl⟩ | ⟨_, hl⟩ <;> rw [hl] <;> simp)).1
  have hTp : ∀ e ∈ T, 0 < cmpD 3 e.f0 key := fun e he => (gt_of (hg.2.2 e (by rcases hp with ⟨_, x, _, hl⟩ | ⟨_, hl⟩ <;> rw [hl] <;> simp [he])).1 hk).2 (hT e he)
  have hnext : nextOf (fun e => cmpD 3 e.f0 key) (mapOf S m) = ((headOf T).1.f0, (headOf T).1.f1, (headOf T).1.f2, (headOf T).1.f3, (headOf T).1.f4, (headOf T).2) := by
    rcases hp with ⟨_, x, hx, hl⟩ | ⟨_, hl⟩
    · rw [hl, show A ++ x :: T = (A ++ [x]) ++ T by simp, nextOf_skip T (A ++ [x]), nextOf_head T hTp]
      intro e he
      rcases List.mem_append.1 he with he | he
      · rw [hA e he]; decide
      rw [List.mem_singleton] at he
      subst he
      rw [hx, (lin_cmpD 3).rf key (dw_dep 3 _ hk)]
      decide
    rw [hl, nextOf_skip T A (fun e he => by rw [hA e he]; decide), nextOf_head T hTp]
  refine ⟨(headOf T).1, (headOf T).2, by rw [hheap, hnext], ?_, hTd⟩
  unfold windlassref4_Next.f
  by_cases hin : 0 ≤ m ∧ m < (S.length : Int)
  · have er : rd_L4 S m = mapOf S m := (if_pos hin).symm
    have hd : decide (m ≥ (S.length : Int)) = false := decide_eq_false (by omega)
    rw [if_neg (show ¬ m < 0 by omega), hd]
    simp only [windlassref4_Next.j0]
    rw [if_neg (show ¬ (false = true) by decide), at_cmpD 3 4999 key hk S m (keys3 h m) (by omega) (by omega)]
    simp only [Option.bind_some]
    rcases hp with ⟨hp, x, hx, hl⟩ | ⟨hp, hl⟩
    · have hlen : (mapOf S m).length = A.length + 1 + T.length := by rw [hl]; simp; omega
      have ew : wrap64 ((placeOf (fun e => cmpD 3 e.f0 key) (mapOf S m) 0).1 + 1) = ((A.length + 1 : Nat) : Int) := by rw [p1]; unfold wrap64; omega
      rw [if_pos hp, ew]
      simp only [windlassref4_Next.j1]
      rw [if_pos hin.1, if_pos hin.2, er, headOf_ref (mapOf S m) _ (by omega) (by omega)]
      have ed : (mapOf S m).drop (((A.length + 1 : Nat) : Int)).toNat = T := by
        rw [Int.toNat_natCast, hl, show A.length + 1 = (A ++ [x]).length by simp, show A ++ x :: T = (A ++ [x]) ++ T by simp, List.drop_left' rfl]
      rw [ed]
    have hlen : (mapOf S m).length = A.length + T.length := by rw [hl]; simp
    rw [if_neg (by rw [hp]; decide), p1]
    simp only [windlassref4_Next.j1]
    rw [if_pos hin.1, if_pos hin.2, er, headOf_ref (mapOf S m) _ (by omega) (by omega)]
    have ed : (mapOf S m).drop ((A.length : Int)).toNat = T := by
      rw [Int.toNat_natCast, hl, List.drop_left' rfl]
    rw [ed]
  have hmp : mapOf S m = [] := if_neg hin
  have hT0 : T = [] := by
    rcases hp with ⟨_, x, _, hl⟩ | ⟨_, hl⟩
    · rw [hmp] at hl; exact absurd hl (by simp)
    rw [hmp] at hl; exact (List.append_eq_nil_iff.1 hl.symm).2
  subst hT0
  by_cases h0 : m < 0
  · rw [if_pos h0]; simp only [windlassref4_Next.j0]; rfl
  have hd : decide (m ≥ (S.length : Int)) = true := decide_eq_true (by omega)
  rw [if_neg h0, hd]; simp only [windlassref4_Next.j0]; rfl
end
end Go.Proofs.Ytnokieaebnmljaa.PAll
-- Laid by a program of this seat (wip/xprint.py over the kit's print).
namespace Go.Proofs.Ytnokieaebnmljaa.PAll
open Go.RowKit Go.Proofs.YtnokieaebnmljaaW.PrintWords Go.Proofs.YtnokieaebnmljaaW.PrintLast Go.Proofs.YtnokieaebnmljaaW.PrintMore
attribute [local go_sem] max2_int min2_int max_two min_two max_three min_three max_four min_four   -- for this text's walks alone
set_option linter.unusedVariables false
set_option linter.unusedSimpArgs false

/-! ### value_Same: function 46 -/
def value_Same.f (k : Nat) (a0_0 : Int) (a0_1 : Int) (a0_2 : ByteArray) (a0_3 : Int) (l0_4 : List (S35)) (a1_0 : Int) (a1_1 : Int) (a1_2 : ByteArray) (a1_3 : Int) (l1_4 : List (S35)) : Option (Bool) := (value_Compare.f k a0_0 a0_1 a0_2 a0_3 l0_4 a1_0 a1_1 a1_2 a1_3 l1_4).bind fun t359 => (some (t359 == 0))
set_option maxHeartbeats 8000000 in
set_option maxRecDepth 100000 in
theorem value_Same.calls (k : Nat) (a0_0 : Int) (a0_1 : Int) (a0_2 : ByteArray) (a0_3 : Int) (A0_4 : Option Addr) (c0_4 : Nat) (l0_4 : List (S35)) (a1_0 : Int) (a1_1 : Int) (a1_2 : ByteArray) (a1_3 : Int) (A1_4 : Option Addr) (c1_4 : Nat) (l1_4 : List (S35)) (r : Bool) (w : World) (hr0_4 : Kd.C k35 w A0_4 l0_4.length l0_4) (hc0_4 : l0_4.length ≤ c0_4) (hr1_4 : Kd.C k35 w A1_4 l1_4.length l1_4) (hc1_4 : l1_4.length ≤ c1_4) (h : value_Same.f k a0_0 a0_1 a0_2 a0_3 l0_4 a1_0 a1_1 a1_2 a1_3 l1_4 = some r) :
    Calls Try.prog 46 #[.agg #[.int .i64 a0_0, .int .i64 a0_1, .string a0_2, .int .i64 a0_3, .slice A0_4 l0_4.length c0_4], .agg #[.int .i64 a1_0, .int .i64 a1_1, .string a1_2, .int .i64 a1_3, .slice A1_4 l1_4.length c1_4]] w fun e w' => e = .returned (.bool r) ∧ Below w.heap.size w w' := by
  have hu35 := Try.underlying35
  have HR0_4 := Aside0.mk hr0_4
  have HC0_4 := Aside0.mk hc0_4
  clear hr0_4 hc0_4
  have HR1_4 := Aside0.mk hr1_4
  have HC1_4 := Aside0.mk hc1_4
  clear hr1_4 hc1_4
  have HB := Aside0.mk (Below.refl w.heap.size w)
  have H : ((value_Compare.f k a0_0 a0_1 a0_2 a0_3 l0_4 a1_0 a1_1 a1_2 a1_3 l1_4).bind fun t359 => (some (t359 == 0))) = some r := h
  clear h
  replace H := Option.bind_eq_some_iff.mp H
  obtain ⟨t359, A30, H⟩ := H
  replace H : (some (t359 == 0)) = some r := H
  have A3 := Aside0.mk A30
  clear A30
  obtain rfl := Option.some.inj H
  go_enter Try.func46, Try.ntmps46
  go_wp2_with (first | ((with_reducible refine gate_dst (N := 2) rfl ?_); refine box_event ?hg (N := 2) ?hd (cs := #[.int .i64 a0_0, .int .i64 a0_1, .string a0_2, .int .i64 a0_3, .slice A0_4 l0_4.length c0_4]) (t := 35) ?hr ?_; (case hd => rfl); (case hg => rfl); (case hr => first | (go_simp; done) | (go_simp; rfl)); intro gb357 hg w4 hbox hb; have BK357:=Aside0.mk (hbox);have GW357:=Aside0.mk ((by rw [hg]; exact (below_size (bL0 HB)) : w.heap.size ≤ gb357));have GE357:=Aside0.mk ((by rw [hg]; exact (below_size (bL0 HB)) : w.heap.size ≤ gb357));replace HB:=bS HB hb; clear hb hbox hg) | ((with_reducible refine gate_dst (N := 3) rfl ?_); refine box_event ?hg (N := 3) ?hd (cs := #[.int .i64 a1_0, .int .i64 a1_1, .string a1_2, .int .i64 a1_3, .slice A1_4 l1_4.length c1_4]) (t := 35) ?hr ?_; (case hd => rfl); (case hg => rfl); (case hr => first | (go_simp; done) | (go_simp; rfl)); intro gb358 hg w5 hbox hb; have BK358:=Aside0.mk (hbox);have GW358:=Aside0.mk ((by rw [hg]; exact (below_size (bL1 HB GE357)) : w.heap.size ≤ gb358));have GE358:=Aside0.mk ((by rw [hg]; exact (below_size (bL1 HB GE357)) : w.heap.size ≤ gb358));replace HB:=Aside0.mk (below_step (bL1 HB GE357) hb);have NB357_358:=Aside0.mk ((by rw [hg]; exact Nat.ne_of_lt (blk_lt (bK BK357)) : gb357 ≠ gb358));have NB358_357:=Aside0.mk ((by rw [hg]; exact Nat.ne_of_gt (blk_lt (bK BK357)) : gb358 ≠ gb357));replace BK357:=bB BK357 hb; clear hb hbox hg; have hnb6 := NB357_358.out; have hnc6 := NB358_357.out; have hcz7_0 : w5.cell? ⟨gb357, 0, none⟩ = some (.int .i64 a0_0) := (blk_cell BK357.out 0).trans rfl; have hcz7_1 : w5.cell? ⟨gb357, 1, none⟩ = some (.int .i64 a0_1) := (blk_cell BK357.out 1).trans rfl; have hcz7_2 : w5.cell? ⟨gb357, 2, none⟩ = some (.string a0_2) := (blk_cell BK357.out 2).trans rfl; have hcz7_3 : w5.cell? ⟨gb357, 3, none⟩ = some (.int .i64 a0_3) := (blk_cell BK357.out 3).trans rfl; have hcz7_4 : w5.cell? ⟨gb357, 4, none⟩ = some (.slice A0_4 l0_4.length c0_4) := (blk_cell BK357.out 4).trans rfl; have hfz7_0 := blk_frozen BK357.out 0; have hfz7_1 := blk_frozen BK357.out 1; have hfz7_2 := blk_frozen BK357.out 2; have hfz7_3 := blk_frozen BK357.out 3; have hfz7_4 := blk_frozen BK357.out 4; have hcz8_0 : w5.cell? ⟨gb358, 0, none⟩ = some (.int .i64 a1_0) := (blk_cell BK358.out 0).trans rfl; have hcz8_1 : w5.cell? ⟨gb358, 1, none⟩ = some (.int .i64 a1_1) := (blk_cell BK358.out 1).trans rfl; have hcz8_2 : w5.cell? ⟨gb358, 2, none⟩ = some (.string a1_2) := (blk_cell BK358.out 2).trans rfl; have hcz8_3 : w5.cell? ⟨gb358, 3, none⟩ = some (.int .i64 a1_3) := (blk_cell BK358.out 3).trans rfl; have hcz8_4 : w5.cell? ⟨gb358, 4, none⟩ = some (.slice A1_4 l1_4.length c1_4) := (blk_cell BK358.out 4).trans rfl; have hfz8_0 := blk_frozen BK358.out 0; have hfz8_1 := blk_frozen BK358.out 1; have hfz8_2 := blk_frozen BK358.out 2; have hfz8_3 := blk_frozen BK358.out 3; have hfz8_4 := blk_frozen BK358.out 4) | ((with_reducible refine gate_callee (f := 40) rfl ?_); refine goesL_ (some 7) rfl rfl Try.func40 (by kernel_rfl) rfl #[.agg #[.int .i64 a0_0, .int .i64 a0_1, .string a0_2, .int .i64 a0_3, .slice A0_4 l0_4.length c0_4], .agg #[.int .i64 a1_0, .int .i64 a1_1, .string a1_2, .int .i64 a1_3, .slice A1_4 l1_4.length c1_4]] rfl aG ?_; (with_reducible refine (value_Compare.calls k a0_0 a0_1 a0_2 a0_3 _ _ l0_4 a1_0 a1_1 a1_2 a1_3 _ _ l1_4 t359 _ ?side1 ?side2 ?side3 ?side4 A3.out).mono ?_); (case side1 => repeat (first | exact (Kd.C_below HR0_4.out HB.out) | (with_reducible refine Kd.C_alloc ?_ _) | (with_reducible refine Kd.C_drewN ?_ _) | (with_reducible refine Kd.C_drew ?_))); (case side2 => exact HC0_4.out); (case side3 => repeat (first | exact (Kd.C_below HR1_4.out HB.out) | (with_reducible refine Kd.C_alloc ?_ _) | (with_reducible refine Kd.C_drewN ?_ _) | (with_reducible refine Kd.C_drew ?_))); (case side4 => exact HC1_4.out); rintro e w9 ⟨rfl, hb⟩; refine ⟨_, rfl, ?_⟩; replace BK357:=bB BK357 hb;replace BK358:=bB BK358 hb;replace HB:=Aside0.mk (below_step (bL2 HB GE357 GE358) hb); (try clear hb); (try clear hb2); (try clear hk); (try clear hi)))
  go_ret
  exact ⟨by first | rfl | (simp [errW_none, errW_some] <;> rfl) | (simp [*, errW_none, errW_some] <;> rfl), by repeat (first | (with_reducible first | exact HB.out | apply below_alloc | apply pw_below_drewN | apply below_drew1 | refine below_set ?_ GE357.out | refine below_set ?_ GE358.out) | exact HB.out)⟩
end Go.Proofs.Ytnokieaebnmljaa.PAll
namespace Go.Proofs.Ytnokieaebnmljaa.PAll
open Go Go.Proofs Go.RowKit Go.Shelf Go.Proofs.YtnokieaebnmljaaW.PrintWords Go.Proofs.YtnokieaebnmljaaW.PrintLast Go.Proofs.YtnokieaebnmljaaW.PrintMore Go.Proofs.Ytnokieaebnmljaa.Bx
attribute [local go_sem] Oper.semAt_some
set_option linter.unusedVariables false
set_option linter.unusedSimpArgs false
/-- How two values stand to each other, in k rounds. -/
def cmpv (k : Nat) (x y : S35) : Option Int:=value_Compare.f k x.f0 x.f1 x.f2 x.f3 x.f4 y.f0 y.f1 y.f2 y.f3 y.f4
def eqv (k : Nat) (x y : S35) : Bool:=cmpv k x y == some 0
def eqe (k : Nat) (q : S82 × S82) : Bool:=eqv k q.1.f0 q.2.f0 && eqv k q.1.f1 q.2.f1
def defe (k : Nat) (q : S82 × S82) : Prop:=(∃ c,cmpv k q.1.f0 q.2.f0 = some c) ∧ ∃ c,cmpv k q.1.f1 q.2.f1 = some c
def eqr (k : Nat) (p : List S82 × List S82) : Bool:=p.1.length == p.2.length && (p.1.zip p.2).all (eqe k)
def defs (k : Nat) (a b : List (List S82)) : Prop:=∀ p ∈ a.zip b,∀ q ∈ p.1.zip p.2,defe k q
def eqm (k : Nat) (a b : List (List S82)) : Bool:=a.length == b.length && (a.zip b).all (eqr k)
open Classical in
noncomputable def heap_Same.f (k : Nat) (a b : List (List S82)) : Option Bool:=if defs k a b then some (eqm k a b) else none
/-- A row of rows, its m-th row with its entries. -/
theorem rows_F {w : World} {ok : Nat → Prop} {A0 : Option Addr} {l0 : List (List S82)} (hF : Kd.F (Kd.slice 82 k82) w ok A0 l0.length l0) (m : Nat) (hm : m < l0.length) :
  ∃ ad Am cm,∃ es : List (EE w ok),A0 = some ad ∧ w.cell? (ad.add m) = some (.slice Am es.length cm) ∧ es.map (·.x) = l0[m] ∧ RowE w Am es.length es ∧ es.length ≤ 9223372036854775807:=by
 obtain ⟨ad,cs,rfl,hcl,hK,hcc,_⟩:=Kd.F_get hF ([] : List S82) (m : Int) (by omega) (by omega)
 obtain ⟨Am,cm,rfl,hle,hFm⟩:=Kd.FK_slice_open hK
 have hc0:=hcc 0 _ rfl
 rw [show (Kd.slice 82 k82).sz = 1 from rfl,Nat.mul_one,Nat.add_zero] at hc0
 obtain ⟨es,he,hr⟩:=rowE_of hFm
 have hn:=hr.1
 have hmax:=Kd.F_max hFm
 rw [hn] at hc0 hr hmax
 rw [Int.toNat_natCast] at hc0
 refine ⟨ad,Am,cm,es,rfl,hc0,?_,hr,hmax⟩
 rw [he]
 simp [hm]
/-- entries hands back its closure over two boxes more. -/
theorem entries_env (A0 : Option Addr) (n0 c0 : Nat) (m : Int) (W : World) :
  Calls Try.prog 39 #[.agg #[.slice A0 n0 c0], .int .i64 m] W fun e W' => ∃ gS gM,e = .returned (.func (.func 59) #[] #[.pointer (some ⟨gM,0,none⟩), .pointer (some ⟨gS,0,none⟩)]) ∧
   (∀ w bs,Env w W bs → Env w W' ((gM,#[.int .i64 m],3) :: (gS,#[.slice A0 n0 c0],27) :: bs)) ∧ Below W.heap.size W W':=by
 refine (entries_in A0 n0 c0 m W).mono ?_
 rintro e W' ⟨rfl,rfl⟩
 refine ⟨W.heap.size,W.heap.size + 1,rfl,fun w bs h => ?_,((below_alloc (Below.refl _ _) _).alloc (by simp) _)⟩
 have h2:=(h.alloc #[.slice A0 n0 c0] 27).alloc #[.int .i64 m] 3
 rwa [World.size_alloc] at h2
theorem eqm_no {k : Nat} {l0 l1 : List (List S82)} {m : Nat} (h0 : m < l0.length) (h1 : m < l1.length) (h : eqr k (l0[m],l1[m]) = false) : eqm k l0 l1 = false:=by
 unfold eqm
 have hm : (l0[m],l1[m]) ∈ l0.zip l1:=List.mem_iff_getElem.2 ⟨m,by simp;omega,by simp⟩
 rw [Bool.and_eq_false_iff]
 right
 rw [List.all_eq_false]
 exact ⟨_,hm,by simp [h]⟩
theorem vsame (k : Nat) (x y : S35) {A B : Option Addr} {c d : Nat} {W : World} (hA : Kd.C k35 W A x.f4.length x.f4) (hB : Kd.C k35 W B y.f4.length y.f4) (hc : x.f4.length ≤ c) (hd : y.f4.length ≤ d) (h : ∃ c,cmpv k x y = some c) {b : Bool} (hb : eqv k x y = b) :
  Calls Try.prog 46 #[.agg #[.int .i64 x.f0, .int .i64 x.f1, .string x.f2, .int .i64 x.f3, .slice A x.f4.length c], .agg #[.int .i64 y.f0, .int .i64 y.f1, .string y.f2, .int .i64 y.f3, .slice B y.f4.length d]] W fun e W' => e = .returned (.bool b) ∧ Below W.heap.size W W':=by
 obtain ⟨q,hq⟩:=h
 refine value_Same.calls k _ _ _ _ _ _ _ _ _ _ _ _ _ _ b W hA hc hB hd ?_
 unfold value_Same.f
 rw [show value_Compare.f k x.f0 x.f1 x.f2 x.f3 x.f4 y.f0 y.f1 y.f2 y.f3 y.f4 = some q from hq]
 rw [← hb]
 simp [eqv,hq]
theorem range_abs {P : Program} {g : Operand} {ps : Array Tmp} {assign body : Code} {Q : Exit → Act → World → Prop} {a : Act} {w : World} (h : ∀ T : Array Value,T = a.tmps → (Code.rangeFunc g ps assign body).wp P Q { tmps:=T,defers:=a.defers } w) : (Code.rangeFunc g ps assign body).wp P Q a w:=h _ rfl
theorem inf82 : (Try.prog.info? 82).map (·.size) = some 10:=by kernel_rfl
theorem inf35 : (Try.prog.info? 35).map (·.size) = some 5:=by kernel_rfl
def hsame.T6 : Bool × List (List Nat × List Nat):=(true,[([],[]),([0],[0]),([],[]),([1,2],[1,2]),([3],[3]),([4],[4]),([],[]),([6],[6]),([],[]),([7,8],[7,8]),([9],[9]),([10],[10]),([5,11],[5,11])])
def hsame.B6 : List Nat:=[0,1,0,7,15,31,0,64,0,448,960,1984,4095]
theorem hsame.tab6 : rtab .any (opsOf Try.f25 6) = hsame.T6:=by kernel_rfl
theorem hsame.bits6 : waitsOk hsame.T6.2 hsame.B6 = true:=by kernel_rfl
set_option maxHeartbeats 16000000 in
set_option maxRecDepth 100000 in
theorem heap_Same.calls (k : Nat) (A0 : Option Addr) (c0 : Nat) (l0 : List (List S82)) (A1 : Option Addr) (c1 : Nat) (l1 : List (List S82)) (w : World) (hr0 : Kd.C (Kd.slice 82 k82) w A0 l0.length l0) (hc0 : l0.length ≤ c0) (hr1 : Kd.C (Kd.slice 82 k82) w A1 l1.length l1) (hc1 : l1.length ≤ c1) (h : heap_Same.f k l0 l1 = some true) :
  Calls Try.prog 25 #[.agg #[.slice A0 l0.length c0], .agg #[.slice A1 l1.length c1]] w fun e w' => e = .returned (.bool true) ∧ Below w.heap.size w w':=by
 have hu27:=Try.underlying27
 have hu35:=Try.underlying35
 have hu82:=Try.underlying82
 have HF0:=Aside0.mk (C_F82 hr0)
 have HF1:=Aside0.mk (C_F82 hr1)
 obtain ⟨hd,hr⟩ : defs k l0 l1 ∧ eqm k l0 l1 = true:=by
  unfold heap_Same.f at h
  split at h
  ·rename_i hd
   exact ⟨hd,Option.some.inj h⟩
  exact absurd h (by simp)
 have HD:=Aside0.mk hd
 have HR:=Aside0.mk hr
 have HM0:=Aside0.mk (Kd.F_max HF0.out)
 have HM1:=Aside0.mk (Kd.F_max HF1.out)
 clear h hd hr hr0 hr1 hc0 hc1
 refine (callsIn_wide (n:=5)).1 ?_
 refine callsIn_of_wp_marks Try.func25 rfl trivial ?_ rfl
 simp only [Try.ntmps25,List.size_toArray,List.length_cons,List.length_nil,Nat.reduceAdd,Nat.reduceSub,Array.replicate_succ,Array.replicate_zero,List.push_toArray,List.append_toArray,List.nil_append,List.cons_append]
 refine wpIn_wide.2 ?_
 refine wp_mono ?_ retOnly_imp
 have HE:=Aside0.mk (Env.start w)
 by_cases hl : l0.length = l1.length
 case neg =>
  exact absurd HR.out (by simp [eqm,hl])
 case pos =>
  have q1_ : (l0.length == l1.length) = true:=by simpa using hl
  have q2_ : ((l0.length : Int) == (l1.length : Int)) = true:=by simp;omega
  have q3_ : (l0.length != l1.length) = false:=by simpa using hl
  have q4_ : ((l0.length : Int) != (l1.length : Int)) = false:=by simp;omega
  have HL:=Aside0.mk hl
  clear hl
  go_wp2_with (first|((with_reducible refine gate_dst (N:=2) rfl ?_);refine box_event ?hg (N:=2) ?hd (cs:=#[.slice A0 l0.length c0]) (t:=27) ?hr ?_;(case hd => rfl);(case hg => rfl);(case hr => first|(go_simp;done)|(go_simp;rfl));intro ga hg_ X1 hbx_ hb_;have n_:=Aside0.mk (HE.out.box hg_ hbx_ hb_);clear HE hg_ hbx_ hb_;have HE:=n_;clear n_;have z_ga_0 : X1.cell? ⟨ga,0,none⟩ = some (.slice A0 l0.length c0):=HE.out.cell 0 0 rfl rfl)|((with_reducible refine gate_dst (N:=3) rfl ?_);refine box_event ?hg (N:=3) ?hd (cs:=#[.slice A1 l1.length c1]) (t:=27) ?hr ?_;(case hd => rfl);(case hg => rfl);(case hr => first|(go_simp;done)|(go_simp;rfl));intro gb hg_ X2 hbx_ hb_;have n_:=Aside0.mk (HE.out.box hg_ hbx_ hb_);clear HE hg_ hbx_ hb_;(try clear z_ga_0);(try clear y_ga_0);have HE:=n_;clear n_;have z_gb_0 : X2.cell? ⟨gb,0,none⟩ = some (.slice A1 l1.length c1):=HE.out.cell 0 0 rfl rfl;have z_ga_0 : X2.cell? ⟨ga,0,none⟩ = some (.slice A0 l0.length c0):=HE.out.cell 1 0 rfl rfl)|((with_reducible refine gate_dst (N:=4) rfl ?_);refine box_event ?hg (N:=4) ?hd (cs:=#[.bool false]) (t:=4) ?hr ?_;(case hd => rfl);(case hg => rfl);(case hr => first|(go_simp;done)|(go_simp;rfl));intro gr hg_ X3 hbx_ hb_;have n_:=Aside0.mk (HE.out.box hg_ hbx_ hb_);clear HE hg_ hbx_ hb_;(try clear z_gb_0);(try clear z_ga_0);(try clear y_gb_0);(try clear y_ga_0);have HE:=n_;clear n_;have z_gr_0 : X3.cell? ⟨gr,0,none⟩ = some (.bool false):=HE.out.cell 0 0 rfl rfl;have z_gb_0 : X3.cell? ⟨gb,0,none⟩ = some (.slice A1 l1.length c1):=HE.out.cell 1 0 rfl rfl;have z_ga_0 : X3.cell? ⟨ga,0,none⟩ = some (.slice A0 l0.length c0):=HE.out.cell 2 0 rfl rfl))
  clear q1_ q2_ q3_ q4_
  obtain ⟨LI,hLI⟩ : ∃ LI : Act → World → Prop,LI = (fun a W' => ∃ (m : Nat) (Ds : List Nat) (u0 u1 u5 u6 u7 u8 u9 u10 u11 u12 u13 u14 u15 u16 u17 u20 u21 u22 u23 u24 u25 u26 u27 u28 u29 u30 u31 u32 u33 u34 u35 u36 u37 u38 u39 u40 u41 u42 u43 u44 u45 u46 u47 u48 u49 u50 u51 u52 u53 u54 u55 u56 u57 u58 u59 u60 u61 u62 v19 : Value),a = { tmps:=(u0 :: u1 :: .pointer (some ⟨ga,0,none⟩) :: .pointer (some ⟨gb,0,none⟩) :: .pointer (some ⟨gr,0,none⟩) :: u5 :: u6 :: u7 :: u8 :: u9 :: u10 :: u11 :: u12 :: u13 :: u14 :: u15 :: u16 :: u17 :: .int .i64 (l0.length : Int) :: v19 :: u20 :: u21 :: u22 :: u23 :: u24 :: u25 :: u26 :: u27 :: u28 :: u29 :: u30 :: u31 :: u32 :: u33 :: u34 :: u35 :: u36 :: u37 :: u38 :: u39 :: u40 :: u41 :: u42 :: u43 :: u44 :: u45 :: u46 :: u47 :: u48 :: u49 :: u50 :: u51 :: u52 :: u53 :: u54 :: u55 :: u56 :: u57 :: u58 :: u59 :: u60 :: u61 :: u62 :: []).toArray,defers:=Ds.map cmark } ∧ v19 = .int .i64 (m : Int) ∧ Aside0 (m ≤ l0.length) ∧ Aside0 (∀ p ∈ (l0.zip l1).take m,eqr k p = true) ∧ Aside0 (Env w W' [(gr,#[.bool false],4),(gb,#[.slice A1 l1.length c1],27),(ga,#[.slice A0 l0.length c0],27)]) ∧ Aside0 (Marks w W' Ds)):=⟨_,rfl⟩
  have HLI:=Aside0.mk (fun a W => Iff.of_eq (congrFun (congrFun hLI a) W))
  clear hLI
  refine wp_loop (I:=LI) (μ:=fun a _ => l0.length - (intOf (a.tmps.getD 19 undef)).toNat) ?_ ?_
  ·exact (HLI.out _ _).2 ⟨0,[],_,_,_,_,_,_,_,_,_,_,_,_,_,_,_,_,_,_,_,_,_,_,_,_,_,_,_,_,_,_,_,_,_,_,_,_,_,_,_,_,_,_,_,_,_,_,_,_,_,_,_,_,_,_,_,_,_,_,_,rfl,rfl,⟨Nat.zero_le _⟩,⟨by simp⟩,HE,⟨Marks.nil _ _⟩⟩
  intro a W hI_
  clear HE z_ga_0 z_gb_0 z_gr_0
  obtain ⟨m,Ds,u0,u1,u5,u6,u7,u8,u9,u10,u11,u12,u13,u14,u15,u16,u17,u20,u21,u22,u23,u24,u25,u26,u27,u28,u29,u30,u31,u32,u33,u34,u35,u36,u37,u38,u39,u40,u41,u42,u43,u44,u45,u46,u47,u48,u49,u50,u51,u52,u53,u54,u55,u56,u57,u58,u59,u60,u61,u62,v19,rfl,rfl,HMm,HP,HE,HK⟩:=(HLI.out _ _).1 hI_
  by_cases hm : m < l0.length
  case neg =>
   obtain rfl : m = l0.length:=by have:=HMm.out;omega
   have hz : (l0.zip l1).take l0.length = l0.zip l1:=List.take_of_length_le (by simp;omega)
   clear hz hm
   have z_gr_0 : W.cell? ⟨gr,0,none⟩ = some (.bool false):=HE.out.cell 0 0 rfl rfl
   have z_gb_0 : W.cell? ⟨gb,0,none⟩ = some (.slice A1 l1.length c1):=HE.out.cell 1 0 rfl rfl
   have z_ga_0 : W.cell? ⟨ga,0,none⟩ = some (.slice A0 l0.length c0):=HE.out.cell 2 0 rfl rfl
   go_wp2_with (first|((with_reducible refine gate_store (t:=4) (p:=4) rfl ?_);have y_gr_0 : W.frozen? ⟨gr,0,none⟩ = false:=HE.out.frz 0 0 rfl;have z_gr_0 : W.cell? ⟨gr,0,none⟩ = some (.bool false):=HE.out.cell 0 0 rfl rfl;refine store_event (w1:=(W.setCell ⟨gr,0,none⟩ (.bool true))) rfl rfl rfl (by first|(go_simp;done)|(go_simp;rfl)) ?_;intro X4 hw_;have n_ : Aside0 (Marks w X4 _):=⟨by rw [hw_];exact (HK.out.set (HE.out.at 0 rfl).2 0 (.bool true))⟩;clear HK;have HK:=n_;clear n_;have n_ : Aside0 (Env w X4 [(gr,#[.bool true],4),(gb,#[.slice A1 l1.length c1],27),(ga,#[.slice A0 l0.length c0],27)]):=⟨by rw [hw_];exact (HE.out.set 0 rfl 0 (.bool true))⟩;clear HE hw_;(try clear z_gr_0);(try clear z_gb_0);(try clear z_ga_0);(try clear y_gr_0);(try clear y_gb_0);(try clear y_ga_0);have HE:=n_;clear n_;have z_gr_0 : X4.cell? ⟨gr,0,none⟩ = some (.bool true):=HE.out.cell 0 0 rfl rfl;have z_gb_0 : X4.cell? ⟨gb,0,none⟩ = some (.slice A1 l1.length c1):=HE.out.cell 1 0 rfl rfl;have z_ga_0 : X4.cell? ⟨ga,0,none⟩ = some (.slice A0 l0.length c0):=HE.out.cell 2 0 rfl rfl))
   show LeavesInM Fence.wide 5 Try.prog Try.f25 _ _ _ .returning _
   have hq_ : (shut X4 Ds).cell? ⟨gr,0,none⟩ = some (.bool true):=(HE.out.shut HK.out).cell 0 0 rfl rfl
   refine leaves_marks (w:=w) (Ds:=Ds) HK.out ⟨.bool true,?_,rfl,(HE.out.shut HK.out).below⟩
   simp [results,Try.f25,go_sem,hq_]
  case pos =>
   have hm1 : m < l1.length:=by have:=HL.out;omega
   obtain ⟨ad0,Am,cm,es,hA0,hrow0,hes,hre,hmx0⟩:=rows_F HF0.out m hm
   obtain ⟨ad1,An,cn,es1,hA1,hrow1,hes1,hre1,hmx1⟩:=rows_F HF1.out m hm1
   rw [hA0] at HE HF0
   rw [hA1] at HE HF1
   have HA0:=Aside0.mk hA0
   have HA1:=Aside0.mk hA1
   clear hA0 hA1
   have HROW0:=Aside0.mk hrow0
   have HROW1:=Aside0.mk hrow1
   have HES:=Aside0.mk hes
   have HES1:=Aside0.mk hes1
   have HRE1:=Aside0.mk hre1
   have HMX0:=Aside0.mk hmx0
   have HMX1:=Aside0.mk hmx1
   clear hrow0 hrow1 hes hes1 hre hre1 hmx0 hmx1
   have hdm : decide ((m : Int) < (l0.length : Int)) = true:=decide_eq_true (by omega)
   have hdn : decide (m < l0.length) = true:=decide_eq_true hm
   have z_gr_0 : W.cell? ⟨gr,0,none⟩ = some (.bool false):=HE.out.cell 0 0 rfl rfl
   have z_gb_0 : W.cell? ⟨gb,0,none⟩ = some (.slice (some ad1) l1.length c1):=HE.out.cell 1 0 rfl rfl
   have z_ga_0 : W.cell? ⟨ga,0,none⟩ = some (.slice (some ad0) l0.length c0):=HE.out.cell 2 0 rfl rfl
   go_wp2_with (first|((with_reducible refine gate_dst (N:=5) rfl ?_);refine box_event ?hg (N:=5) ?hd (cs:=#[.int .i64 0]) (t:=3) ?hr ?_;(case hd => rfl);(case hg => rfl);(case hr => first|(go_simp;done)|(go_simp;rfl));intro gm hg_ X5 hbx_ hb_;have n_:=Aside0.mk (HK.out.call hb_);clear HK;have HK:=n_;clear n_;have n_:=Aside0.mk (HE.out.box hg_ hbx_ hb_);clear HE hg_ hbx_ hb_;(try clear z_gr_0);(try clear z_gb_0);(try clear z_ga_0);(try clear y_gr_0);(try clear y_gb_0);(try clear y_ga_0);have HE:=n_;clear n_;have z_gm_0 : X5.cell? ⟨gm,0,none⟩ = some (.int .i64 0):=HE.out.cell 0 0 rfl rfl;have z_gr_0 : X5.cell? ⟨gr,0,none⟩ = some (.bool false):=HE.out.cell 1 0 rfl rfl;have z_gb_0 : X5.cell? ⟨gb,0,none⟩ = some (.slice (some ad1) l1.length c1):=HE.out.cell 2 0 rfl rfl;have z_ga_0 : X5.cell? ⟨ga,0,none⟩ = some (.slice (some ad0) l0.length c0):=HE.out.cell 3 0 rfl rfl)|((with_reducible refine gate_store (t:=3) (p:=5) rfl ?_);have y_gm_0 : X5.frozen? ⟨gm,0,none⟩ = false:=HE.out.frz 0 0 rfl;have z_gm_0 : X5.cell? ⟨gm,0,none⟩ = some (.int .i64 0):=HE.out.cell 0 0 rfl rfl;refine store_event (w1:=(X5.setCell ⟨gm,0,none⟩ (.int .i64 (m : Int)))) rfl rfl rfl (by first|(go_simp;done)|(go_simp;rfl)) ?_;intro X6 hw_;have n_ : Aside0 (Marks w X6 _):=⟨by rw [hw_];exact (HK.out.set (HE.out.at 0 rfl).2 0 (.int .i64 (m : Int)))⟩;clear HK;have HK:=n_;clear n_;have n_ : Aside0 (Env w X6 [(gm,#[.int .i64 (m : Int)],3),(gr,#[.bool false],4),(gb,#[.slice (some ad1) l1.length c1],27),(ga,#[.slice (some ad0) l0.length c0],27)]):=⟨by rw [hw_];exact (HE.out.set 0 rfl 0 (.int .i64 (m : Int)))⟩;clear HE hw_;(try clear z_gm_0);(try clear z_gr_0);(try clear z_gb_0);(try clear z_ga_0);(try clear y_gm_0);(try clear y_gr_0);(try clear y_gb_0);(try clear y_ga_0);have HE:=n_;clear n_;have z_gm_0 : X6.cell? ⟨gm,0,none⟩ = some (.int .i64 (m : Int)):=HE.out.cell 0 0 rfl rfl;have z_gr_0 : X6.cell? ⟨gr,0,none⟩ = some (.bool false):=HE.out.cell 1 0 rfl rfl;have z_gb_0 : X6.cell? ⟨gb,0,none⟩ = some (.slice (some ad1) l1.length c1):=HE.out.cell 2 0 rfl rfl;have z_ga_0 : X6.cell? ⟨ga,0,none⟩ = some (.slice (some ad0) l0.length c0):=HE.out.cell 3 0 rfl rfl))
   (try clear z_gm_0)
   (try clear z_gr_0)
   (try clear z_gb_0)
   (try clear z_ga_0)
   (try clear y_gm_0)
   (try clear y_gr_0)
   (try clear y_gb_0)
   (try clear y_ga_0)
   have n_:=Aside0.mk (HK.out.call (below_drew (Below.refl _ _)))
   clear HK
   have HK:=n_
   clear n_
   have n_:=Aside0.mk (HE.out.call (below_drew (Below.refl _ _)))
   clear HE
   have HE:=n_
   clear n_
   refine start_ (n:=13) (S:=fun w' => w'.cell? ⟨ga,0,none⟩ = some (.slice (some ad0) l0.length c0) ∧ w'.cell? ⟨gb,0,none⟩ = some (.slice (some ad1) l1.length c1) ∧ w'.cell? ⟨gm,0,none⟩ = some (.int .i64 (m : Int)) ∧ w'.cell? (ad0.add m) = some (.slice Am es.length cm) ∧ w'.cell? (ad1.add m) = some (.slice An es1.length cn)) (ds:=[]) #[fF,fF,fF,fF,fF,fF,fF,fF,fF,fF,fF,fF,fF] (by kernel_rfl) rfl rfl ⟨HE.out.cell 3 0 rfl rfl,HE.out.cell 2 0 rfl rfl,HE.out.cell 0 0 rfl rfl,HE.out.old HROW0.out,HE.out.old HROW1.out⟩ (fun hHeld => ?_)
   refine with_tabW hsame.tab6 hsame.bits6 (fun HT_ HW_ => ?_)
   generalize X6.drew = wq at HE HK hHeld ⊢
   refine pU 0 (some 22) HT_ rfl ?_
   refine pU 6 (some 28) HT_ rfl ?_
   refine tA 1 (some 23) HT_ HW_ hHeld rfl ?_
   refine tA 2 (some 24) HT_ HW_ hHeld rfl ?_
   refine pU 3 (some 25) HT_ rfl ?_
   refine tA 4 (some 26) HT_ HW_ hHeld rfl ?_
   refine pU 5 (some 27) HT_ rfl ?_
   refine tA 7 (some 29) HT_ HW_ hHeld rfl ?_
   refine tA 8 (some 30) HT_ HW_ hHeld rfl ?_
   refine pU 9 (some 31) HT_ rfl ?_
   refine tA 10 (some 32) HT_ HW_ hHeld rfl ?_
   refine pU 11 (some 33) HT_ rfl ?_
   refine pU 12 (some 34) HT_ rfl ?_
   refine done_ (done_of HT_.out (by kernel_rfl)) ?_
    
   clear hHeld
   by_cases hlen : es.length = es1.length
   case neg =>
    have hrf : eqm k l0 l1 = false:=eqm_no hm hm1 (by
     unfold eqr
     rw [Bool.and_eq_false_iff]
     left
     rw [← HES.out,← HES1.out]
     simpa using hlen)
    exact absurd (hrf.symm.trans HR.out) (by decide)
   case pos =>
    have q1_ : (es.length == es1.length) = true:=by simpa using hlen
    have q2_ : ((es.length : Int) == (es1.length : Int)) = true:=by simp;omega
    have q3_ : (es.length != es1.length) = false:=by simpa using hlen
    have q4_ : ((es.length : Int) != (es1.length : Int)) = false:=by simp;omega
    have HLEN:=Aside0.mk hlen
    clear hlen
    have z_gm_0 : wq.cell? ⟨gm,0,none⟩ = some (.int .i64 (m : Int)):=HE.out.cell 0 0 rfl rfl
    have z_gr_0 : wq.cell? ⟨gr,0,none⟩ = some (.bool false):=HE.out.cell 1 0 rfl rfl
    have z_gb_0 : wq.cell? ⟨gb,0,none⟩ = some (.slice (some ad1) l1.length c1):=HE.out.cell 2 0 rfl rfl
    have z_ga_0 : wq.cell? ⟨ga,0,none⟩ = some (.slice (some ad0) l0.length c0):=HE.out.cell 3 0 rfl rfl
    go_wp2_with (fail)
    clear q1_ q2_ q3_ q4_
    refine (entries_env (some ad0) l0.length c0 (m : Int) _).mono ?_
    rintro e_ wl ⟨gS,gM,rfl,henv,hbl⟩
    dsimp only
    have n0_:=Aside0.mk (henv w _ HE.out)
    clear henv
    (try clear z_gm_0)
    (try clear z_gr_0)
    (try clear z_gb_0)
    (try clear z_ga_0)
    (try clear y_gm_0)
    (try clear y_gr_0)
    (try clear y_gb_0)
    (try clear y_ga_0)
    have n_:=Aside0.mk (HK.out.call hbl)
    clear HK
    have HK:=n_
    clear n_
    have n_:=Aside0.mk (HE.out.call hbl)
    clear HE
    have HE:=n_
    clear n_
    clear HE hbl
    have HE:=n0_
    clear n0_
    go_wp2_with (fail)
    refine range_abs fun T hT => ?_
    dsimp only at hT ⊢
    obtain ⟨xs,hxs,hst⟩:=entries_stops w wl HE.out.below (fun k => k < w.heap.size) gM gS (some ad0) c0 l0 (m : Int) HF0.out (HE.out.lt 0 rfl) (HE.out.lt 1 rfl) (HE.out.cell 0 0 rfl rfl) (HE.out.cell 1 0 rfl rfl)
    have hxs2 : xs.map (·.x) = l0[m]:=by
     rw [hxs]
     simp [mapOf,rd_L4,hm]
    have HP1:=hst (fun p => ∃ h : p.1 < xs.length,p.2 = xs[p.1]) (by
     intro p hp
     obtain ⟨i,hi,rfl⟩:=List.getElem_of_mem hp
     rw [en_length] at hi
     rw [en_getElem xs i _ hi]
     exact ⟨hi,rfl⟩)
    have HXS:=Aside0.mk hxs2
    clear hxs hxs2 hst
    obtain ⟨I,hI⟩ : ∃ I : List { p : Nat × EE w (fun k => k < w.heap.size) // ∃ h : p.1 < xs.length,p.2 = xs[p.1] } → World → Prop,I = (fun pre W' => Aside0 (∀ p ∈ pre,eqe k (p.1.2.x,(l1[m]).getD p.1.1 z82) = true) ∧ Aside0 (Env w W' [(gM,#[.int .i64 (m : Int)],3),(gS,#[.slice (some ad0) l0.length c0],27),(gm,#[.int .i64 (m : Int)],3),(gr,#[.bool false],4),(gb,#[.slice (some ad1) l1.length c1],27),(ga,#[.slice (some ad0) l0.length c0],27)]) ∧ Aside0 (Marks w W' Ds)):=⟨_,rfl⟩
    obtain ⟨Ix,hIx⟩ : ∃ Ix : Code → List { p : Nat × EE w (fun k => k < w.heap.size) // ∃ h : p.1 < xs.length,p.2 = xs[p.1] } → World → Prop,Ix = (fun c pre W' => False):=⟨_,rfl⟩
    have HI:=Aside0.mk (fun pre W => Iff.of_eq (congrFun (congrFun hI pre) W))
    have HIx:=Aside0.mk (fun c pre W => Iff.of_eq (congrFun (congrFun (congrFun hIx c) pre) W))
    clear hI hIx
    have HDl:=Aside0.mk HK.out.lt
    have HSZ:=Aside0.mk HE.out.size
    refine (wpIn_wide (n:=4)).1 ?_
    refine wpIn_rangeFunc_ownH (n:=4) rfl (by omega) (gf:=59) (lb:=#[.pointer (some ⟨gM,0,none⟩), .pointer (some ⟨gS,0,none⟩)]) (by rw [hT];rfl) trivial (enters_of Try.func59 (by kernel_rfl) rfl)
     HP1 belowK_t (belowK_b HE.out.size) (Below.refl _ _) (fun _ => rfl)
     I Ix ?hI ?hIx ((HI.out _ _).2 ⟨⟨by simp⟩,HE,HK⟩)
     (fun x a' W' => ∃ Bx,Aside0 (W'.heap[Bx]? = some (.cells #[.int .i64 x.1.2.x.f0.f0, .int .i64 x.1.2.x.f0.f1, .string x.1.2.x.f0.f2, .int .i64 x.1.2.x.f0.f3, .slice x.1.2.A4 x.1.2.x.f0.f4.length x.1.2.c4, .int .i64 x.1.2.x.f1.f0, .int .i64 x.1.2.x.f1.f1, .string x.1.2.x.f1.f2, .int .i64 x.1.2.x.f1.f3, .slice x.1.2.A9 x.1.2.x.f1.f4.length x.1.2.c9] 82 (0,0))) ∧ a' = { tmps:=(((T.setIfInBounds 38 (.int .i64 (x.1.1 : Int))).setIfInBounds 39 x.1.2.v).setIfInBounds 6 (.int .i64 (x.1.1 : Int))).setIfInBounds 7 (.pointer (some ⟨Bx,0,none⟩)),defers:=[] })
     ?hAx ?assign ?body ?done ?stop
    case hI =>
     intro s X Y row hs_ hg hr
     obtain ⟨h1,h2,h3⟩:=(HI.out _ _).1 hs_
     exact (HI.out _ _).2 ⟨h1,⟨h2.out.from HE.out.size hg hr⟩,⟨h3.out.from HDl.out hg hr⟩⟩
    case hIx =>
     intro c s X Y row hs_ hg hr
     exact ((HIx.out _ _ _).1 hs_).elim
    case hAx =>
     rintro x a' s X Y row ⟨Bx,bx,ha⟩ hg hr
     exact ⟨Bx,blk_from bx hg hr,ha⟩
    case assign =>
     intro l pre x W K hi_ hK_
     obtain ⟨h1,h2,h3⟩:=(HI.out _ _).1 hi_
     clear hi_
     subst hT
     simp only [EE.v] at hK_ ⊢
     gi_wp2
     exact hK_ _ _ ((KeepsOthers.alloc _ _).from _) ((Below.refl _ W).alloc h2.out.size _) ((HI.out _ _).2 ⟨h1,⟨h2.out.call (below_alloc (Below.refl _ _) _)⟩,⟨h3.out.call (below_alloc (Below.refl _ _) _)⟩⟩) ⟨W.heap.size,⟨World.alloc_heap_new W _⟩,by first|(simp;done)|(simp;have h_:=HLEN.out;omega)|rfl⟩
    case body =>
     rintro l pre x a' W hl hrec hi_ ⟨Bx,bx,rfl⟩ hlt
     obtain ⟨h1,HE,HK⟩:=(HI.out _ _).1 hi_
     clear hi_ hlt hrec
     subst hT
     have hx2:=x.2
     obtain ⟨⟨ix,e⟩,hxv⟩ : ∃ q,q = x.1:=⟨_,rfl⟩
     rw [← hxv] at bx hx2 ⊢
     simp only at bx hx2 ⊢
     obtain ⟨hix,hee⟩:=hx2
     have HXV:=Aside0.mk hxv
     have hxl : xs.length = es1.length:=by
      have h1_:=congrArg List.length HXS.out
      have h2_:=congrArg List.length HES.out
      have h3_:=HLEN.out
      simp only [List.length_map] at h1_ h2_
      omega
     have hix1 : ix < es1.length:=by omega
     obtain ⟨ad2,rfl,p0,p1,p2,p3,p4,p5,p6,p7,p8,p9⟩:=HRE1.out.2 ix hix1
     have hl1 : (l1[m]).getD ix z82 = es1[ix].x:=by
      have h_ : (es1.map (·.x))[ix]'(by simpa using hix1) = es1[ix].x:=by simp
      rw [← h_]
      have hh:=HES1.out
      simp only [← hh]
      simp [hix1]
     have hdf : defe k (e.x,es1[ix].x):=by
      refine HD.out (l0[m],l1[m]) (List.mem_iff_getElem.2 ⟨m,by simp;omega,by simp⟩) _ ?_
      refine List.mem_iff_getElem.2 ⟨ix,?_,?_⟩
      ·simp only [List.length_zip]
       rw [← HXS.out,← HES1.out]
       simp
       omega
      have a1:=HXS.out
      have a2:=HES1.out
      simp only [List.getElem_zip,← a1,← a2,List.getElem_map]
      rw [← hee]
     have htr : eqe k (e.x,es1[ix].x) = true:=by
      have h1:=HR.out
      unfold eqm at h1
      rw [Bool.and_eq_true,List.all_eq_true] at h1
      have h2:=h1.2 (l0[m],l1[m]) (List.mem_iff_getElem.2 ⟨m,by simp;omega,by simp⟩)
      unfold eqr at h2
      rw [Bool.and_eq_true,List.all_eq_true] at h2
      refine h2.2 _ (List.mem_iff_getElem.2 ⟨ix,?_,?_⟩)
      ·simp only [List.length_zip]
       rw [← HXS.out,← HES1.out]
       simp
       omega
      have a1:=HXS.out
      have a2:=HES1.out
      simp only [List.getElem_zip,← a1,← a2,List.getElem_map]
      rw [← hee]
     obtain ⟨hk1,hk2⟩ : eqv k e.x.f0 es1[ix].x.f0 = true ∧ eqv k e.x.f1 es1[ix].x.f1 = true:=by simpa [eqe] using htr
     have HK1:=Aside0.mk hk1
     have HK2:=Aside0.mk hk2
     clear hk1 hk2 htr
     have HL1:=Aside0.mk hl1
     have HDF:=Aside0.mk hdf
     have P0:=Aside0.mk (And.intro p0 (And.intro p1 (And.intro p2 (And.intro p3 (And.intro p4 (And.intro p5 (And.intro p6 (And.intro p7 (And.intro p8 p9)))))))))
     clear hl1 hdf hee hxv p0 p1 p2 p3 p4 p5 p6 p7 p8 p9
     generalize es1[ix] = e1 at HL1 HDF HK1 HK2 P0
     have HX:=Aside0.mk (Env.start W)
     have hd : 1 ≤ 4 - 1 - 1:=by omega
     simp only [EE.v,List.setIfInBounds_toArray,List.set_cons_zero,List.set_cons_succ]
     have o_gb : W.cell? ⟨gb,0,none⟩ = some (.slice (some ad1) l1.length c1):=HX.out.old (HE.out.cell 4 0 rfl rfl)
     have o_gm : W.cell? ⟨gm,0,none⟩ = some (.int .i64 (m : Int)):=HX.out.old (HE.out.cell 2 0 rfl rfl)
     have o_row : W.cell? (ad1.add m) = some (.slice (some ad2) es1.length cn):=HX.out.old (HE.out.old HROW1.out)
     have o_e0 : W.cell? (ad2.add (ix * 10)) = some (.int .i64 e1.x.f0.f0):=HX.out.old (HE.out.old P0.out.1)
     have o_e1 : W.cell? ⟨(ad2.add (ix * 10)).block,(ad2.add (ix * 10)).off + 1,none⟩ = some (.int .i64 e1.x.f0.f1):=HX.out.old (HE.out.old P0.out.2.1)
     have o_e2 : W.cell? ⟨(ad2.add (ix * 10)).block,(ad2.add (ix * 10)).off + 2,none⟩ = some (.string e1.x.f0.f2):=HX.out.old (HE.out.old P0.out.2.2.1)
     have o_e3 : W.cell? ⟨(ad2.add (ix * 10)).block,(ad2.add (ix * 10)).off + 3,none⟩ = some (.int .i64 e1.x.f0.f3):=HX.out.old (HE.out.old P0.out.2.2.2.1)
     have o_e4 : W.cell? ⟨(ad2.add (ix * 10)).block,(ad2.add (ix * 10)).off + 4,none⟩ = some (.slice e1.A4 e1.x.f0.f4.length e1.c4):=HX.out.old (HE.out.old P0.out.2.2.2.2.1)
     have o_e5 : W.cell? ⟨(ad2.add (ix * 10)).block,(ad2.add (ix * 10)).off + 5,none⟩ = some (.int .i64 e1.x.f1.f0):=HX.out.old (HE.out.old P0.out.2.2.2.2.2.1)
     have o_e6 : W.cell? ⟨(ad2.add (ix * 10)).block,(ad2.add (ix * 10)).off + 6,none⟩ = some (.int .i64 e1.x.f1.f1):=HX.out.old (HE.out.old P0.out.2.2.2.2.2.2.1)
     have o_e7 : W.cell? ⟨(ad2.add (ix * 10)).block,(ad2.add (ix * 10)).off + 7,none⟩ = some (.string e1.x.f1.f2):=HX.out.old (HE.out.old P0.out.2.2.2.2.2.2.2.1)
     have o_e8 : W.cell? ⟨(ad2.add (ix * 10)).block,(ad2.add (ix * 10)).off + 8,none⟩ = some (.int .i64 e1.x.f1.f3):=HX.out.old (HE.out.old P0.out.2.2.2.2.2.2.2.2.1)
     have o_e9 : W.cell? ⟨(ad2.add (ix * 10)).block,(ad2.add (ix * 10)).off + 9,none⟩ = some (.slice e1.A9 e1.x.f1.f4.length e1.c9):=HX.out.old (HE.out.old P0.out.2.2.2.2.2.2.2.2.2)
     have o_x0 : W.cell? ⟨Bx,0,none⟩ = some (.int .i64 e.x.f0.f0):=HX.out.old ((blk_cell bx.out 0).trans rfl)
     have o_x1 : W.cell? ⟨Bx,1,none⟩ = some (.int .i64 e.x.f0.f1):=HX.out.old ((blk_cell bx.out 1).trans rfl)
     have o_x2 : W.cell? ⟨Bx,2,none⟩ = some (.string e.x.f0.f2):=HX.out.old ((blk_cell bx.out 2).trans rfl)
     have o_x3 : W.cell? ⟨Bx,3,none⟩ = some (.int .i64 e.x.f0.f3):=HX.out.old ((blk_cell bx.out 3).trans rfl)
     have o_x4 : W.cell? ⟨Bx,4,none⟩ = some (.slice e.A4 e.x.f0.f4.length e.c4):=HX.out.old ((blk_cell bx.out 4).trans rfl)
     have o_x5 : W.cell? ⟨Bx,5,none⟩ = some (.int .i64 e.x.f1.f0):=HX.out.old ((blk_cell bx.out 5).trans rfl)
     have o_x6 : W.cell? ⟨Bx,6,none⟩ = some (.int .i64 e.x.f1.f1):=HX.out.old ((blk_cell bx.out 6).trans rfl)
     have o_x7 : W.cell? ⟨Bx,7,none⟩ = some (.string e.x.f1.f2):=HX.out.old ((blk_cell bx.out 7).trans rfl)
     have o_x8 : W.cell? ⟨Bx,8,none⟩ = some (.int .i64 e.x.f1.f3):=HX.out.old ((blk_cell bx.out 8).trans rfl)
     have o_x9 : W.cell? ⟨Bx,9,none⟩ = some (.slice e.A9 e.x.f1.f4.length e.c9):=HX.out.old ((blk_cell bx.out 9).trans rfl)
     gi_wp2_with (first|((with_reducible refine gatei_dst (N:=8) rfl ?_);refine boxi_event ?hg (N:=8) ?hd (by first|exact .inl rfl|exact .inr ⟨_,rfl⟩) (cs:=#[.int .i64 0, .int .i64 0, .string (⟨#[]⟩ : ByteArray), .int .i64 0, .slice none 0 0, .int .i64 0, .int .i64 0, .string (⟨#[]⟩ : ByteArray), .int .i64 0, .slice none 0 0]) (t:=82) ?hr ?_;(case hd => rfl);(case hg => rfl);(case hr => first|(go_simp;done)|(go_simp;rfl));intro go hg_ X7 hbx_ hb_;have n_:=Aside0.mk (HX.out.box hg_ hbx_ hb_);clear HX hg_ hbx_ hb_;(try clear o_gb);(try clear o_gm);(try clear o_row);(try clear o_e0);(try clear o_e1);(try clear o_e2);(try clear o_e3);(try clear o_e4);(try clear o_e5);(try clear o_e6);(try clear o_e7);(try clear o_e8);(try clear o_e9);(try clear o_x0);(try clear o_x1);(try clear o_x2);(try clear o_x3);(try clear o_x4);(try clear o_x5);(try clear o_x6);(try clear o_x7);(try clear o_x8);(try clear o_x9);have HX:=n_;clear n_;have z_go_0 : X7.cell? ⟨go,0,none⟩ = some (.int .i64 0):=HX.out.cell 0 0 rfl rfl;have z_go_1 : X7.cell? ⟨go,1,none⟩ = some (.int .i64 0):=HX.out.cell 0 1 rfl rfl;have z_go_2 : X7.cell? ⟨go,2,none⟩ = some (.string (⟨#[]⟩ : ByteArray)):=HX.out.cell 0 2 rfl rfl;have z_go_3 : X7.cell? ⟨go,3,none⟩ = some (.int .i64 0):=HX.out.cell 0 3 rfl rfl;have z_go_4 : X7.cell? ⟨go,4,none⟩ = some (.slice none 0 0):=HX.out.cell 0 4 rfl rfl;have z_go_5 : X7.cell? ⟨go,5,none⟩ = some (.int .i64 0):=HX.out.cell 0 5 rfl rfl;have z_go_6 : X7.cell? ⟨go,6,none⟩ = some (.int .i64 0):=HX.out.cell 0 6 rfl rfl;have z_go_7 : X7.cell? ⟨go,7,none⟩ = some (.string (⟨#[]⟩ : ByteArray)):=HX.out.cell 0 7 rfl rfl;have z_go_8 : X7.cell? ⟨go,8,none⟩ = some (.int .i64 0):=HX.out.cell 0 8 rfl rfl;have z_go_9 : X7.cell? ⟨go,9,none⟩ = some (.slice none 0 0):=HX.out.cell 0 9 rfl rfl;have o_gb : X7.cell? ⟨gb,0,none⟩ = some (.slice (some ad1) l1.length c1):=HX.out.old (HE.out.cell 4 0 rfl rfl);have o_gm : X7.cell? ⟨gm,0,none⟩ = some (.int .i64 (m : Int)):=HX.out.old (HE.out.cell 2 0 rfl rfl);have o_row : X7.cell? (ad1.add m) = some (.slice (some ad2) es1.length cn):=HX.out.old (HE.out.old HROW1.out);have o_e0 : X7.cell? (ad2.add (ix * 10)) = some (.int .i64 e1.x.f0.f0):=HX.out.old (HE.out.old P0.out.1);have o_e1 : X7.cell? ⟨(ad2.add (ix * 10)).block,(ad2.add (ix * 10)).off + 1,none⟩ = some (.int .i64 e1.x.f0.f1):=HX.out.old (HE.out.old P0.out.2.1);have o_e2 : X7.cell? ⟨(ad2.add (ix * 10)).block,(ad2.add (ix * 10)).off + 2,none⟩ = some (.string e1.x.f0.f2):=HX.out.old (HE.out.old P0.out.2.2.1);have o_e3 : X7.cell? ⟨(ad2.add (ix * 10)).block,(ad2.add (ix * 10)).off + 3,none⟩ = some (.int .i64 e1.x.f0.f3):=HX.out.old (HE.out.old P0.out.2.2.2.1);have o_e4 : X7.cell? ⟨(ad2.add (ix * 10)).block,(ad2.add (ix * 10)).off + 4,none⟩ = some (.slice e1.A4 e1.x.f0.f4.length e1.c4):=HX.out.old (HE.out.old P0.out.2.2.2.2.1);have o_e5 : X7.cell? ⟨(ad2.add (ix * 10)).block,(ad2.add (ix * 10)).off + 5,none⟩ = some (.int .i64 e1.x.f1.f0):=HX.out.old (HE.out.old P0.out.2.2.2.2.2.1);have o_e6 : X7.cell? ⟨(ad2.add (ix * 10)).block,(ad2.add (ix * 10)).off + 6,none⟩ = some (.int .i64 e1.x.f1.f1):=HX.out.old (HE.out.old P0.out.2.2.2.2.2.2.1);have o_e7 : X7.cell? ⟨(ad2.add (ix * 10)).block,(ad2.add (ix * 10)).off + 7,none⟩ = some (.string e1.x.f1.f2):=HX.out.old (HE.out.old P0.out.2.2.2.2.2.2.2.1);have o_e8 : X7.cell? ⟨(ad2.add (ix * 10)).block,(ad2.add (ix * 10)).off + 8,none⟩ = some (.int .i64 e1.x.f1.f3):=HX.out.old (HE.out.old P0.out.2.2.2.2.2.2.2.2.1);have o_e9 : X7.cell? ⟨(ad2.add (ix * 10)).block,(ad2.add (ix * 10)).off + 9,none⟩ = some (.slice e1.A9 e1.x.f1.f4.length e1.c9):=HX.out.old (HE.out.old P0.out.2.2.2.2.2.2.2.2.2);have o_x0 : X7.cell? ⟨Bx,0,none⟩ = some (.int .i64 e.x.f0.f0):=HX.out.old ((blk_cell bx.out 0).trans rfl);have o_x1 : X7.cell? ⟨Bx,1,none⟩ = some (.int .i64 e.x.f0.f1):=HX.out.old ((blk_cell bx.out 1).trans rfl);have o_x2 : X7.cell? ⟨Bx,2,none⟩ = some (.string e.x.f0.f2):=HX.out.old ((blk_cell bx.out 2).trans rfl);have o_x3 : X7.cell? ⟨Bx,3,none⟩ = some (.int .i64 e.x.f0.f3):=HX.out.old ((blk_cell bx.out 3).trans rfl);have o_x4 : X7.cell? ⟨Bx,4,none⟩ = some (.slice e.A4 e.x.f0.f4.length e.c4):=HX.out.old ((blk_cell bx.out 4).trans rfl);have o_x5 : X7.cell? ⟨Bx,5,none⟩ = some (.int .i64 e.x.f1.f0):=HX.out.old ((blk_cell bx.out 5).trans rfl);have o_x6 : X7.cell? ⟨Bx,6,none⟩ = some (.int .i64 e.x.f1.f1):=HX.out.old ((blk_cell bx.out 6).trans rfl);have o_x7 : X7.cell? ⟨Bx,7,none⟩ = some (.string e.x.f1.f2):=HX.out.old ((blk_cell bx.out 7).trans rfl);have o_x8 : X7.cell? ⟨Bx,8,none⟩ = some (.int .i64 e.x.f1.f3):=HX.out.old ((blk_cell bx.out 8).trans rfl);have o_x9 : X7.cell? ⟨Bx,9,none⟩ = some (.slice e.A9 e.x.f1.f4.length e.c9):=HX.out.old ((blk_cell bx.out 9).trans rfl))|((with_reducible refine gatei_store (t:=82) (p:=8) rfl ?_);refine storei_event (w1:=X7.setRow go #[.int .i64 e1.x.f0.f0, .int .i64 e1.x.f0.f1, .string e1.x.f0.f2, .int .i64 e1.x.f0.f3, .slice e1.A4 e1.x.f0.f4.length e1.c4, .int .i64 e1.x.f1.f0, .int .i64 e1.x.f1.f1, .string e1.x.f1.f2, .int .i64 e1.x.f1.f3, .slice e1.A9 e1.x.f1.f4.length e1.c9]) rfl rfl rfl (run_row rfl rfl rfl (HX.out.at 0 rfl).2 inf82 rfl (by first|rfl|simp [Value.oneCell'])) ?_;intro X8 hw_;have n_ : Aside0 (Env W X8 [(go,#[.int .i64 e1.x.f0.f0, .int .i64 e1.x.f0.f1, .string e1.x.f0.f2, .int .i64 e1.x.f0.f3, .slice e1.A4 e1.x.f0.f4.length e1.c4, .int .i64 e1.x.f1.f0, .int .i64 e1.x.f1.f1, .string e1.x.f1.f2, .int .i64 e1.x.f1.f3, .slice e1.A9 e1.x.f1.f4.length e1.c9],82)]):=⟨by rw [hw_];exact HX.out.row 0 rfl #[.int .i64 e1.x.f0.f0, .int .i64 e1.x.f0.f1, .string e1.x.f0.f2, .int .i64 e1.x.f0.f3, .slice e1.A4 e1.x.f0.f4.length e1.c4, .int .i64 e1.x.f1.f0, .int .i64 e1.x.f1.f1, .string e1.x.f1.f2, .int .i64 e1.x.f1.f3, .slice e1.A9 e1.x.f1.f4.length e1.c9]⟩;clear HX hw_;(try clear z_go_0);(try clear z_go_1);(try clear z_go_2);(try clear z_go_3);(try clear z_go_4);(try clear z_go_5);(try clear z_go_6);(try clear z_go_7);(try clear z_go_8);(try clear z_go_9);(try clear y_go_0);(try clear y_go_1);(try clear y_go_2);(try clear y_go_3);(try clear y_go_4);(try clear y_go_5);(try clear y_go_6);(try clear y_go_7);(try clear y_go_8);(try clear y_go_9);(try clear o_gb);(try clear o_gm);(try clear o_row);(try clear o_e0);(try clear o_e1);(try clear o_e2);(try clear o_e3);(try clear o_e4);(try clear o_e5);(try clear o_e6);(try clear o_e7);(try clear o_e8);(try clear o_e9);(try clear o_x0);(try clear o_x1);(try clear o_x2);(try clear o_x3);(try clear o_x4);(try clear o_x5);(try clear o_x6);(try clear o_x7);(try clear o_x8);(try clear o_x9);have HX:=n_;clear n_;have z_go_0 : X8.cell? ⟨go,0,none⟩ = some (.int .i64 e1.x.f0.f0):=HX.out.cell 0 0 rfl rfl;have z_go_1 : X8.cell? ⟨go,1,none⟩ = some (.int .i64 e1.x.f0.f1):=HX.out.cell 0 1 rfl rfl;have z_go_2 : X8.cell? ⟨go,2,none⟩ = some (.string e1.x.f0.f2):=HX.out.cell 0 2 rfl rfl;have z_go_3 : X8.cell? ⟨go,3,none⟩ = some (.int .i64 e1.x.f0.f3):=HX.out.cell 0 3 rfl rfl;have z_go_4 : X8.cell? ⟨go,4,none⟩ = some (.slice e1.A4 e1.x.f0.f4.length e1.c4):=HX.out.cell 0 4 rfl rfl;have z_go_5 : X8.cell? ⟨go,5,none⟩ = some (.int .i64 e1.x.f1.f0):=HX.out.cell 0 5 rfl rfl;have z_go_6 : X8.cell? ⟨go,6,none⟩ = some (.int .i64 e1.x.f1.f1):=HX.out.cell 0 6 rfl rfl;have z_go_7 : X8.cell? ⟨go,7,none⟩ = some (.string e1.x.f1.f2):=HX.out.cell 0 7 rfl rfl;have z_go_8 : X8.cell? ⟨go,8,none⟩ = some (.int .i64 e1.x.f1.f3):=HX.out.cell 0 8 rfl rfl;have z_go_9 : X8.cell? ⟨go,9,none⟩ = some (.slice e1.A9 e1.x.f1.f4.length e1.c9):=HX.out.cell 0 9 rfl rfl;have o_gb : X8.cell? ⟨gb,0,none⟩ = some (.slice (some ad1) l1.length c1):=HX.out.old (HE.out.cell 4 0 rfl rfl);have o_gm : X8.cell? ⟨gm,0,none⟩ = some (.int .i64 (m : Int)):=HX.out.old (HE.out.cell 2 0 rfl rfl);have o_row : X8.cell? (ad1.add m) = some (.slice (some ad2) es1.length cn):=HX.out.old (HE.out.old HROW1.out);have o_e0 : X8.cell? (ad2.add (ix * 10)) = some (.int .i64 e1.x.f0.f0):=HX.out.old (HE.out.old P0.out.1);have o_e1 : X8.cell? ⟨(ad2.add (ix * 10)).block,(ad2.add (ix * 10)).off + 1,none⟩ = some (.int .i64 e1.x.f0.f1):=HX.out.old (HE.out.old P0.out.2.1);have o_e2 : X8.cell? ⟨(ad2.add (ix * 10)).block,(ad2.add (ix * 10)).off + 2,none⟩ = some (.string e1.x.f0.f2):=HX.out.old (HE.out.old P0.out.2.2.1);have o_e3 : X8.cell? ⟨(ad2.add (ix * 10)).block,(ad2.add (ix * 10)).off + 3,none⟩ = some (.int .i64 e1.x.f0.f3):=HX.out.old (HE.out.old P0.out.2.2.2.1);have o_e4 : X8.cell? ⟨(ad2.add (ix * 10)).block,(ad2.add (ix * 10)).off + 4,none⟩ = some (.slice e1.A4 e1.x.f0.f4.length e1.c4):=HX.out.old (HE.out.old P0.out.2.2.2.2.1);have o_e5 : X8.cell? ⟨(ad2.add (ix * 10)).block,(ad2.add (ix * 10)).off + 5,none⟩ = some (.int .i64 e1.x.f1.f0):=HX.out.old (HE.out.old P0.out.2.2.2.2.2.1);have o_e6 : X8.cell? ⟨(ad2.add (ix * 10)).block,(ad2.add (ix * 10)).off + 6,none⟩ = some (.int .i64 e1.x.f1.f1):=HX.out.old (HE.out.old P0.out.2.2.2.2.2.2.1);have o_e7 : X8.cell? ⟨(ad2.add (ix * 10)).block,(ad2.add (ix * 10)).off + 7,none⟩ = some (.string e1.x.f1.f2):=HX.out.old (HE.out.old P0.out.2.2.2.2.2.2.2.1);have o_e8 : X8.cell? ⟨(ad2.add (ix * 10)).block,(ad2.add (ix * 10)).off + 8,none⟩ = some (.int .i64 e1.x.f1.f3):=HX.out.old (HE.out.old P0.out.2.2.2.2.2.2.2.2.1);have o_e9 : X8.cell? ⟨(ad2.add (ix * 10)).block,(ad2.add (ix * 10)).off + 9,none⟩ = some (.slice e1.A9 e1.x.f1.f4.length e1.c9):=HX.out.old (HE.out.old P0.out.2.2.2.2.2.2.2.2.2);have o_x0 : X8.cell? ⟨Bx,0,none⟩ = some (.int .i64 e.x.f0.f0):=HX.out.old ((blk_cell bx.out 0).trans rfl);have o_x1 : X8.cell? ⟨Bx,1,none⟩ = some (.int .i64 e.x.f0.f1):=HX.out.old ((blk_cell bx.out 1).trans rfl);have o_x2 : X8.cell? ⟨Bx,2,none⟩ = some (.string e.x.f0.f2):=HX.out.old ((blk_cell bx.out 2).trans rfl);have o_x3 : X8.cell? ⟨Bx,3,none⟩ = some (.int .i64 e.x.f0.f3):=HX.out.old ((blk_cell bx.out 3).trans rfl);have o_x4 : X8.cell? ⟨Bx,4,none⟩ = some (.slice e.A4 e.x.f0.f4.length e.c4):=HX.out.old ((blk_cell bx.out 4).trans rfl);have o_x5 : X8.cell? ⟨Bx,5,none⟩ = some (.int .i64 e.x.f1.f0):=HX.out.old ((blk_cell bx.out 5).trans rfl);have o_x6 : X8.cell? ⟨Bx,6,none⟩ = some (.int .i64 e.x.f1.f1):=HX.out.old ((blk_cell bx.out 6).trans rfl);have o_x7 : X8.cell? ⟨Bx,7,none⟩ = some (.string e.x.f1.f2):=HX.out.old ((blk_cell bx.out 7).trans rfl);have o_x8 : X8.cell? ⟨Bx,8,none⟩ = some (.int .i64 e.x.f1.f3):=HX.out.old ((blk_cell bx.out 8).trans rfl);have o_x9 : X8.cell? ⟨Bx,9,none⟩ = some (.slice e.A9 e.x.f1.f4.length e.c9):=HX.out.old ((blk_cell bx.out 9).trans rfl)))
     refine ⟨trivial,?_⟩
     refine (CallsIn.inRound l (callsIn_wide.2 (vsame k e.x.f0 e1.x.f0 (Kd.F_now (Kd.F_below e.rd4 (HE.out.below.trans (HX.out.below.mono HE.out.size)))) (Kd.F_now (Kd.F_below e1.rd4 (HE.out.below.trans (HX.out.below.mono HE.out.size)))) e.le4 e1.le4 HDF.out.1 (b:=true) HK1.out))).mono ?_
     rintro e_ W3 ⟨rfl,hb3⟩
     dsimp only
     (try clear z_go_0)
     (try clear z_go_1)
     (try clear z_go_2)
     (try clear z_go_3)
     (try clear z_go_4)
     (try clear z_go_5)
     (try clear z_go_6)
     (try clear z_go_7)
     (try clear z_go_8)
     (try clear z_go_9)
     (try clear y_go_0)
     (try clear y_go_1)
     (try clear y_go_2)
     (try clear y_go_3)
     (try clear y_go_4)
     (try clear y_go_5)
     (try clear y_go_6)
     (try clear y_go_7)
     (try clear y_go_8)
     (try clear y_go_9)
     (try clear o_gb)
     (try clear o_gm)
     (try clear o_row)
     (try clear o_e0)
     (try clear o_e1)
     (try clear o_e2)
     (try clear o_e3)
     (try clear o_e4)
     (try clear o_e5)
     (try clear o_e6)
     (try clear o_e7)
     (try clear o_e8)
     (try clear o_e9)
     (try clear o_x0)
     (try clear o_x1)
     (try clear o_x2)
     (try clear o_x3)
     (try clear o_x4)
     (try clear o_x5)
     (try clear o_x6)
     (try clear o_x7)
     (try clear o_x8)
     (try clear o_x9)
     have n_:=Aside0.mk (HX.out.call hb3)
     clear HX
     have HX:=n_
     clear n_
     have z_go_0 : W3.cell? ⟨go,0,none⟩ = some (.int .i64 e1.x.f0.f0):=HX.out.cell 0 0 rfl rfl
     have z_go_1 : W3.cell? ⟨go,1,none⟩ = some (.int .i64 e1.x.f0.f1):=HX.out.cell 0 1 rfl rfl
     have z_go_2 : W3.cell? ⟨go,2,none⟩ = some (.string e1.x.f0.f2):=HX.out.cell 0 2 rfl rfl
     have z_go_3 : W3.cell? ⟨go,3,none⟩ = some (.int .i64 e1.x.f0.f3):=HX.out.cell 0 3 rfl rfl
     have z_go_4 : W3.cell? ⟨go,4,none⟩ = some (.slice e1.A4 e1.x.f0.f4.length e1.c4):=HX.out.cell 0 4 rfl rfl
     have z_go_5 : W3.cell? ⟨go,5,none⟩ = some (.int .i64 e1.x.f1.f0):=HX.out.cell 0 5 rfl rfl
     have z_go_6 : W3.cell? ⟨go,6,none⟩ = some (.int .i64 e1.x.f1.f1):=HX.out.cell 0 6 rfl rfl
     have z_go_7 : W3.cell? ⟨go,7,none⟩ = some (.string e1.x.f1.f2):=HX.out.cell 0 7 rfl rfl
     have z_go_8 : W3.cell? ⟨go,8,none⟩ = some (.int .i64 e1.x.f1.f3):=HX.out.cell 0 8 rfl rfl
     have z_go_9 : W3.cell? ⟨go,9,none⟩ = some (.slice e1.A9 e1.x.f1.f4.length e1.c9):=HX.out.cell 0 9 rfl rfl
     have o_gb : W3.cell? ⟨gb,0,none⟩ = some (.slice (some ad1) l1.length c1):=HX.out.old (HE.out.cell 4 0 rfl rfl)
     have o_gm : W3.cell? ⟨gm,0,none⟩ = some (.int .i64 (m : Int)):=HX.out.old (HE.out.cell 2 0 rfl rfl)
     have o_row : W3.cell? (ad1.add m) = some (.slice (some ad2) es1.length cn):=HX.out.old (HE.out.old HROW1.out)
     have o_e0 : W3.cell? (ad2.add (ix * 10)) = some (.int .i64 e1.x.f0.f0):=HX.out.old (HE.out.old P0.out.1)
     have o_e1 : W3.cell? ⟨(ad2.add (ix * 10)).block,(ad2.add (ix * 10)).off + 1,none⟩ = some (.int .i64 e1.x.f0.f1):=HX.out.old (HE.out.old P0.out.2.1)
     have o_e2 : W3.cell? ⟨(ad2.add (ix * 10)).block,(ad2.add (ix * 10)).off + 2,none⟩ = some (.string e1.x.f0.f2):=HX.out.old (HE.out.old P0.out.2.2.1)
     have o_e3 : W3.cell? ⟨(ad2.add (ix * 10)).block,(ad2.add (ix * 10)).off + 3,none⟩ = some (.int .i64 e1.x.f0.f3):=HX.out.old (HE.out.old P0.out.2.2.2.1)
     have o_e4 : W3.cell? ⟨(ad2.add (ix * 10)).block,(ad2.add (ix * 10)).off + 4,none⟩ = some (.slice e1.A4 e1.x.f0.f4.length e1.c4):=HX.out.old (HE.out.old P0.out.2.2.2.2.1)
     have o_e5 : W3.cell? ⟨(ad2.add (ix * 10)).block,(ad2.add (ix * 10)).off + 5,none⟩ = some (.int .i64 e1.x.f1.f0):=HX.out.old (HE.out.old P0.out.2.2.2.2.2.1)
     have o_e6 : W3.cell? ⟨(ad2.add (ix * 10)).block,(ad2.add (ix * 10)).off + 6,none⟩ = some (.int .i64 e1.x.f1.f1):=HX.out.old (HE.out.old P0.out.2.2.2.2.2.2.1)
     have o_e7 : W3.cell? ⟨(ad2.add (ix * 10)).block,(ad2.add (ix * 10)).off + 7,none⟩ = some (.string e1.x.f1.f2):=HX.out.old (HE.out.old P0.out.2.2.2.2.2.2.2.1)
     have o_e8 : W3.cell? ⟨(ad2.add (ix * 10)).block,(ad2.add (ix * 10)).off + 8,none⟩ = some (.int .i64 e1.x.f1.f3):=HX.out.old (HE.out.old P0.out.2.2.2.2.2.2.2.2.1)
     have o_e9 : W3.cell? ⟨(ad2.add (ix * 10)).block,(ad2.add (ix * 10)).off + 9,none⟩ = some (.slice e1.A9 e1.x.f1.f4.length e1.c9):=HX.out.old (HE.out.old P0.out.2.2.2.2.2.2.2.2.2)
     have o_x0 : W3.cell? ⟨Bx,0,none⟩ = some (.int .i64 e.x.f0.f0):=HX.out.old ((blk_cell bx.out 0).trans rfl)
     have o_x1 : W3.cell? ⟨Bx,1,none⟩ = some (.int .i64 e.x.f0.f1):=HX.out.old ((blk_cell bx.out 1).trans rfl)
     have o_x2 : W3.cell? ⟨Bx,2,none⟩ = some (.string e.x.f0.f2):=HX.out.old ((blk_cell bx.out 2).trans rfl)
     have o_x3 : W3.cell? ⟨Bx,3,none⟩ = some (.int .i64 e.x.f0.f3):=HX.out.old ((blk_cell bx.out 3).trans rfl)
     have o_x4 : W3.cell? ⟨Bx,4,none⟩ = some (.slice e.A4 e.x.f0.f4.length e.c4):=HX.out.old ((blk_cell bx.out 4).trans rfl)
     have o_x5 : W3.cell? ⟨Bx,5,none⟩ = some (.int .i64 e.x.f1.f0):=HX.out.old ((blk_cell bx.out 5).trans rfl)
     have o_x6 : W3.cell? ⟨Bx,6,none⟩ = some (.int .i64 e.x.f1.f1):=HX.out.old ((blk_cell bx.out 6).trans rfl)
     have o_x7 : W3.cell? ⟨Bx,7,none⟩ = some (.string e.x.f1.f2):=HX.out.old ((blk_cell bx.out 7).trans rfl)
     have o_x8 : W3.cell? ⟨Bx,8,none⟩ = some (.int .i64 e.x.f1.f3):=HX.out.old ((blk_cell bx.out 8).trans rfl)
     have o_x9 : W3.cell? ⟨Bx,9,none⟩ = some (.slice e.A9 e.x.f1.f4.length e.c9):=HX.out.old ((blk_cell bx.out 9).trans rfl)
     clear hb3
     gi_wp2
     refine ⟨trivial,?_⟩
     refine (CallsIn.inRound l (callsIn_wide.2 (vsame k e.x.f1 e1.x.f1 (Kd.F_now (Kd.F_below e.rd9 (HE.out.below.trans (HX.out.below.mono HE.out.size)))) (Kd.F_now (Kd.F_below e1.rd9 (HE.out.below.trans (HX.out.below.mono HE.out.size)))) e.le9 e1.le9 HDF.out.2 (b:=true) HK2.out))).mono ?_
     rintro e_ W4 ⟨rfl,hb3⟩
     dsimp only
     (try clear z_go_0)
     (try clear z_go_1)
     (try clear z_go_2)
     (try clear z_go_3)
     (try clear z_go_4)
     (try clear z_go_5)
     (try clear z_go_6)
     (try clear z_go_7)
     (try clear z_go_8)
     (try clear z_go_9)
     (try clear y_go_0)
     (try clear y_go_1)
     (try clear y_go_2)
     (try clear y_go_3)
     (try clear y_go_4)
     (try clear y_go_5)
     (try clear y_go_6)
     (try clear y_go_7)
     (try clear y_go_8)
     (try clear y_go_9)
     (try clear o_gb)
     (try clear o_gm)
     (try clear o_row)
     (try clear o_e0)
     (try clear o_e1)
     (try clear o_e2)
     (try clear o_e3)
     (try clear o_e4)
     (try clear o_e5)
     (try clear o_e6)
     (try clear o_e7)
     (try clear o_e8)
     (try clear o_e9)
     (try clear o_x0)
     (try clear o_x1)
     (try clear o_x2)
     (try clear o_x3)
     (try clear o_x4)
     (try clear o_x5)
     (try clear o_x6)
     (try clear o_x7)
     (try clear o_x8)
     (try clear o_x9)
     have n_:=Aside0.mk (HX.out.call hb3)
     clear HX
     have HX:=n_
     clear n_
     have o_gb : W4.cell? ⟨gb,0,none⟩ = some (.slice (some ad1) l1.length c1):=HX.out.old (HE.out.cell 4 0 rfl rfl)
     have o_gm : W4.cell? ⟨gm,0,none⟩ = some (.int .i64 (m : Int)):=HX.out.old (HE.out.cell 2 0 rfl rfl)
     have o_row : W4.cell? (ad1.add m) = some (.slice (some ad2) es1.length cn):=HX.out.old (HE.out.old HROW1.out)
     have o_e0 : W4.cell? (ad2.add (ix * 10)) = some (.int .i64 e1.x.f0.f0):=HX.out.old (HE.out.old P0.out.1)
     have o_e1 : W4.cell? ⟨(ad2.add (ix * 10)).block,(ad2.add (ix * 10)).off + 1,none⟩ = some (.int .i64 e1.x.f0.f1):=HX.out.old (HE.out.old P0.out.2.1)
     have o_e2 : W4.cell? ⟨(ad2.add (ix * 10)).block,(ad2.add (ix * 10)).off + 2,none⟩ = some (.string e1.x.f0.f2):=HX.out.old (HE.out.old P0.out.2.2.1)
     have o_e3 : W4.cell? ⟨(ad2.add (ix * 10)).block,(ad2.add (ix * 10)).off + 3,none⟩ = some (.int .i64 e1.x.f0.f3):=HX.out.old (HE.out.old P0.out.2.2.2.1)
     have o_e4 : W4.cell? ⟨(ad2.add (ix * 10)).block,(ad2.add (ix * 10)).off + 4,none⟩ = some (.slice e1.A4 e1.x.f0.f4.length e1.c4):=HX.out.old (HE.out.old P0.out.2.2.2.2.1)
     have o_e5 : W4.cell? ⟨(ad2.add (ix * 10)).block,(ad2.add (ix * 10)).off + 5,none⟩ = some (.int .i64 e1.x.f1.f0):=HX.out.old (HE.out.old P0.out.2.2.2.2.2.1)
     have o_e6 : W4.cell? ⟨(ad2.add (ix * 10)).block,(ad2.add (ix * 10)).off + 6,none⟩ = some (.int .i64 e1.x.f1.f1):=HX.out.old (HE.out.old P0.out.2.2.2.2.2.2.1)
     have o_e7 : W4.cell? ⟨(ad2.add (ix * 10)).block,(ad2.add (ix * 10)).off + 7,none⟩ = some (.string e1.x.f1.f2):=HX.out.old (HE.out.old P0.out.2.2.2.2.2.2.2.1)
     have o_e8 : W4.cell? ⟨(ad2.add (ix * 10)).block,(ad2.add (ix * 10)).off + 8,none⟩ = some (.int .i64 e1.x.f1.f3):=HX.out.old (HE.out.old P0.out.2.2.2.2.2.2.2.2.1)
     have o_e9 : W4.cell? ⟨(ad2.add (ix * 10)).block,(ad2.add (ix * 10)).off + 9,none⟩ = some (.slice e1.A9 e1.x.f1.f4.length e1.c9):=HX.out.old (HE.out.old P0.out.2.2.2.2.2.2.2.2.2)
     have o_x0 : W4.cell? ⟨Bx,0,none⟩ = some (.int .i64 e.x.f0.f0):=HX.out.old ((blk_cell bx.out 0).trans rfl)
     have o_x1 : W4.cell? ⟨Bx,1,none⟩ = some (.int .i64 e.x.f0.f1):=HX.out.old ((blk_cell bx.out 1).trans rfl)
     have o_x2 : W4.cell? ⟨Bx,2,none⟩ = some (.string e.x.f0.f2):=HX.out.old ((blk_cell bx.out 2).trans rfl)
     have o_x3 : W4.cell? ⟨Bx,3,none⟩ = some (.int .i64 e.x.f0.f3):=HX.out.old ((blk_cell bx.out 3).trans rfl)
     have o_x4 : W4.cell? ⟨Bx,4,none⟩ = some (.slice e.A4 e.x.f0.f4.length e.c4):=HX.out.old ((blk_cell bx.out 4).trans rfl)
     have o_x5 : W4.cell? ⟨Bx,5,none⟩ = some (.int .i64 e.x.f1.f0):=HX.out.old ((blk_cell bx.out 5).trans rfl)
     have o_x6 : W4.cell? ⟨Bx,6,none⟩ = some (.int .i64 e.x.f1.f1):=HX.out.old ((blk_cell bx.out 6).trans rfl)
     have o_x7 : W4.cell? ⟨Bx,7,none⟩ = some (.string e.x.f1.f2):=HX.out.old ((blk_cell bx.out 7).trans rfl)
     have o_x8 : W4.cell? ⟨Bx,8,none⟩ = some (.int .i64 e.x.f1.f3):=HX.out.old ((blk_cell bx.out 8).trans rfl)
     have o_x9 : W4.cell? ⟨Bx,9,none⟩ = some (.slice e.A9 e.x.f1.f4.length e.c9):=HX.out.old ((blk_cell bx.out 9).trans rfl)
     clear hb3
     gi_wp2
     refine ⟨keeps_of_below HX.out.below,HX.out.below.mono HE.out.size,(HI.out _ _).2 ⟨⟨fun p hp => ?_⟩,⟨HE.out.call HX.out.below⟩,⟨HK.out.call HX.out.below⟩⟩⟩
     rcases List.mem_append.1 hp with hp|hp
     ·exact h1.out p hp
     obtain rfl:=List.mem_singleton.1 hp
     rw [← HXV.out]
     show eqe k (e.x,(l1[m]).getD ix z82) = true
     rw [HL1.out]
     simp [eqe,HK1.out,HK2.out]
    case done =>
     intro D ys W hD hys hi_ hK
     obtain ⟨h1,HE,HK⟩:=(HI.out _ _).1 hi_
     clear hi_
     subst hT
     have HQ : Aside0 (eqr k (l0[m],l1[m]) = true):=⟨by
      unfold eqr
      rw [Bool.and_eq_true,beq_iff_eq,List.all_eq_true]
      have a1:=HXS.out
      have a2:=congrArg List.length HES.out
      have a3:=congrArg List.length HES1.out
      have a4:=HLEN.out
      simp only [List.length_map] at a2 a3
      refine ⟨by simp only [← a2,← a3];exact a4,fun q hq => ?_⟩
      obtain ⟨i,hi,rfl⟩:=List.mem_iff_getElem.1 hq
      simp only [List.length_zip] at hi
      have hx0 : xs.length = (l0[m]).length:=by rw [← a1];simp
      have hi0 : i < xs.length:=by omega
      have hin : (i,xs[i]) ∈ en xs:=List.mem_iff_getElem.2 ⟨i,by rw [en_length];exact hi0,en_getElem xs i _ hi0⟩
      rw [← hys] at hin
      obtain ⟨p,hp,he⟩:=List.mem_map.1 hin
      have:=h1.out p hp
      rw [he] at this
      simp only at this
      rw [List.getElem_zip]
      have hl0 : (l0[m])[i]'(by omega) = xs[i].x:=by simp only [← a1,List.getElem_map]
      rw [hl0]
      have hl1 : (l1[m]).getD i z82 = (l1[m])[i]'(by omega):=by rw [List.getD_eq_getElem?_getD,List.getElem?_eq_getElem (by omega)];rfl
      rw [← hl1]
      exact this⟩
     have HK2 : Aside0 (Marks w W (D :: Ds)):=⟨HK.out.cons (Nat.le_trans HSZ.out hD) (fun E hE => Nat.lt_of_lt_of_le (HDl.out E hE) hD) hK⟩
     clear hD hys hK h1 HK
     have HK:=HK2
     clear HK2
     go_wp2
     refine ⟨(HLI.out _ _).2 ⟨m + 1,D :: Ds,_,_,_,_,_,_,_,_,_,_,_,_,_,_,_,_,_,_,_,_,_,_,_,_,_,_,_,_,_,_,_,_,_,_,_,_,_,_,_,_,_,_,_,_,_,_,_,_,_,_,_,_,_,_,_,_,_,_,_,rfl,?_,⟨hm⟩,⟨fun p hp => ?_⟩,⟨?_⟩,HK⟩,?_⟩
     ·rw [wrap_in _ (by have:=HM0.out;omega)];rfl
     ·rw [List.take_succ_eq_append_getElem (by simp;omega)] at hp
      rcases List.mem_append.1 hp with hp|hp
      ·exact HP.out p hp
      obtain rfl:=List.mem_singleton.1 hp
      rw [List.getElem_zip]
      exact HQ.out
     ·rw [HA0.out,HA1.out]
      exact HE.out.sub (List.Sublist.cons _ (List.Sublist.cons _ (List.Sublist.cons _ (List.Sublist.refl _))))
     show l0.length - (intOf (.int .i64 (wrap64 ((m : Int) + 1)))).toNat < l0.length - (intOf (.int .i64 (m : Int))).toNat
     rw [wrap_in ((m : Int) + 1) (by have:=HM0.out;omega)]
     simp only [intOf]
     omega
    case stop =>
     intro D c pre W hD hpre hi_ hK
     exact ((HIx.out _ _ _).1 hi_).elim
end Go.Proofs.Ytnokieaebnmljaa.PAll
