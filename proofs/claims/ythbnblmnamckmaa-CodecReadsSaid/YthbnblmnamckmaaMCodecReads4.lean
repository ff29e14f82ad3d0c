-- Laid by a program of this seat (wip/merge.py): PAllx44, PAllx45, PAllx46.
import Derived.Test.YthbnblmnamckmaaMCodecReads0
import Derived.Test.YthbnblmnamckmaaMCodecReads1
import Derived.Test.YthbnblmnamckmaaMCodecReads2
import Derived.Test.YthbnblmnamckmaaMCodecReads3
-- Laid by a program of this seat (wip/xprint.py over the kit's print).
namespace Go.Proofs.Ythbnblmnamckmaa.PAll
open Go.RowKit Go.Proofs.YthbnblmnamckmaaW.PrintWords Go.Proofs.YthbnblmnamckmaaW.PrintLast Go.Proofs.YthbnblmnamckmaaW.PrintMore
attribute [local go_sem] max2_int min2_int max_two min_two max_three min_three max_four min_four   -- for this text's walks alone
set_option linter.unusedVariables false
set_option linter.unusedSimpArgs false

/-! ### codec_Event: function 32 -/
mutual
def codec_Event.j0 : Nat → List Int → Int → Bool → ByteArray → Option (ByteArray × (List (S24)) × Int × Int)
 | 0,_,_,_,_ => none
 | k + 1,x585000,x585001,x585002,x590000 => (codec_reader_count.f k x585000 x585001 x585002 12).bind fun bt590 => (codec_Event.l0 k bt590.1 0 bt590.2.1 bt590.2.2.1 bt590.2.2.2 x590000 ([] : List (S24)))
def codec_Event.l0 : Nat → Int → Int → List Int → Int → Bool → ByteArray → List (S24) → Option (ByteArray × (List (S24)) × Int × Int)
 | 0,_,_,_,_,_,_,_ => none
 | k + 1,x33,x34,x585000,x585001,x585002,x590000,x590001 => if x34 < x33 then ((codec_reader_value.f k x585000 x585001 x585002 false).bind fun bt594 => (if x590001.length < 2199023255552 then (codec_Event.l0 k x33 (wrap64 (x34 + 1)) bt594.2.2.2.2.2.1 bt594.2.2.2.2.2.2.1 bt594.2.2.2.2.2.2.2 x590000 (x590001 ++ [(⟨bt594.1,bt594.2.1,bt594.2.2.1,bt594.2.2.2.1,bt594.2.2.2.2.1⟩ : S24)])) else (none))) else (if x585002 = true then (some ((⟨#[]⟩ : ByteArray),([] : List (S24)),0,20)) else (some (x590000,x590001,x585001,0)))
end
def codec_Event.f (k : Nat) (l0 : List Int) : Option (ByteArray × (List (S24)) × Int × Int):=(codec_reader_text.f k l0 0 false).bind fun bt585 => (if bt585.2.2.2 = true then (codec_Event.j0 k bt585.2.1 bt585.2.2.1 true bt585.1) else (if (bt585.1.size : Int) < 1 then (codec_Event.j0 k bt585.2.1 bt585.2.2.1 true bt585.1) else (codec_Event.j0 k bt585.2.1 bt585.2.2.1 (decide ((bt585.1.size : Int) > 20)) bt585.1)))
theorem codec_Event.mono_l : ∀ k,(∀ y0 y1 y2 y3,LeO (codec_Event.j0 k y0 y1 y2 y3) (codec_Event.j0 (k + 1) y0 y1 y2 y3)) ∧ (∀ y0 y1 y2 y3 y4 y5 y6,LeO (codec_Event.l0 k y0 y1 y2 y3 y4 y5 y6) (codec_Event.l0 (k + 1) y0 y1 y2 y3 y4 y5 y6))
 | 0 => ⟨fun _ _ _ _ r h => by simp [codec_Event.j0] at h,fun _ _ _ _ _ _ _ r h => by simp [codec_Event.l0] at h⟩
 | k + 1 => by
  obtain ⟨ih0,ih1⟩:=codec_Event.mono_l k
  refine ⟨?_,?_⟩
  ·intro y0 y1 y2 y3
   unfold codec_Event.j0
   repeat' first
   | (with_reducible exact ih0 _ _ _ _)
   | (with_reducible exact ih1 _ _ _ _ _ _ _)
   | (with_reducible exact codec_reader_count.mono _ _ _ _ _)
   | (with_reducible exact codec_reader_text.mono _ _ _ _)
   | (with_reducible exact codec_reader_value.mono _ _ _ _ _)
   | (with_reducible exact LeO.refl _)
   | (with_reducible exact LeO.none _)
   | (with_reducible refine LeO.ite ?_ ?_)
   | (with_reducible refine LeO.bind ?_ (fun _ => ?_))
   | exact ih0 _ _ _ _
   | exact ih1 _ _ _ _ _ _ _
   | exact codec_reader_count.mono _ _ _ _ _
   | exact codec_reader_text.mono _ _ _ _
   | exact codec_reader_value.mono _ _ _ _ _
   | exact LeO.none _
   | refine LeO.ite ?_ ?_
   | refine LeO.bind ?_ (fun _ => ?_)
  ·intro y0 y1 y2 y3 y4 y5 y6
   unfold codec_Event.l0
   repeat' first
   | (with_reducible exact ih0 _ _ _ _)
   | (with_reducible exact ih1 _ _ _ _ _ _ _)
   | (with_reducible exact codec_reader_count.mono _ _ _ _ _)
   | (with_reducible exact codec_reader_text.mono _ _ _ _)
   | (with_reducible exact codec_reader_value.mono _ _ _ _ _)
   | (with_reducible exact LeO.refl _)
   | (with_reducible exact LeO.none _)
   | (with_reducible refine LeO.ite ?_ ?_)
   | (with_reducible refine LeO.bind ?_ (fun _ => ?_))
   | exact ih0 _ _ _ _
   | exact ih1 _ _ _ _ _ _ _
   | exact codec_reader_count.mono _ _ _ _ _
   | exact codec_reader_text.mono _ _ _ _
   | exact codec_reader_value.mono _ _ _ _ _
   | exact LeO.none _
   | refine LeO.ite ?_ ?_
   | refine LeO.bind ?_ (fun _ => ?_)
theorem codec_Event.mono : ∀ a0 k,LeO (codec_Event.f k a0) (codec_Event.f (k + 1) a0):=by
 intro a0 k
 obtain ⟨ih0,ih1⟩:=codec_Event.mono_l k
 unfold codec_Event.f
 repeat' first
   | (with_reducible exact ih0 _ _ _ _)
   | (with_reducible exact ih1 _ _ _ _ _ _ _)
   | (with_reducible exact codec_reader_count.mono _ _ _ _ _)
   | (with_reducible exact codec_reader_text.mono _ _ _ _)
   | (with_reducible exact codec_reader_value.mono _ _ _ _ _)
   | (with_reducible exact LeO.refl _)
   | (with_reducible exact LeO.none _)
   | (with_reducible refine LeO.ite ?_ ?_)
   | (with_reducible refine LeO.bind ?_ (fun _ => ?_))
   | exact ih0 _ _ _ _
   | exact ih1 _ _ _ _ _ _ _
   | exact codec_reader_count.mono _ _ _ _ _
   | exact codec_reader_text.mono _ _ _ _
   | exact codec_reader_value.mono _ _ _ _ _
   | exact LeO.none _
   | refine LeO.ite ?_ ?_
   | refine LeO.bind ?_ (fun _ => ?_)
def codec_Event.T6 : Bool × List (List Nat × List Nat):=(true,[([],[]),([0],[0]),([],[]),([2],[2]),([3],[3]),([1,4,3],[1,4]),([0,1,2,3,4,5],[]),([6,5,5,0,1,2,3,4,5],[5,6])])
def codec_Event.B6 : List Nat:=[0,1,0,4,12,31,63,127]
theorem codec_Event.tab6 : rtab .any (opsOf Try.f32 6) = codec_Event.T6:=by kernel_rfl
theorem codec_Event.bits6 : waitsOk codec_Event.T6.2 codec_Event.B6 = true:=by kernel_rfl
def codec_Event.T10 : Bool × List (List Nat × List Nat):=(true,[([],[]),([],[]),([1],[1]),([2],[2]),([3],[3]),([0,0],[0]),([4,5,0,1,2,3,4,5],[4]),([6,0,1,2,3,4,5,6],[])])
def codec_Event.B10 : List Nat:=[0,0,2,6,14,1,63,127]
theorem codec_Event.tab10 : rtab .any (opsOf Try.f32 10) = codec_Event.T10:=by kernel_rfl
theorem codec_Event.bits10 : waitsOk codec_Event.T10.2 codec_Event.B10 = true:=by kernel_rfl
set_option maxHeartbeats 8000000 in
set_option maxRecDepth 100000 in
theorem codec_Event.calls (k : Nat) (A0 : Option Addr) (c0 : Nat) (l0 : List Int) (r1 : ByteArray) (r2 : List (S24)) (r3 : Int) (r4 : Int) (w : World) (hr0 : Kd.C (Kd.int .u8) w A0 l0.length l0) (hc0 : l0.length ≤ c0) (h : codec_Event.f k l0 = some (r1,r2,r3,r4)) :
  Calls Try.prog 32 #[.slice A0 l0.length c0] w fun e w' => ∃ v1_ : Value,e = .returned (.tuple #[.agg #[.string r1,v1_], .int .i64 r3, .int .i64 r4]) ∧ Kd.R k24 24 w' w.heap.size (fun _ => True) v1_ r2 ∧ Below w.heap.size w w':=by
 have hu26:=Try.underlying26
 have hu76:=Try.underlying76
 have HR0:=Aside0.mk hr0
 have HC0:=Aside0.mk hc0
 clear hr0 hc0
 have HB:=Aside0.mk (Below.refl w.heap.size w)
 have H : ((codec_reader_text.f k l0 0 false).bind fun bt585 => (if bt585.2.2.2 = true then (codec_Event.j0 k bt585.2.1 bt585.2.2.1 true bt585.1) else (if (bt585.1.size : Int) < 1 then (codec_Event.j0 k bt585.2.1 bt585.2.2.1 true bt585.1) else (codec_Event.j0 k bt585.2.1 bt585.2.2.1 (decide ((bt585.1.size : Int) > 20)) bt585.1)))) = some (r1,r2,r3,r4):=h
 clear h
 replace H:=Option.bind_eq_some_iff.mp H
 obtain ⟨⟨t585,t586,t587,t588⟩,A20,H⟩:=H
 replace H : (if t588 = true then (codec_Event.j0 k t586 t587 true t585) else (if (t585.size : Int) < 1 then (codec_Event.j0 k t586 t587 true t585) else (codec_Event.j0 k t586 t587 (decide ((t585.size : Int) > 20)) t585))) = some (r1,r2,r3,r4):=H
 have A2:=Aside0.mk A20
 clear A20
 have HC3:=Aside0.mk H
 clear H
 go_enter Try.func32,Try.ntmps32
 go_upto_region 3 with (first|((with_reducible refine gate_dst (N:=2) rfl ?_);(try (refine gate_guard (by rfl) ?_;dsimp only));refine box_event ?hg (N:=2) ?hd (cs:=#[.string (⟨#[]⟩ : ByteArray), .slice none 0 0]) (t:=26) ?hr ?_;(case hd => rfl);(case hg => rfl);(case hr => first|(go_simp;done)|(go_simp;rfl));intro gb583 hg w4 hbox hb;have n0_:=Aside0.mk (below_step (by repeat (first|(with_reducible first|exact HB.out|apply below_alloc|apply pw_below_drewN|apply below_drew1)|exact HB.out)) hb);have n1_:=Aside0.mk (hbox);have n2_:=Aside0.mk ((by rw [hg];exact (below_size (by repeat (first|(with_reducible first|exact HB.out|apply below_alloc|apply pw_below_drewN|apply below_drew1)|exact HB.out))) : w.heap.size ≤ gb583));have n3_:=Aside0.mk ((by rw [hg];exact (below_size (by repeat (first|(with_reducible first|exact HB.out|apply below_alloc|apply pw_below_drewN|apply below_drew1)|exact HB.out))) : w.heap.size ≤ gb583));clear HB;have HB:=n0_;have BK583:=n1_;have GW583:=n2_;have GE583:=n3_;clear n0_ n1_ n2_ n3_;clear hb hbox hg)|((with_reducible refine gate_dst (N:=9) rfl ?_);(try (refine gate_guard (by rfl) ?_;dsimp only));refine box_event ?hg (N:=9) ?hd (cs:=#[.slice A0 l0.length c0, .int .i64 0, .bool false]) (t:=76) ?hr ?_;(case hd => rfl);(case hg => rfl);(case hr => first|(go_simp;done)|(go_simp;rfl));intro gb584 hg w5 hbox hb;have n0_:=Aside0.mk (blk_below (g:=gb583) (o := .cells #[.string (⟨#[]⟩ : ByteArray), .slice none 0 0] 26 (0,0)) (by (with_reducible repeat (first|refine blk_drewN ?_ _|refine blk_drew ?_|refine blk_alloc ?_ _));exact BK583.out) hb);have n1_:=Aside0.mk (below_step (by repeat (first|(with_reducible first|exact HB.out|apply below_alloc|apply pw_below_drewN|apply below_drew1|refine below_set ?_ GE583.out)|exact HB.out)) hb);have n2_:=Aside0.mk (hbox);have n3_:=Aside0.mk ((by rw [hg];exact (below_size (by repeat (first|(with_reducible first|exact HB.out|apply below_alloc|apply pw_below_drewN|apply below_drew1|refine below_set ?_ GE583.out)|exact HB.out))) : w.heap.size ≤ gb584));have n4_:=Aside0.mk ((by rw [hg];exact (below_size (by repeat (first|(with_reducible first|exact HB.out|apply below_alloc|apply pw_below_drewN|apply below_drew1|refine below_set ?_ GE583.out)|exact HB.out))) : w.heap.size ≤ gb584));have n5_:=Aside0.mk ((by rw [hg];exact Nat.ne_of_lt (blk_lt (g:=gb583) (o := .cells #[.string (⟨#[]⟩ : ByteArray), .slice none 0 0] 26 (0,0)) (by (with_reducible repeat (first|refine blk_drewN ?_ _|refine blk_drew ?_|refine blk_alloc ?_ _));exact BK583.out)) : gb583 ≠ gb584));have n6_:=Aside0.mk ((by rw [hg];exact Nat.ne_of_gt (blk_lt (g:=gb583) (o := .cells #[.string (⟨#[]⟩ : ByteArray), .slice none 0 0] 26 (0,0)) (by (with_reducible repeat (first|refine blk_drewN ?_ _|refine blk_drew ?_|refine blk_alloc ?_ _));exact BK583.out)) : gb584 ≠ gb583));clear BK583;clear HB;have BK583:=n0_;have HB:=n1_;have BK584:=n2_;have GW584:=n3_;have GE584:=n4_;have NB583_584:=n5_;have NB584_583:=n6_;clear n0_ n1_ n2_ n3_ n4_ n5_ n6_;clear hb hbox hg;have HI584:=Aside0.mk (show IsS76 w _ gb584 l0 0 false from ⟨_,_,BK584.out,GE584.out,HR0.out,HC0.out⟩);clear BK584)|((with_reducible refine gate_callee (f:=43) rfl ?_);refine goesL_ (some 11) rfl rfl Try.func43 (by kernel_rfl) rfl #[.pointer (some ⟨gb584,0,none⟩)] rfl (by (try simp only [List.map_toArray,List.map_cons,List.map_nil]);first|done|rfl|(simp only [List.length_drop,List.length_take];rfl)|(go_simp;done)|(go_simp;simp;done)) ?_;(with_reducible refine (codec_reader_text.calls k gb584 l0 0 false t585 t586 t587 t588 w _ ?side1 ?side2 A2.out).mono ?_);(case side1 => first|((repeat (first|(with_reducible first|exact HI584.out|apply IsS76.alloc|apply IsS76.drewN|apply IsS76.drew|apply IsS76.set_1|apply IsS76.set_2|refine IsS76.far ?_ NB584_583.out _|(apply IsS76.far;case hne => exact NB584_583.out))|exact HI584.out));done)|((simp only [*]);(repeat (first|(with_reducible first|exact HI584.out|apply IsS76.alloc|apply IsS76.drewN|apply IsS76.drew|apply IsS76.set_1|apply IsS76.set_2|refine IsS76.far ?_ NB584_583.out _|(apply IsS76.far;case hne => exact NB584_583.out))|exact HI584.out))));(case side2 => repeat (first|(with_reducible first|exact HB.out|apply below_alloc|apply pw_below_drewN|apply below_drew1|refine below_set ?_ (IsS76.ge HI584.out)|refine below_set ?_ GE583.out)|exact HB.out));rintro e w6 ⟨rfl,hi,hb,hk⟩;refine ⟨_,rfl,?_⟩;have n0_:=Aside0.mk (KeepBut.blk hk (g':=gb583) (o := .cells #[.string (⟨#[]⟩ : ByteArray), .slice none 0 0] 26 (0,0)) (by (with_reducible repeat (first|refine blk_drewN ?_ _|refine blk_drew ?_|refine blk_alloc ?_ _));exact BK583.out) NB583_584.out (by simp));have n1_:=Aside0.mk (hb);have n2_:=Aside0.mk (hi);clear BK583;clear HB;clear HI584;have BK583:=n0_;have HB:=n1_;have HI584:=n2_;clear n0_ n1_ n2_;(try clear hb);(try clear hb2);(try clear hk);(try clear hi))|((with_reducible refine gate_dst (N:=6) rfl ?_);(try (refine gate_guard (by rfl) ?_;dsimp only));refine box_event ?hg (N:=6) ?hd (cs:=#[.string (⟨#[]⟩ : ByteArray), .slice none 0 0]) (t:=26) ?hr ?_;(case hd => rfl);(case hg => rfl);(case hr => first|(go_simp;done)|(go_simp;rfl));intro gb589 hg w7 hbox hb;have n0_:=Aside0.mk (blk_below (g:=gb583) (o := .cells #[.string (⟨#[]⟩ : ByteArray), .slice none 0 0] 26 (0,0)) (by (with_reducible repeat (first|refine blk_drewN ?_ _|refine blk_drew ?_|refine blk_alloc ?_ _));exact BK583.out) hb);have n1_:=Aside0.mk (IsS76.below (by first|((repeat (first|(with_reducible first|exact HI584.out|apply IsS76.alloc|apply IsS76.drewN|apply IsS76.drew|apply IsS76.set_1|apply IsS76.set_2|refine IsS76.far ?_ NB584_583.out _|(apply IsS76.far;case hne => exact NB584_583.out))|exact HI584.out));done)|((simp only [*]);(repeat (first|(with_reducible first|exact HI584.out|apply IsS76.alloc|apply IsS76.drewN|apply IsS76.drew|apply IsS76.set_1|apply IsS76.set_2|refine IsS76.far ?_ NB584_583.out _|(apply IsS76.far;case hne => exact NB584_583.out))|exact HI584.out)))) hb);have n2_:=Aside0.mk (below_step (by repeat (first|(with_reducible first|exact HB.out|apply below_alloc|apply pw_below_drewN|apply below_drew1|refine below_set ?_ (IsS76.ge HI584.out)|refine below_set ?_ GE583.out)|exact HB.out)) hb);have n3_:=Aside0.mk (hbox);have n4_:=Aside0.mk ((by rw [hg];exact (below_size (by repeat (first|(with_reducible first|exact HB.out|apply below_alloc|apply pw_below_drewN|apply below_drew1|refine below_set ?_ (IsS76.ge HI584.out)|refine below_set ?_ GE583.out)|exact HB.out))) : w.heap.size ≤ gb589));have n5_:=Aside0.mk ((by rw [hg];exact (below_size (by repeat (first|(with_reducible first|exact HB.out|apply below_alloc|apply pw_below_drewN|apply below_drew1|refine below_set ?_ (IsS76.ge HI584.out)|refine below_set ?_ GE583.out)|exact HB.out))) : w.heap.size ≤ gb589));have n6_:=Aside0.mk ((by rw [hg];exact Nat.ne_of_lt (blk_lt (g:=gb583) (o := .cells #[.string (⟨#[]⟩ : ByteArray), .slice none 0 0] 26 (0,0)) (by (with_reducible repeat (first|refine blk_drewN ?_ _|refine blk_drew ?_|refine blk_alloc ?_ _));exact BK583.out)) : gb583 ≠ gb589));have n7_:=Aside0.mk ((by rw [hg];exact Nat.ne_of_gt (blk_lt (g:=gb583) (o := .cells #[.string (⟨#[]⟩ : ByteArray), .slice none 0 0] 26 (0,0)) (by (with_reducible repeat (first|refine blk_drewN ?_ _|refine blk_drew ?_|refine blk_alloc ?_ _));exact BK583.out)) : gb589 ≠ gb583));have n8_:=Aside0.mk ((by rw [hg];exact Nat.ne_of_lt (IsS76.lt (show IsS76 w _ gb584 t586 t587 t588 from by first|((repeat (first|(with_reducible first|exact HI584.out|apply IsS76.alloc|apply IsS76.drewN|apply IsS76.drew|apply IsS76.set_1|apply IsS76.set_2|refine IsS76.far ?_ NB584_583.out _|(apply IsS76.far;case hne => exact NB584_583.out))|exact HI584.out));done)|((simp only [*]);(repeat (first|(with_reducible first|exact HI584.out|apply IsS76.alloc|apply IsS76.drewN|apply IsS76.drew|apply IsS76.set_1|apply IsS76.set_2|refine IsS76.far ?_ NB584_583.out _|(apply IsS76.far;case hne => exact NB584_583.out))|exact HI584.out))))) : gb584 ≠ gb589));have n9_:=Aside0.mk ((by rw [hg];exact Nat.ne_of_gt (IsS76.lt (show IsS76 w _ gb584 t586 t587 t588 from by first|((repeat (first|(with_reducible first|exact HI584.out|apply IsS76.alloc|apply IsS76.drewN|apply IsS76.drew|apply IsS76.set_1|apply IsS76.set_2|refine IsS76.far ?_ NB584_583.out _|(apply IsS76.far;case hne => exact NB584_583.out))|exact HI584.out));done)|((simp only [*]);(repeat (first|(with_reducible first|exact HI584.out|apply IsS76.alloc|apply IsS76.drewN|apply IsS76.drew|apply IsS76.set_1|apply IsS76.set_2|refine IsS76.far ?_ NB584_583.out _|(apply IsS76.far;case hne => exact NB584_583.out))|exact HI584.out))))) : gb589 ≠ gb584));clear BK583;clear HI584;clear HB;have BK583:=n0_;have HI584:=n1_;have HB:=n2_;have BK589:=n3_;have GW589:=n4_;have GE589:=n5_;have NB583_589:=n6_;have NB589_583:=n7_;have NB584_589:=n8_;have NB589_584:=n9_;clear n0_ n1_ n2_ n3_ n4_ n5_ n6_ n7_ n8_ n9_;clear hb hbox hg;have hnb8:=NB589_583.out;have hnc8:=NB583_589.out;have hnb9:=NB589_584.out;have hnc9:=NB584_589.out;have hcz10_0 : w7.cell? ⟨gb589,0,none⟩ = some (.string (⟨#[]⟩ : ByteArray)):=(blk_cell BK589.out 0).trans rfl;have hcz10_1 : w7.cell? ⟨gb589,1,none⟩ = some (.slice none 0 0):=(blk_cell BK589.out 1).trans rfl;have hfz10_0:=blk_frozen BK589.out 0;have hfz10_1:=blk_frozen BK589.out 1))
 (try simp only [Act.put,List.setIfInBounds_toArray,List.set_cons_zero,List.set_cons_succ])
 go_cut [] (fun wc => ∃ (kq : Nat) (x585002_2 : Bool),Aside0 (codec_Event.j0 kq t586 t587 x585002_2 t585 = some (r1,r2,r3,r4)) ∧ Aside0 (kq ≤ k) ∧ Aside0 (wc.heap[gb583]? = some (.cells #[.string (⟨#[]⟩ : ByteArray),(.slice none 0 0)] 26 (0,0))) ∧ Aside0 (wc.heap[gb589]? = some (.cells #[.string t585,(.slice none 0 0)] 26 (0,0))) ∧ Aside0 (IsS76 w wc gb584 t586 t587 x585002_2) ∧ Aside0 (Below w.heap.size w wc))
 case first =>
  have H:=HC3.out
  clear HC3
  by_cases c11 : t588 = true
  ·subst c11
   have H1 : (codec_Event.j0 k t586 t587 true t585) = some (r1,r2,r3,r4):=by rw [if_pos rfl] at H;exact H
   clear H
   have H:=H1
   clear H1
   have H':=Aside0.mk H
   clear H
   obtain ⟨ASz12_0,cSz12_0,HGz12,hgz12,HSz12_0,hlSz12_0⟩:=HI584.out
   have hcz12_0:=cellS76_0 HGz12
   have hcz12_1:=cellS76_1 HGz12
   have hcz12_2:=cellS76_2 HGz12
   have hfz12_0:=blk_frozen HGz12 0
   have hfz12_1:=blk_frozen HGz12 1
   have hfz12_2:=blk_frozen HGz12 2
   clear HGz12 hgz12
   go_wp2
   go_meet
   case rel => exact ⟨_,(true),H',⟨by first|omega|exact Nat.le_refl _⟩,⟨by (with_reducible repeat (first|refine blk_drewN ?_ _|refine blk_drew ?_|refine blk_alloc ?_ _));refine blk_far ?_ NB583_584.out _;(with_reducible repeat (first|refine blk_drewN ?_ _|refine blk_drew ?_|refine blk_alloc ?_ _));refine blk_far ?_ NB583_589.out _;(with_reducible repeat (first|refine blk_drewN ?_ _|refine blk_drew ?_|refine blk_alloc ?_ _));refine blk_far ?_ NB583_589.out _;(with_reducible repeat (first|refine blk_drewN ?_ _|refine blk_drew ?_|refine blk_alloc ?_ _));exact BK583.out⟩,⟨by (with_reducible repeat (first|refine blk_drewN ?_ _|refine blk_drew ?_|refine blk_alloc ?_ _));refine blk_far ?_ NB589_584.out _;(with_reducible repeat (first|refine blk_drewN ?_ _|refine blk_drew ?_|refine blk_alloc ?_ _));refine blk_put (cs:=#[.string t585, .slice none 0 0]) ?_ 1 _ rfl;(with_reducible repeat (first|refine blk_drewN ?_ _|refine blk_drew ?_|refine blk_alloc ?_ _));refine blk_put (cs:=#[.string (⟨#[]⟩ : ByteArray), .slice none 0 0]) ?_ 0 _ rfl;(with_reducible repeat (first|refine blk_drewN ?_ _|refine blk_drew ?_|refine blk_alloc ?_ _));exact BK589.out⟩,⟨by first|((repeat (first|(with_reducible first|exact HI584.out|apply IsS76.alloc|apply IsS76.drewN|apply IsS76.drew|apply IsS76.set_1|apply IsS76.set_2|refine IsS76.far ?_ NB584_583.out _|(apply IsS76.far;case hne => exact NB584_583.out)|refine IsS76.far ?_ NB584_589.out _|(apply IsS76.far;case hne => exact NB584_589.out))|exact HI584.out));done)|((simp only [*]);(repeat (first|(with_reducible first|exact HI584.out|apply IsS76.alloc|apply IsS76.drewN|apply IsS76.drew|apply IsS76.set_1|apply IsS76.set_2|refine IsS76.far ?_ NB584_583.out _|(apply IsS76.far;case hne => exact NB584_583.out)|refine IsS76.far ?_ NB584_589.out _|(apply IsS76.far;case hne => exact NB584_589.out))|exact HI584.out)))⟩,⟨by repeat (first|(with_reducible first|exact HB.out|apply below_alloc|apply pw_below_drewN|apply below_drew1|refine below_set ?_ (IsS76.ge HI584.out)|refine below_set ?_ GE583.out|refine below_set ?_ GE589.out)|exact HB.out)⟩⟩
  ·replace c11:=Bool.eq_false_iff.mpr c11
   subst c11
   have H1 : (if (t585.size : Int) < 1 then (codec_Event.j0 k t586 t587 true t585) else (codec_Event.j0 k t586 t587 (decide ((t585.size : Int) > 20)) t585)) = some (r1,r2,r3,r4):=by rw [if_neg (show ¬ (false = true) by decide)] at H;exact H
   clear H
   have H:=H1
   clear H1
   by_cases c13 : (t585.size : Int) < 1
   ·rw [if_pos c13] at H
    have c13b0 : decide ((t585.size : Int) < 1) = true:=decide_eq_true c13
    have c13b1 : decide (t585.size < 1) = true:=decide_eq_true (by omega)
    clear c13
    (first|rw [c13b0]|(simp only [i64_w,i32_w];rw [c13b0])|skip)
    have H':=Aside0.mk H
    clear H
    obtain ⟨ASz14_0,cSz14_0,HGz14,hgz14,HSz14_0,hlSz14_0⟩:=HI584.out
    have hcz14_0:=cellS76_0 HGz14
    have hcz14_1:=cellS76_1 HGz14
    have hcz14_2:=cellS76_2 HGz14
    have hfz14_0:=blk_frozen HGz14 0
    have hfz14_1:=blk_frozen HGz14 1
    have hfz14_2:=blk_frozen HGz14 2
    clear HGz14 hgz14
    have hnb15:=NB589_583.out
    have hnc15:=NB583_589.out
    have hnb16:=NB589_584.out
    have hnc16:=NB584_589.out
    have hcz17_0 : w7.cell? ⟨gb589,0,none⟩ = some (.string (⟨#[]⟩ : ByteArray)):=(blk_cell BK589.out 0).trans rfl
    have hcz17_1 : w7.cell? ⟨gb589,1,none⟩ = some (.slice none 0 0):=(blk_cell BK589.out 1).trans rfl
    have hfz17_0:=blk_frozen BK589.out 0
    have hfz17_1:=blk_frozen BK589.out 1
    go_wp2
    go_meet
    case rel => exact ⟨_,(true),H',⟨by first|omega|exact Nat.le_refl _⟩,⟨by (with_reducible repeat (first|refine blk_drewN ?_ _|refine blk_drew ?_|refine blk_alloc ?_ _));refine blk_far ?_ NB583_584.out _;(with_reducible repeat (first|refine blk_drewN ?_ _|refine blk_drew ?_|refine blk_alloc ?_ _));refine blk_far ?_ NB583_589.out _;(with_reducible repeat (first|refine blk_drewN ?_ _|refine blk_drew ?_|refine blk_alloc ?_ _));refine blk_far ?_ NB583_589.out _;(with_reducible repeat (first|refine blk_drewN ?_ _|refine blk_drew ?_|refine blk_alloc ?_ _));exact BK583.out⟩,⟨by (with_reducible repeat (first|refine blk_drewN ?_ _|refine blk_drew ?_|refine blk_alloc ?_ _));refine blk_far ?_ NB589_584.out _;(with_reducible repeat (first|refine blk_drewN ?_ _|refine blk_drew ?_|refine blk_alloc ?_ _));refine blk_put (cs:=#[.string t585, .slice none 0 0]) ?_ 1 _ rfl;(with_reducible repeat (first|refine blk_drewN ?_ _|refine blk_drew ?_|refine blk_alloc ?_ _));refine blk_put (cs:=#[.string (⟨#[]⟩ : ByteArray), .slice none 0 0]) ?_ 0 _ rfl;(with_reducible repeat (first|refine blk_drewN ?_ _|refine blk_drew ?_|refine blk_alloc ?_ _));exact BK589.out⟩,⟨by first|((repeat (first|(with_reducible first|exact HI584.out|apply IsS76.alloc|apply IsS76.drewN|apply IsS76.drew|apply IsS76.set_1|apply IsS76.set_2|refine IsS76.far ?_ NB584_583.out _|(apply IsS76.far;case hne => exact NB584_583.out)|refine IsS76.far ?_ NB584_589.out _|(apply IsS76.far;case hne => exact NB584_589.out))|exact HI584.out));done)|((simp only [*]);(repeat (first|(with_reducible first|exact HI584.out|apply IsS76.alloc|apply IsS76.drewN|apply IsS76.drew|apply IsS76.set_1|apply IsS76.set_2|refine IsS76.far ?_ NB584_583.out _|(apply IsS76.far;case hne => exact NB584_583.out)|refine IsS76.far ?_ NB584_589.out _|(apply IsS76.far;case hne => exact NB584_589.out))|exact HI584.out)))⟩,⟨by repeat (first|(with_reducible first|exact HB.out|apply below_alloc|apply pw_below_drewN|apply below_drew1|refine below_set ?_ (IsS76.ge HI584.out)|refine below_set ?_ GE583.out|refine below_set ?_ GE589.out)|exact HB.out)⟩⟩
   ·rw [if_neg c13] at H
    have c13b0 : decide ((t585.size : Int) < 1) = false:=decide_eq_false c13
    have c13b1 : decide (t585.size < 1) = false:=decide_eq_false (by omega)
    clear c13
    (first|rw [c13b0]|(simp only [i64_w,i32_w];rw [c13b0])|skip)
    have H':=Aside0.mk H
    clear H
    obtain ⟨ASz18_0,cSz18_0,HGz18,hgz18,HSz18_0,hlSz18_0⟩:=HI584.out
    have hcz18_0:=cellS76_0 HGz18
    have hcz18_1:=cellS76_1 HGz18
    have hcz18_2:=cellS76_2 HGz18
    have hfz18_0:=blk_frozen HGz18 0
    have hfz18_1:=blk_frozen HGz18 1
    have hfz18_2:=blk_frozen HGz18 2
    clear HGz18 hgz18
    have hnb19:=NB589_583.out
    have hnc19:=NB583_589.out
    have hnb20:=NB589_584.out
    have hnc20:=NB584_589.out
    have hcz21_0 : w7.cell? ⟨gb589,0,none⟩ = some (.string (⟨#[]⟩ : ByteArray)):=(blk_cell BK589.out 0).trans rfl
    have hcz21_1 : w7.cell? ⟨gb589,1,none⟩ = some (.slice none 0 0):=(blk_cell BK589.out 1).trans rfl
    have hfz21_0:=blk_frozen BK589.out 0
    have hfz21_1:=blk_frozen BK589.out 1
    go_wp2
    go_meet
    case rel => exact ⟨_,(decide ((t585.size : Int) > 20)),H',⟨by first|omega|exact Nat.le_refl _⟩,⟨by (with_reducible repeat (first|refine blk_drewN ?_ _|refine blk_drew ?_|refine blk_alloc ?_ _));refine blk_far ?_ NB583_584.out _;(with_reducible repeat (first|refine blk_drewN ?_ _|refine blk_drew ?_|refine blk_alloc ?_ _));refine blk_far ?_ NB583_589.out _;(with_reducible repeat (first|refine blk_drewN ?_ _|refine blk_drew ?_|refine blk_alloc ?_ _));refine blk_far ?_ NB583_589.out _;(with_reducible repeat (first|refine blk_drewN ?_ _|refine blk_drew ?_|refine blk_alloc ?_ _));exact BK583.out⟩,⟨by (with_reducible repeat (first|refine blk_drewN ?_ _|refine blk_drew ?_|refine blk_alloc ?_ _));refine blk_far ?_ NB589_584.out _;(with_reducible repeat (first|refine blk_drewN ?_ _|refine blk_drew ?_|refine blk_alloc ?_ _));refine blk_put (cs:=#[.string t585, .slice none 0 0]) ?_ 1 _ rfl;(with_reducible repeat (first|refine blk_drewN ?_ _|refine blk_drew ?_|refine blk_alloc ?_ _));refine blk_put (cs:=#[.string (⟨#[]⟩ : ByteArray), .slice none 0 0]) ?_ 0 _ rfl;(with_reducible repeat (first|refine blk_drewN ?_ _|refine blk_drew ?_|refine blk_alloc ?_ _));exact BK589.out⟩,⟨by first|((repeat (first|(with_reducible first|exact HI584.out|apply IsS76.alloc|apply IsS76.drewN|apply IsS76.drew|apply IsS76.set_1|apply IsS76.set_2|refine IsS76.far ?_ NB584_583.out _|(apply IsS76.far;case hne => exact NB584_583.out)|refine IsS76.far ?_ NB584_589.out _|(apply IsS76.far;case hne => exact NB584_589.out))|exact HI584.out));done)|((simp only [*]);(repeat (first|(with_reducible first|exact HI584.out|apply IsS76.alloc|apply IsS76.drewN|apply IsS76.drew|apply IsS76.set_1|apply IsS76.set_2|refine IsS76.far ?_ NB584_583.out _|(apply IsS76.far;case hne => exact NB584_583.out)|refine IsS76.far ?_ NB584_589.out _|(apply IsS76.far;case hne => exact NB584_589.out))|exact HI584.out)))⟩,⟨by repeat (first|(with_reducible first|exact HB.out|apply below_alloc|apply pw_below_drewN|apply below_drew1|refine below_set ?_ (IsS76.ge HI584.out)|refine below_set ?_ GE583.out|refine below_set ?_ GE589.out)|exact HB.out)⟩⟩
 case rest =>
  clear HC3
  try clear c1
  try clear c2
  try clear p2
  try clear c3
  try clear c4
  try clear c8
  try clear c9
  try clear c11
  try clear c13
  try clear c13b0
  try clear c13b1
  try clear c15
  try clear c16
  try clear c19
  try clear c20
  try clear hcz10_0
  try clear hcz10_1
  try clear hcz12_0
  try clear hcz12_1
  try clear hcz12_2
  try clear hcz14_0
  try clear hcz14_1
  try clear hcz14_2
  try clear hcz17_0
  try clear hcz17_1
  try clear hcz18_0
  try clear hcz18_1
  try clear hcz18_2
  try clear hcz21_0
  try clear hcz21_1
  try clear hfz10_0
  try clear hfz10_1
  try clear hfz12_0
  try clear hfz12_1
  try clear hfz12_2
  try clear hfz14_0
  try clear hfz14_1
  try clear hfz14_2
  try clear hfz17_0
  try clear hfz17_1
  try clear hfz18_0
  try clear hfz18_1
  try clear hfz18_2
  try clear hfz21_0
  try clear hfz21_1
  obtain ⟨kq,x585002_2,HA,HJ2,BK583,BK589,HI584,HB⟩:=hcut
  cases kq with
  | zero => exact absurd HA.out (by simp [codec_Event.j0])
  | succ kj2 =>
   have H:=HA.out
   clear HA
   simp only [codec_Event.j0] at H
   replace H:=Option.bind_eq_some_iff.mp H
   obtain ⟨⟨t590,t591,t592,t593⟩,A220,H⟩:=H
   replace H : (codec_Event.l0 kj2 t590 0 t591 t592 t593 t585 ([] : List (S24))) = some (r1,r2,r3,r4):=H
   have A22:=Aside0.mk A220
   clear A220
   have H':=Aside0.mk H
   clear H
   go_wp2_with (first|((with_reducible refine gate_callee (f:=44) rfl ?_);refine goesL_ (some 33) rfl rfl Try.func44 (by kernel_rfl) rfl #[.pointer (some ⟨gb584,0,none⟩), .int .u64 12] rfl (by (try simp only [List.map_toArray,List.map_cons,List.map_nil]);first|done|rfl|(simp only [List.length_drop,List.length_take];rfl)|(go_simp;done)|(go_simp;simp;done)) ?_;(with_reducible refine (codec_reader_count.calls kj2 gb584 t586 t587 x585002_2 12 t590 t591 t592 t593 w _ ?side1 ?side2 A22.out).mono ?_);(case side1 => first|((repeat (first|(with_reducible first|exact HI584.out|apply IsS76.alloc|apply IsS76.drewN|apply IsS76.drew|apply IsS76.set_1|apply IsS76.set_2|refine IsS76.far ?_ NB584_583.out _|(apply IsS76.far;case hne => exact NB584_583.out)|refine IsS76.far ?_ NB584_589.out _|(apply IsS76.far;case hne => exact NB584_589.out))|exact HI584.out));done)|((simp only [*]);(repeat (first|(with_reducible first|exact HI584.out|apply IsS76.alloc|apply IsS76.drewN|apply IsS76.drew|apply IsS76.set_1|apply IsS76.set_2|refine IsS76.far ?_ NB584_583.out _|(apply IsS76.far;case hne => exact NB584_583.out)|refine IsS76.far ?_ NB584_589.out _|(apply IsS76.far;case hne => exact NB584_589.out))|exact HI584.out))));(case side2 => repeat (first|(with_reducible first|exact HB.out|apply below_alloc|apply pw_below_drewN|apply below_drew1|refine below_set ?_ (IsS76.ge HI584.out)|refine below_set ?_ GE583.out|refine below_set ?_ GE589.out)|exact HB.out));rintro e w23 ⟨rfl,hi,hb,hk⟩;refine ⟨_,rfl,?_⟩;have n0_:=Aside0.mk (KeepBut.blk hk (g':=gb583) (o := .cells #[.string (⟨#[]⟩ : ByteArray), .slice none 0 0] 26 (0,0)) (by (with_reducible repeat (first|refine blk_drewN ?_ _|refine blk_drew ?_|refine blk_alloc ?_ _));exact BK583.out) NB583_584.out (by simp));have n1_:=Aside0.mk (KeepBut.blk hk (g':=gb589) (o := .cells #[.string t585, .slice none 0 0] 26 (0,0)) (by (with_reducible repeat (first|refine blk_drewN ?_ _|refine blk_drew ?_|refine blk_alloc ?_ _));exact BK589.out) NB589_584.out (by simp));have n2_:=Aside0.mk (hb);have n3_:=Aside0.mk (hi);clear BK583;clear BK589;clear HB;clear HI584;have BK583:=n0_;have BK589:=n1_;have HB:=n2_;have HI584:=n3_;clear n0_ n1_ n2_ n3_;(try clear hb);(try clear hb2);(try clear hk);(try clear hi)))
   go_loopg [34] kj2 (fun kq v34 w' => ∃ (x34_2 : Int) (x585000_2 : List Int) (x585001_2 : Int) (x585002_2 : Bool) (x590001_2 : List (S24)) (u590001 : Value),v34 = .int .i64 x34_2 ∧ Aside0 (codec_Event.l0 kq t590 x34_2 x585000_2 x585001_2 x585002_2 t585 x590001_2 = some (r1,r2,r3,r4)) ∧ Aside0 (kq ≤ kj2) ∧ Aside0 (Kd.R k24 24 w' w.heap.size (fun _ => True) u590001 x590001_2) ∧ Aside0 (w'.heap[gb583]? = some (.cells #[.string (⟨#[]⟩ : ByteArray),(.slice none 0 0)] 26 (0,0))) ∧ Aside0 (w'.heap[gb589]? = some (.cells #[.string t585,u590001] 26 (0,0))) ∧ Aside0 (IsS76 w w' gb584 x585000_2 x585001_2 x585002_2) ∧ Aside0 (Below w.heap.size w w'))
   case atStart => exact ⟨(0),(t591),(t592),(t593),(([] : List (S24))),(.slice none 0 0),(by first|rfl|(simp;done)|(simp [*];done)),H',⟨Nat.le_refl _⟩,⟨by first|exact Kd.R_nil _ _ _ _ _|exact Kd.N_nil _ _ _ _ _|exact Kd.V_nil _ _ _ _ _|exact Kd.Q_nil _ _ _ _ _|exact Kd.S_nil _ _ _ _ _⟩,⟨by (with_reducible repeat (first|refine blk_drewN ?_ _|refine blk_drew ?_|refine blk_alloc ?_ _));exact BK583.out⟩,⟨by (with_reducible repeat (first|refine blk_drewN ?_ _|refine blk_drew ?_|refine blk_alloc ?_ _));exact BK589.out⟩,⟨by first|((repeat (first|(with_reducible first|exact HI584.out|apply IsS76.alloc|apply IsS76.drewN|apply IsS76.drew|apply IsS76.set_1|apply IsS76.set_2|refine IsS76.far ?_ NB584_583.out _|(apply IsS76.far;case hne => exact NB584_583.out)|refine IsS76.far ?_ NB584_589.out _|(apply IsS76.far;case hne => exact NB584_589.out))|exact HI584.out));done)|((simp only [*]);(repeat (first|(with_reducible first|exact HI584.out|apply IsS76.alloc|apply IsS76.drewN|apply IsS76.drew|apply IsS76.set_1|apply IsS76.set_2|refine IsS76.far ?_ NB584_583.out _|(apply IsS76.far;case hne => exact NB584_583.out)|refine IsS76.far ?_ NB584_589.out _|(apply IsS76.far;case hne => exact NB584_589.out))|exact HI584.out)))⟩,⟨by repeat (first|(with_reducible first|exact HB.out|apply below_alloc|apply pw_below_drewN|apply below_drew1|refine below_set ?_ (IsS76.ge HI584.out)|refine below_set ?_ GE583.out|refine below_set ?_ GE589.out)|exact HB.out)⟩⟩
   case round =>
    clear H'
    try clear c1
    try clear c2
    try clear p2
    try clear c3
    try clear c4
    try clear c8
    try clear c9
    try clear c11
    try clear c13
    try clear c13b0
    try clear c13b1
    try clear c15
    try clear c16
    try clear c19
    try clear c20
    try clear hcz10_0
    try clear hcz10_1
    try clear hcz12_0
    try clear hcz12_1
    try clear hcz12_2
    try clear hcz14_0
    try clear hcz14_1
    try clear hcz14_2
    try clear hcz17_0
    try clear hcz17_1
    try clear hcz18_0
    try clear hcz18_1
    try clear hcz18_2
    try clear hcz21_0
    try clear hcz21_1
    try clear hfz10_0
    try clear hfz10_1
    try clear hfz12_0
    try clear hfz12_1
    try clear hfz12_2
    try clear hfz14_0
    try clear hfz14_1
    try clear hfz14_2
    try clear hfz17_0
    try clear hfz17_1
    try clear hfz18_0
    try clear hfz18_1
    try clear hfz18_2
    try clear hfz21_0
    try clear hfz21_1
    try clear p2
    obtain ⟨x34_2,x585000_2,x585001_2,x585002_2,x590001_2,u590001,rfl,HA,HK2,HO_590001,BK583,BK589,HI584,HB⟩:=hrel
    cases gk with
    | zero => exact absurd HA.out (by simp [codec_Event.l0])
    | succ k2 =>
     have H:=HA.out
     clear HA
     simp only [codec_Event.l0] at H
     by_cases c24 : x34_2 < t590
     ·rw [if_pos c24] at H
      have c24b0 : decide (x34_2 < t590) = true:=decide_eq_true c24
      clear c24
      replace H:=Option.bind_eq_some_iff.mp H
      obtain ⟨⟨t594,t595,t596,t597,t598,t601,t602,t603⟩,A250,H⟩:=H
      replace H : (if x590001_2.length < 2199023255552 then (codec_Event.l0 k2 t590 (wrap64 (x34_2 + 1)) t601 t602 t603 t585 (x590001_2 ++ [(⟨t594,t595,t596,t597,t598⟩ : S24)])) else (none)) = some (r1,r2,r3,r4):=H
      have A25:=Aside0.mk A250
      clear A250
      by_cases c26 : x590001_2.length < 2199023255552
      ·rw [if_pos c26] at H
       have LMc26:=Aside0.mk c26
       clear c26
       obtain ⟨y604,hy604⟩ : ∃ y_ : List (S24),y_ = (x590001_2 ++ [(⟨t594,t595,t596,t597,t598⟩ : S24)]):=⟨_,rfl⟩
       replace H : (codec_Event.l0 k2 t590 (wrap64 (x34_2 + 1)) t601 t602 t603 t585 y604) = some (r1,r2,r3,r4):=by first|(rw [hy604];with_reducible exact H)|(have H2_:=(Option.bind_some _ _).symm.trans H;rw [hy604];with_reducible exact H2_)|(have H2_:=(Option.bind_some _ _).symm.trans H;with_reducible exact H2_)|with_reducible exact H|(rw [hy604];exact H)|exact H
       have Ny604:=Aside0.mk hy604
       clear hy604
       have H':=Aside0.mk H
       clear H
       try go_wp2
       have n0_:=Aside0.mk (Kd.R_drew HO_590001.out)
       have n1_:=Aside0.mk (blk_drew BK583.out)
       have n2_:=Aside0.mk (blk_drew BK589.out)
       have n3_:=Aside0.mk (IsS76.drew HI584.out)
       have n4_:=Aside0.mk (below_drew1 HB.out)
       clear HO_590001
       clear BK583
       clear BK589
       clear HI584
       clear HB
       have HO_590001:=n0_
       have BK583:=n1_
       have BK589:=n2_
       have HI584:=n3_
       have HB:=n4_
       clear n0_ n1_ n2_ n3_ n4_
       refine start_ (n:=8) (S:=fun w' => w'.cell? ⟨gb589,0,none⟩ = some (.string t585) ∧ w'.cell? ⟨gb589,1,none⟩ = some (u590001)) (ds:=[7]) #[false,false,false,false,false,false,false,false] (by kernel_rfl) rfl rfl ⟨(blk_cell BK589.out 0).trans rfl,(blk_cell BK589.out 1).trans rfl⟩ (fun hHeld => ?_);refine with_tabW codec_Event.tab6 codec_Event.bits6 (fun HT_ HW_ => ?_)
       generalize wr.drew = w27 at HO_590001 BK583 BK589 HI584 HB hHeld ⊢
       refine pure_ (i:=0) (N:=some 36) (v:=?_) (a':=?_) #[true,false,false,false,false,false,false,false] rfl rfl (any_of HT_.out (by kernel_rfl)) (fun _ _ _ h => h) (Or.inl ⟨by rfl,?_⟩) ?_ ?_
       rotate_left
       ·intro w'
        go_simp
        with_reducible rfl
       rotate_left
       ·simp only [Act.put,List.setIfInBounds_toArray,List.set_cons_zero,List.set_cons_succ,i64_w,i32_w]
        rfl
       refine pure_ (i:=2) (N:=some 38) (v:=?_) (a':=?_) #[true,false,true,false,false,false,false,false] rfl rfl (any_of HT_.out (by kernel_rfl)) (fun _ _ _ h => h) (Or.inl ⟨by rfl,?_⟩) ?_ ?_
       rotate_left
       ·intro w'
        go_simp
        with_reducible rfl
       rotate_left
       ·simp only [Act.put,List.setIfInBounds_toArray,List.set_cons_zero,List.set_cons_succ,i64_w,i32_w]
        rfl
       refine take_ (i:=1) (N:=some 37) (v:=?_) (a':=?_) #[true,true,true,false,false,false,false,false] rfl rfl (take_ofW HT_.out HW_.out (by kernel_rfl)) (fun _ _ _ h => h) (Or.inl ⟨by rfl,?_⟩) hHeld ?_ ?_
       rotate_left
       ·rintro w' ⟨s0,s1⟩
        go_simp
        with_reducible rfl
       rotate_left
       ·simp only [Act.put,List.setIfInBounds_toArray,List.set_cons_zero,List.set_cons_succ,i64_w,i32_w]
        rfl
       refine one_ (i:=3) (N:=some 39) #[true,true,true,true,false,false,false,false] rfl rfl (one_of HT_.out (by kernel_rfl)) (by decide) (fun K hK => ?_)
       refine goes_ Try.func39 (by kernel_rfl) rfl #[.pointer (some ⟨gb584,0,none⟩), .bool false] (by rfl) rfl rfl (by (try simp only [List.map_toArray,List.map_cons,List.map_nil]);first|done|rfl|(simp only [List.length_drop,List.length_take];rfl)|(go_simp;done)|(go_simp;simp;done)) ?_
       with_reducible refine (codec_reader_value.calls k2 gb584 x585000_2 x585001_2 x585002_2 false t594 t595 t596 t597 t598 t601 t602 t603 w _ ?side1 ?side2 A25.out).mono ?_
       (case side1 => first|((repeat (first|(with_reducible first|exact HI584.out|apply IsS76.alloc|apply IsS76.drewN|apply IsS76.drew|apply IsS76.set_1|apply IsS76.set_2|refine IsS76.far ?_ NB584_583.out _|(apply IsS76.far;case hne => exact NB584_583.out)|refine IsS76.far ?_ NB584_589.out _|(apply IsS76.far;case hne => exact NB584_589.out))|exact HI584.out));done)|((simp only [*]);(repeat (first|(with_reducible first|exact HI584.out|apply IsS76.alloc|apply IsS76.drewN|apply IsS76.drew|apply IsS76.set_1|apply IsS76.set_2|refine IsS76.far ?_ NB584_583.out _|(apply IsS76.far;case hne => exact NB584_583.out)|refine IsS76.far ?_ NB584_589.out _|(apply IsS76.far;case hne => exact NB584_589.out))|exact HI584.out))))
       (case side2 => repeat (first|(with_reducible first|exact HB.out|apply below_alloc|apply pw_below_drewN|apply below_drew1|refine below_set ?_ (IsS76.ge HI584.out)|refine below_set ?_ GE583.out|refine below_set ?_ GE589.out)|exact HB.out))
       rintro e w28 ⟨v599,rfl,ho0,hi,hb,hk⟩
       refine ⟨_,rfl,?_⟩
       have n0_:=Aside0.mk (Kd.R_mono (Kd.R_told (Kd.R_oldK (IsS76.apart (show IsS76 w _ gb584 x585000_2 x585001_2 x585002_2 from by first|((repeat (first|(with_reducible first|exact HI584.out|apply IsS76.alloc|apply IsS76.drewN|apply IsS76.drew|apply IsS76.set_1|apply IsS76.set_2|refine IsS76.far ?_ NB584_583.out _|(apply IsS76.far;case hne => exact NB584_583.out)|refine IsS76.far ?_ NB584_589.out _|(apply IsS76.far;case hne => exact NB584_589.out))|exact HI584.out));done)|((simp only [*]);(repeat (first|(with_reducible first|exact HI584.out|apply IsS76.alloc|apply IsS76.drewN|apply IsS76.drew|apply IsS76.set_1|apply IsS76.set_2|refine IsS76.far ?_ NB584_583.out _|(apply IsS76.far;case hne => exact NB584_583.out)|refine IsS76.far ?_ NB584_589.out _|(apply IsS76.far;case hne => exact NB584_589.out))|exact HI584.out)))) (by (with_reducible repeat (first|apply Kd.R_alloc|apply Kd.R_drewN|apply Kd.R_drew));exact HO_590001.out) (by decide)) hk) (Kd.R_base ho0)) (fun _ h_ => h_.1))
       have n1_:=Aside0.mk (KeepBut.blk hk (g':=gb583) (o := .cells #[.string (⟨#[]⟩ : ByteArray), .slice none 0 0] 26 (0,0)) (by (with_reducible repeat (first|refine blk_drewN ?_ _|refine blk_drew ?_|refine blk_alloc ?_ _));exact BK583.out) NB583_584.out (by simp))
       have n2_:=Aside0.mk (KeepBut.blk hk (g':=gb589) (o := .cells #[.string t585,u590001] 26 (0,0)) (by (with_reducible repeat (first|refine blk_drewN ?_ _|refine blk_drew ?_|refine blk_alloc ?_ _));exact BK589.out) NB589_584.out (by simp))
       have n3_:=Aside0.mk (Kd.R_lower (Kd.R_new' ho0 (Kd.R_lt (by (with_reducible repeat (first|apply Kd.R_alloc|apply Kd.R_drewN|apply Kd.R_drew));exact HO_590001.out))) (below_size (by repeat (first|(with_reducible first|exact HB.out|apply below_alloc|apply pw_below_drewN|apply below_drew1|refine below_set ?_ (IsS76.ge HI584.out)|refine below_set ?_ GE583.out|refine below_set ?_ GE589.out)|exact HB.out))))
       have n4_:=Aside0.mk (hb)
       have n5_:=Aside0.mk (hi)
       clear HO_590001
       clear BK583
       clear BK589
       clear HB
       clear HI584
       have HO_590001:=n0_
       have BK583:=n1_
       have BK589:=n2_
       have HO600:=n3_
       have HB:=n4_
       have HI584:=n5_
       clear n0_ n1_ n2_ n3_ n4_ n5_
       (try clear hb)
       (try clear hb2)
       (try clear hk)
       (try clear hi)
       (try clear ho0)
       obtain ⟨Ao30,co30,eo30⟩:=Kd.R_slice HO600.out
       (first|subst eo30|(injection eo30 with f1_ f2_ f3_;have f4_:=f1_.symm;have f5_:=f3_.symm;clear f1_ f2_ f3_;subst f4_;subst f5_))
       refine hK.out _ _ ⟨(blk_cell BK589.out 0).trans rfl,(blk_cell BK589.out 1).trans rfl⟩ (fun hHeld => ?_)
       clear hK K
       refine norm_ (a':=?_) ?_ ?_
       rotate_left
       ·show Act.put _ (some 39) _ = _
        simp only [Act.put,List.setIfInBounds_toArray,List.set_cons_zero,List.set_cons_succ,i64_w,i32_w]
        rfl
       refine one_ (i:=4) (N:=some 40) #[true,true,true,true,true,false,false,false] rfl rfl (one_of HT_.out (by kernel_rfl)) (by decide) (fun K hK => ?_)
       refine value_ (w1:=?_) (v:=?_) (by rfl) rfl ?_ ?_
       rotate_left 2
       ·go_simp
        constructor
        ·rfl
        ·rfl
       refine hK.out _ _ ⟨(blk_cell (blk_alloc BK589.out _) 0).trans rfl,(blk_cell (blk_alloc BK589.out _) 1).trans rfl⟩ (fun hHeld => ?_)
       clear hK K
       refine norm_ (a':=?_) ?_ ?_
       rotate_left
       ·show Act.put _ (some 40) _ = _
        simp only [Act.put,List.setIfInBounds_toArray,List.set_cons_zero,List.set_cons_succ,i64_w,i32_w]
        rfl
       refine one_ (i:=5) (N:=some 41) #[true,true,true,true,true,true,false,false] rfl rfl (one_of HT_.out (by kernel_rfl)) (by decide) (fun K hK => ?_)
       refine Kd.R_append_step k24 (w0:=w) w.heap.size (by rfl) (.tmp 37) (.tmp 40) 22 24 (.agg #[(.int .i64 0),(.int .i64 0),(.string ⟨#[]⟩),(.int .i64 0),(.slice none 0 0)]) 64 rfl Try.underlying22 info24 rfl (by decide) (by omega) u590001 x590001_2 (⟨t594,t595,t596,t597,t598⟩ : S24) [.int .i64 t594, .int .i64 t595, .string t596, .int .i64 t597, .slice Ao30 t598.length co30] (fun _ => True) (fun k_ => ((fun _ => True)) k_ ∧ some k_ ≠ (u590001 : Value).ownBlock) rfl rfl ?aP (fun _ hk => hk) ?aF ?aO ?aB ?aS ?aL ?_
       (case aP => exact k24_mkM _ _ _ (⟨t594,t595,t596,t597,t598⟩ : S24) (Kd.R_mono (HO600.out) (fun k_ hk => ⟨trivial,hk.2⟩)))
       (case aB => exact (by repeat (first|(with_reducible first|exact HB.out|apply below_alloc|apply pw_below_drewN|apply below_drew1|refine below_set ?_ (IsS76.ge HI584.out)|refine below_set ?_ GE583.out|refine below_set ?_ GE589.out)|exact HB.out)))
       (case aF => exact (fun _ _ => trivial))
       (case aO => exact (by (with_reducible repeat (first|apply Kd.R_alloc|apply Kd.R_drewN|apply Kd.R_drew));exact Kd.R_mono HO_590001.out (fun _ hk => trivial)))
       (case aS => exact (below_size (by repeat (first|(with_reducible first|exact HB.out|apply below_alloc|apply pw_below_drewN|apply below_drew1|refine below_set ?_ (IsS76.ge HI584.out)|refine below_set ?_ GE583.out|refine below_set ?_ GE589.out)|exact HB.out))))
       (case aL => have:=LMc26.out;omega)
       intro v605 w29 ho hb hg hat
       rw [← Ny604.out] at ho
       have n0_:=Aside0.mk (blk_grown (g:=gb583) (o := .cells #[.string (⟨#[]⟩ : ByteArray), .slice none 0 0] 26 (0,0)) (by (with_reducible repeat (first|refine blk_drewN ?_ _|refine blk_drew ?_|refine blk_alloc ?_ _));exact BK583.out) hg (Kd.R_ne HO_590001.out BK583.out (by decide)))
       have n1_:=Aside0.mk (blk_grown (g:=gb589) (o := .cells #[.string t585,u590001] 26 (0,0)) (by (with_reducible repeat (first|refine blk_drewN ?_ _|refine blk_drew ?_|refine blk_alloc ?_ _));exact BK589.out) hg (Kd.R_ne HO_590001.out BK589.out (by decide)))
       have n2_:=Aside0.mk (IsS76.grown (by first|((repeat (first|(with_reducible first|exact HI584.out|apply IsS76.alloc|apply IsS76.drewN|apply IsS76.drew|apply IsS76.set_1|apply IsS76.set_2|refine IsS76.far ?_ NB584_583.out _|(apply IsS76.far;case hne => exact NB584_583.out)|refine IsS76.far ?_ NB584_589.out _|(apply IsS76.far;case hne => exact NB584_589.out))|exact HI584.out));done)|((simp only [*]);(repeat (first|(with_reducible first|exact HI584.out|apply IsS76.alloc|apply IsS76.drewN|apply IsS76.drew|apply IsS76.set_1|apply IsS76.set_2|refine IsS76.far ?_ NB584_583.out _|(apply IsS76.far;case hne => exact NB584_583.out)|refine IsS76.far ?_ NB584_589.out _|(apply IsS76.far;case hne => exact NB584_589.out))|exact HI584.out)))) hg (IsS76.own_ne HI584.out HO_590001.out (by decide)))
       have n3_:=Aside0.mk (hb)
       have n4_:=Aside0.mk (ho)
       clear BK583
       clear BK589
       clear HI584
       clear HB
       clear HO_590001
       clear HO600
       have BK583:=n0_
       have BK589:=n1_
       have HI584:=n2_
       have HB:=n3_
       have HO606:=n4_
       clear n0_ n1_ n2_ n3_ n4_
       clear ho hb hg hat
       obtain ⟨Ao31,co31,eo31⟩:=Kd.R_slice HO606.out
       (first|subst eo31|(injection eo31 with f1_ f2_ f3_;have f4_:=f1_.symm;have f5_:=f3_.symm;clear f1_ f2_ f3_;subst f4_;subst f5_))
       refine hK.out _ _ ⟨(blk_cell BK589.out 0).trans rfl,(blk_cell BK589.out 1).trans rfl⟩ (fun hHeld => ?_)
       clear hK K
       refine norm_ (a':=?_) ?_ ?_
       rotate_left
       ·show Act.put _ (some 41) _ = _
        simp only [Act.put,List.setIfInBounds_toArray,List.set_cons_zero,List.set_cons_succ,i64_w,i32_w]
        rfl
       refine pure_ (i:=6) (N:=some 42) (v:=?_) (a':=?_) #[true,true,true,true,true,true,true,false] rfl rfl (any_of HT_.out (by kernel_rfl)) (fun _ _ _ h => h) (Or.inl ⟨by rfl,?_⟩) ?_ ?_
       rotate_left
       ·intro w'
        go_simp
        with_reducible rfl
       rotate_left
       ·simp only [Act.put,List.setIfInBounds_toArray,List.set_cons_zero,List.set_cons_succ,i64_w,i32_w]
        rfl
       refine last_ (i:=7) (N:=none) #[true,true,true,true,true,true,true,true] rfl rfl (one_of HT_.out (by kernel_rfl)) (by decide) (fun K hK => ?_)
       have hs32 : w29.cell? ⟨gb589,1,none⟩ = some (u590001):=(blk_cell BK589.out 1).trans rfl
       have hfs32:=blk_frozen BK589.out 1
       have hns32_0:=NB583_589.out
       have hms32_0:=NB589_583.out
       refine skip_ (w1:=?_) (by rfl) rfl ?_ ?_
       rotate_left
       ·go_simp
        rfl
       refine hK.out _ _ ?_
       clear hK K
       refine done_ (done_of HT_.out (by kernel_rfl)) ?_
       try go_wp2
       go_roundg k2
       case measure => have:=HJ2.out;have:=HK2.out;omega
       case rel => exact ⟨(wrap64 (x34_2 + 1)),(t601),(t602),(t603),(y604),(.slice Ao31 y604.length co31),(by first|rfl|(simp;done)|(simp [*];done)),H',⟨by have:=HJ2.out;have:=HK2.out;omega⟩,⟨by (with_reducible repeat (first|apply Kd.R_alloc|apply Kd.R_drewN|apply Kd.R_drew));exact Kd.R_mono (Kd.R_far (p:=⟨gb589,1,none⟩) (Kd.R_types HO606.out BK589.out (by decide)) (fun _ hk => hk.2) (.slice Ao31 y604.length co31)) (fun _ hk => trivial)⟩,⟨by (with_reducible repeat (first|refine blk_drewN ?_ _|refine blk_drew ?_|refine blk_alloc ?_ _));refine blk_far ?_ NB583_589.out _;(with_reducible repeat (first|refine blk_drewN ?_ _|refine blk_drew ?_|refine blk_alloc ?_ _));exact BK583.out⟩,⟨by (with_reducible repeat (first|refine blk_drewN ?_ _|refine blk_drew ?_|refine blk_alloc ?_ _));refine blk_put (cs:=#[.string t585,u590001]) ?_ 1 _ rfl;(with_reducible repeat (first|refine blk_drewN ?_ _|refine blk_drew ?_|refine blk_alloc ?_ _));exact BK589.out⟩,⟨by first|((repeat (first|(with_reducible first|exact HI584.out|apply IsS76.alloc|apply IsS76.drewN|apply IsS76.drew|apply IsS76.set_1|apply IsS76.set_2|refine IsS76.far ?_ NB584_583.out _|(apply IsS76.far;case hne => exact NB584_583.out)|refine IsS76.far ?_ NB584_589.out _|(apply IsS76.far;case hne => exact NB584_589.out))|exact HI584.out));done)|((simp only [*]);(repeat (first|(with_reducible first|exact HI584.out|apply IsS76.alloc|apply IsS76.drewN|apply IsS76.drew|apply IsS76.set_1|apply IsS76.set_2|refine IsS76.far ?_ NB584_583.out _|(apply IsS76.far;case hne => exact NB584_583.out)|refine IsS76.far ?_ NB584_589.out _|(apply IsS76.far;case hne => exact NB584_589.out))|exact HI584.out)))⟩,⟨by repeat (first|(with_reducible first|exact HB.out|apply below_alloc|apply pw_below_drewN|apply below_drew1|refine below_set ?_ (IsS76.ge HI584.out)|refine below_set ?_ GE583.out|refine below_set ?_ GE589.out)|exact HB.out)⟩⟩
      ·rw [if_neg c26] at H
       exact absurd H (by simp)
     ·rw [if_neg c24] at H
      have c24b0 : decide (x34_2 < t590) = false:=decide_eq_false c24
      clear c24
      by_cases c33 : x585002_2 = true
      ·subst c33
       have H1 : (some ((⟨#[]⟩ : ByteArray),([] : List (S24)),0,20)) = some (r1,r2,r3,r4):=by rw [if_pos rfl] at H;exact H
       clear H
       have H:=H1
       clear H1
       simp only [Option.some.injEq,Prod.mk.injEq] at H
       obtain ⟨rfl,rfl,rfl,rfl⟩:=H
       obtain ⟨ASz34_0,cSz34_0,HGz34,hgz34,HSz34_0,hlSz34_0⟩:=HI584.out
       have hcz34_0:=cellS76_0 HGz34
       have hcz34_1:=cellS76_1 HGz34
       have hcz34_2:=cellS76_2 HGz34
       have hfz34_0:=blk_frozen HGz34 0
       have hfz34_1:=blk_frozen HGz34 1
       have hfz34_2:=blk_frozen HGz34 2
       clear HGz34 hgz34
       have hnb35:=NB583_589.out
       have hnc35:=NB589_583.out
       have hnb36:=NB583_584.out
       have hnc36:=NB584_583.out
       have hcz37_0 : wr.cell? ⟨gb583,0,none⟩ = some (.string (⟨#[]⟩ : ByteArray)):=(blk_cell BK583.out 0).trans rfl
       have hcz37_1 : wr.cell? ⟨gb583,1,none⟩ = some (.slice none 0 0):=(blk_cell BK583.out 1).trans rfl
       have hfz37_0:=blk_frozen BK583.out 0
       have hfz37_1:=blk_frozen BK583.out 1
       go_wp2
       refine bodyPost_ret (results_ctt rfl _ _ gb583 26 #[.string (⟨#[]⟩ : ByteArray), .slice none 0 0] (0,0) _ rfl (by (with_reducible repeat (first|refine blk_drewN ?_ _|refine blk_drew ?_|refine blk_alloc ?_ _));refine blk_put (cs:=#[.string (⟨#[]⟩ : ByteArray), .slice none 0 0]) ?_ 1 _ rfl;(with_reducible repeat (first|refine blk_drewN ?_ _|refine blk_drew ?_|refine blk_alloc ?_ _));refine blk_put (cs:=#[.string (⟨#[]⟩ : ByteArray), .slice none 0 0]) ?_ 0 _ rfl;(with_reducible repeat (first|refine blk_drewN ?_ _|refine blk_drew ?_|refine blk_alloc ?_ _));exact BK583.out) Try.underlying26 rfl (by kernel_rfl)) rfl ?_
       exact ⟨_,by first|rfl|(simp [errW_none,errW_some] <;> rfl)|(simp [*,errW_none,errW_some] <;> rfl),by first|exact Kd.R_nil _ _ _ _ _|exact Kd.N_nil _ _ _ _ _|exact Kd.V_nil _ _ _ _ _|exact Kd.Q_nil _ _ _ _ _|exact Kd.S_nil _ _ _ _ _,by repeat (first|(with_reducible first|exact HB.out|apply below_alloc|apply pw_below_drewN|apply below_drew1|refine below_set ?_ (IsS76.ge HI584.out)|refine below_set ?_ GE583.out|refine below_set ?_ GE589.out)|exact HB.out)⟩
      ·replace c33:=Bool.eq_false_iff.mpr c33
       subst c33
       have H1 : (some (t585,x590001_2,x585001_2,0)) = some (r1,r2,r3,r4):=by rw [if_neg (show ¬ (false = true) by decide)] at H;exact H
       clear H
       have H:=H1
       clear H1
       simp only [Option.some.injEq,Prod.mk.injEq] at H
       obtain ⟨rfl,rfl,rfl,rfl⟩:=H
       obtain ⟨ASz38_0,cSz38_0,HGz38,hgz38,HSz38_0,hlSz38_0⟩:=HI584.out
       have hcz38_0:=cellS76_0 HGz38
       have hcz38_1:=cellS76_1 HGz38
       have hcz38_2:=cellS76_2 HGz38
       have hfz38_0:=blk_frozen HGz38 0
       have hfz38_1:=blk_frozen HGz38 1
       have hfz38_2:=blk_frozen HGz38 2
       clear HGz38 hgz38
       try go_wp2
       obtain ⟨AT584_0,cT584_0,HGT_,hgT_,hrT_0,hlT_0⟩:=HI584.out
       have BK584:=Aside0.mk HGT_
       clear HGT_ hgT_ HI584
       have n0_:=Aside0.mk (Kd.R_drew HO_590001.out)
       have n1_:=Aside0.mk (blk_drew BK583.out)
       have n2_:=Aside0.mk (blk_drew BK589.out)
       have n3_:=Aside0.mk (blk_drew BK584.out)
       have n4_:=Aside0.mk (below_drew1 HB.out)
       clear HO_590001
       clear BK583
       clear BK589
       clear BK584
       clear HB
       have HO_590001:=n0_
       have BK583:=n1_
       have BK589:=n2_
       have BK584:=n3_
       have HB:=n4_
       clear n0_ n1_ n2_ n3_ n4_
       obtain ⟨Ao41,co41,eo41⟩:=Kd.R_slice HO_590001.out
       (first|subst eo41|(injection eo41 with f1_ f2_ f3_;have f4_:=f1_.symm;have f5_:=f3_.symm;clear f1_ f2_ f3_;subst f4_;subst f5_))
       refine start_ (n:=8) (S:=fun w' => w'.cell? ⟨gb589,0,none⟩ = some (.string t585) ∧ w'.cell? ⟨gb589,1,none⟩ = some (.slice Ao41 x590001_2.length co41) ∧ w'.cell? ⟨gb584,0,none⟩ = some (.slice AT584_0 x585000_2.length cT584_0) ∧ w'.cell? ⟨gb584,1,none⟩ = some (.int .i64 x585001_2) ∧ w'.cell? ⟨gb584,2,none⟩ = some (.bool false)) (ds:=[]) #[false,false,false,false,false,false,false,false] (by kernel_rfl) rfl rfl ⟨(blk_cell BK589.out 0).trans rfl,(blk_cell BK589.out 1).trans rfl,(blk_cell BK584.out 0).trans rfl,(blk_cell BK584.out 1).trans rfl,(blk_cell BK584.out 2).trans rfl⟩ (fun hHeld => ?_);refine with_tabW codec_Event.tab10 codec_Event.bits10 (fun HT_ HW_ => ?_)
       generalize wr.drew = w39 at HO_590001 BK583 BK589 BK584 HB hHeld ⊢
       refine pure_ (i:=1) (N:=some 50) (v:=?_) (a':=?_) #[false,true,false,false,false,false,false,false] rfl rfl (any_of HT_.out (by kernel_rfl)) (fun _ _ _ h => h) (Or.inl ⟨by rfl,?_⟩) ?_ ?_
       rotate_left
       ·intro w'
        go_simp
        with_reducible rfl
       rotate_left
       ·simp only [Act.put,List.setIfInBounds_toArray,List.set_cons_zero,List.set_cons_succ,i64_w,i32_w]
        rfl
       refine pure_ (i:=2) (N:=some 51) (v:=?_) (a':=?_) #[false,true,true,false,false,false,false,false] rfl rfl (any_of HT_.out (by kernel_rfl)) (fun _ _ _ h => h) (Or.inl ⟨by rfl,?_⟩) ?_ ?_
       rotate_left
       ·intro w'
        go_simp
        with_reducible rfl
       rotate_left
       ·simp only [Act.put,List.setIfInBounds_toArray,List.set_cons_zero,List.set_cons_succ,i64_w,i32_w]
        rfl
       refine pure_ (i:=3) (N:=some 52) (v:=?_) (a':=?_) #[false,true,true,true,false,false,false,false] rfl rfl (any_of HT_.out (by kernel_rfl)) (fun _ _ _ h => h) (Or.inl ⟨by rfl,?_⟩) ?_ ?_
       rotate_left
       ·intro w'
        go_simp
        with_reducible rfl
       rotate_left
       ·simp only [Act.put,List.setIfInBounds_toArray,List.set_cons_zero,List.set_cons_succ,i64_w,i32_w]
        rfl
       refine take_ (i:=0) (N:=some 49) (v:=?_) (a':=?_) #[true,true,true,true,false,false,false,false] rfl rfl (take_ofW HT_.out HW_.out (by kernel_rfl)) (fun _ _ _ h => h) (Or.inl ⟨by rfl,?_⟩) hHeld ?_ ?_
       rotate_left
       ·rintro w' ⟨s0,s1,s2,s3,s4⟩
        go_simp
        with_reducible rfl
       rotate_left
       ·simp only [Act.put,List.setIfInBounds_toArray,List.set_cons_zero,List.set_cons_succ,i64_w,i32_w]
        rfl
       refine take_ (i:=4) (N:=some 53) (v:=?_) (a':=?_) #[true,true,true,true,true,false,false,false] rfl rfl (take_ofW HT_.out HW_.out (by kernel_rfl)) (fun _ _ _ h => h) (Or.inl ⟨by rfl,?_⟩) hHeld ?_ ?_
       rotate_left
       ·rintro w' ⟨s0,s1,s2,s3,s4⟩
        go_simp
        with_reducible rfl
       rotate_left
       ·simp only [Act.put,List.setIfInBounds_toArray,List.set_cons_zero,List.set_cons_succ,i64_w,i32_w]
        rfl
       refine one_ (i:=5) (N:=none) #[true,true,true,true,true,true,false,false] rfl rfl (one_of HT_.out (by kernel_rfl)) (by decide) (fun K hK => ?_)
       have hs40 : w39.cell? ⟨gb583,0,none⟩ = some (.string (⟨#[]⟩ : ByteArray)):=(blk_cell BK583.out 0).trans rfl
       have hfs40:=blk_frozen BK583.out 0
       have hns40_1:=NB589_583.out
       have hns40_2:=NB584_583.out
       have hms40_1:=NB583_589.out
       have hms40_2:=NB583_584.out
       have hs42 : w39.cell? ⟨gb583,1,none⟩ = some (.slice none 0 0):=(blk_cell BK583.out 1).trans rfl
       have hfs42:=blk_frozen BK583.out 1
       have hns42_1:=NB589_583.out
       have hns42_2:=NB584_583.out
       have hms42_1:=NB583_589.out
       have hms42_2:=NB583_584.out
       refine skip_ (w1:=?_) (by rfl) rfl ?_ ?_
       rotate_left
       ·go_simp
        rfl
       refine hK.out _ _ ⟨((cell_far (p:=⟨gb583,_,none⟩) NB589_583.out _).trans (((cell_far (p:=⟨gb583,_,none⟩) NB589_583.out _).trans (hHeld.1)))),((cell_far (p:=⟨gb583,_,none⟩) NB589_583.out _).trans (((cell_far (p:=⟨gb583,_,none⟩) NB589_583.out _).trans (hHeld.2.1)))),((cell_far (p:=⟨gb583,_,none⟩) NB584_583.out _).trans (((cell_far (p:=⟨gb583,_,none⟩) NB584_583.out _).trans (hHeld.2.2.1)))),((cell_far (p:=⟨gb583,_,none⟩) NB584_583.out _).trans (((cell_far (p:=⟨gb583,_,none⟩) NB584_583.out _).trans (hHeld.2.2.2.1)))),((cell_far (p:=⟨gb583,_,none⟩) NB584_583.out _).trans (((cell_far (p:=⟨gb583,_,none⟩) NB584_583.out _).trans (hHeld.2.2.2.2))))⟩ (fun hHeld => ?_)
       clear hK K
       refine pure_ (i:=6) (N:=some 3) (v:=?_) (a':=?_) #[true,true,true,true,true,true,true,false] rfl rfl (any_of HT_.out (by kernel_rfl)) (fun _ _ _ h => h) (Or.inl ⟨by rfl,?_⟩) ?_ ?_
       rotate_left
       ·intro w'
        go_simp
        with_reducible rfl
       rotate_left
       ·simp only [Act.put,List.setIfInBounds_toArray,List.set_cons_zero,List.set_cons_succ,i64_w,i32_w]
        rfl
       refine pure_ (i:=7) (N:=some 4) (v:=?_) (a':=?_) #[true,true,true,true,true,true,true,true] rfl rfl (any_of HT_.out (by kernel_rfl)) (fun _ _ _ h => h) (Or.inl ⟨by rfl,?_⟩) ?_ ?_
       rotate_left
       ·intro w'
        go_simp
        with_reducible rfl
       rotate_left
       ·simp only [Act.put,List.setIfInBounds_toArray,List.set_cons_zero,List.set_cons_succ,i64_w,i32_w]
        rfl
       refine done_ (done_of HT_.out (by kernel_rfl)) ?_
       try go_wp2
       refine bodyPost_ret (results_ctt rfl _ _ gb583 26 #[.string t585, .slice Ao41 x590001_2.length co41] (0,0) _ rfl (by (with_reducible repeat (first|refine blk_drewN ?_ _|refine blk_drew ?_|refine blk_alloc ?_ _));refine blk_put (cs:=#[.string t585, .slice none 0 0]) ?_ 1 _ rfl;(with_reducible repeat (first|refine blk_drewN ?_ _|refine blk_drew ?_|refine blk_alloc ?_ _));refine blk_put (cs:=#[.string (⟨#[]⟩ : ByteArray), .slice none 0 0]) ?_ 0 _ rfl;(with_reducible repeat (first|refine blk_drewN ?_ _|refine blk_drew ?_|refine blk_alloc ?_ _));exact BK583.out) Try.underlying26 rfl (by kernel_rfl)) rfl ?_
       exact ⟨_,by first|rfl|(simp [errW_none,errW_some] <;> rfl)|(simp [*,errW_none,errW_some] <;> rfl),by (with_reducible repeat (first|apply Kd.R_alloc|apply Kd.R_drewN|apply Kd.R_drew));exact Kd.R_mono (Kd.R_far (p:=⟨gb583,1,none⟩) (Kd.R_far (p:=⟨gb583,0,none⟩) (Kd.R_types HO_590001.out BK583.out (by decide)) (fun _ hk => hk.2) (.string t585)) (fun _ hk => hk.2) (.slice Ao41 x590001_2.length co41)) (fun _ hk => trivial),by repeat (first|(with_reducible first|exact HB.out|apply below_alloc|apply pw_below_drewN|apply below_drew1|refine below_set ?_ GE583.out|refine below_set ?_ GE589.out|refine below_set ?_ GE584.out)|exact HB.out)⟩

end Go.Proofs.Ythbnblmnamckmaa.PAll
-- Laid by a program of this seat (wip/xprint.py over the kit's print).
namespace Go.Proofs.Ythbnblmnamckmaa.PAll
open Go.RowKit Go.Proofs.YthbnblmnamckmaaW.PrintWords Go.Proofs.YthbnblmnamckmaaW.PrintLast Go.Proofs.YthbnblmnamckmaaW.PrintMore
attribute [local go_sem] max2_int min2_int max_two min_two max_three min_three max_four min_four   -- for this text's walks alone
set_option linter.unusedVariables false
set_option linter.unusedSimpArgs false

/-! ### windlassref2_Event: function 33 -/
mutual
def windlassref2_Event.j0 : Nat → List Int → ByteArray → Int → Bool → Option (ByteArray × (List (S24)) × Int × Int)
 | 0,_,_,_,_ => none
 | k + 1,x0,x5,x6,x26 => if x26 = true then (some ((⟨#[]⟩ : ByteArray),([] : List (S24)),0,20)) else (if 0 ≤ x6 then (if x6 ≤ (x0.length : Int) then ((windlassref2_Uint.f k (x0.drop (x6 : Int).toNat)).bind fun bt612 => (if bt612.2.2 = 0 then (windlassref2_Event.j1 k x0 x5 x6 bt612.1 bt612.2.1 (decide (bt612.1 > 12))) else (windlassref2_Event.j1 k x0 x5 x6 bt612.1 bt612.2.1 true))) else (none)) else (none))
def windlassref2_Event.j1 : Nat → List Int → ByteArray → Int → Int → Int → Bool → Option (ByteArray × (List (S24)) × Int × Int)
 | 0,_,_,_,_,_,_ => none
 | k + 1,x0,x5,x6,x8,x9,x41 => if x41 = true then (some ((⟨#[]⟩ : ByteArray),([] : List (S24)),0,20)) else (windlassref2_Event.l0 k x0 (wrap64 (x6 + x9)) x8 0 x5 ([] : List (S24)))
def windlassref2_Event.l0 : Nat → List Int → Int → Int → Int → ByteArray → List (S24) → Option (ByteArray × (List (S24)) × Int × Int)
 | 0,_,_,_,_,_,_ => none
 | k + 1,x0,x6,x8,x11,x616000,x616001 => if x11 < x8 then (if 0 ≤ x6 then (if x6 ≤ (x0.length : Int) then ((windlassref2_Value.f k (x0.drop (x6 : Int).toNat)).bind fun bt617 => (if bt617.2.2.2.2.2.2 = 0 then (if x616001.length < 2199023255552 then (windlassref2_Event.l0 k x0 (wrap64 (x6 + bt617.2.2.2.2.2.1)) x8 (IntKind.u64.wrap (x11 + 1)) x616000 (x616001 ++ [(⟨bt617.1,bt617.2.1,bt617.2.2.1,bt617.2.2.2.1,bt617.2.2.2.2.1⟩ : S24)])) else (none)) else (some ((⟨#[]⟩ : ByteArray),([] : List (S24)),0,20)))) else (none)) else (none)) else (some (x616000,x616001,x6,0))
end
def windlassref2_Event.f (k : Nat) (l0 : List Int) : Option (ByteArray × (List (S24)) × Int × Int):=(windlassref2_text.f k l0 20).bind fun bt608 => (if bt608.2.2 = 0 then (windlassref2_Event.j0 k l0 bt608.1 bt608.2.1 (bt608.1.toList == ([] : List UInt8))) else (windlassref2_Event.j0 k l0 bt608.1 bt608.2.1 true))
theorem windlassref2_Event.mono_l : ∀ k,(∀ y0 y1 y2 y3,LeO (windlassref2_Event.j0 k y0 y1 y2 y3) (windlassref2_Event.j0 (k + 1) y0 y1 y2 y3)) ∧ (∀ y0 y1 y2 y3 y4 y5,LeO (windlassref2_Event.j1 k y0 y1 y2 y3 y4 y5) (windlassref2_Event.j1 (k + 1) y0 y1 y2 y3 y4 y5)) ∧ (∀ y0 y1 y2 y3 y4 y5,LeO (windlassref2_Event.l0 k y0 y1 y2 y3 y4 y5) (windlassref2_Event.l0 (k + 1) y0 y1 y2 y3 y4 y5))
 | 0 => ⟨fun _ _ _ _ r h => by simp [windlassref2_Event.j0] at h,fun _ _ _ _ _ _ r h => by simp [windlassref2_Event.j1] at h,fun _ _ _ _ _ _ r h => by simp [windlassref2_Event.l0] at h⟩
 | k + 1 => by
  obtain ⟨ih0,ih1,ih2⟩:=windlassref2_Event.mono_l k
  refine ⟨?_,?_,?_⟩
  ·intro y0 y1 y2 y3
   unfold windlassref2_Event.j0
   repeat' first
   | (with_reducible exact ih0 _ _ _ _)
   | (with_reducible exact ih1 _ _ _ _ _ _)
   | (with_reducible exact ih2 _ _ _ _ _ _)
   | (with_reducible exact windlassref2_Uint.mono _ _)
   | (with_reducible exact windlassref2_Value.mono _ _)
   | (with_reducible exact windlassref2_text.mono _ _ _)
   | (with_reducible exact LeO.refl _)
   | (with_reducible exact LeO.none _)
   | (with_reducible refine LeO.ite ?_ ?_)
   | (with_reducible refine LeO.bind ?_ (fun _ => ?_))
   | exact ih0 _ _ _ _
   | exact ih1 _ _ _ _ _ _
   | exact ih2 _ _ _ _ _ _
   | exact windlassref2_Uint.mono _ _
   | exact windlassref2_Value.mono _ _
   | exact windlassref2_text.mono _ _ _
   | exact LeO.none _
   | refine LeO.ite ?_ ?_
   | refine LeO.bind ?_ (fun _ => ?_)
  ·intro y0 y1 y2 y3 y4 y5
   unfold windlassref2_Event.j1
   repeat' first
   | (with_reducible exact ih0 _ _ _ _)
   | (with_reducible exact ih1 _ _ _ _ _ _)
   | (with_reducible exact ih2 _ _ _ _ _ _)
   | (with_reducible exact windlassref2_Uint.mono _ _)
   | (with_reducible exact windlassref2_Value.mono _ _)
   | (with_reducible exact windlassref2_text.mono _ _ _)
   | (with_reducible exact LeO.refl _)
   | (with_reducible exact LeO.none _)
   | (with_reducible refine LeO.ite ?_ ?_)
   | (with_reducible refine LeO.bind ?_ (fun _ => ?_))
   | exact ih0 _ _ _ _
   | exact ih1 _ _ _ _ _ _
   | exact ih2 _ _ _ _ _ _
   | exact windlassref2_Uint.mono _ _
   | exact windlassref2_Value.mono _ _
   | exact windlassref2_text.mono _ _ _
   | exact LeO.none _
   | refine LeO.ite ?_ ?_
   | refine LeO.bind ?_ (fun _ => ?_)
  ·intro y0 y1 y2 y3 y4 y5
   unfold windlassref2_Event.l0
   repeat' first
   | (with_reducible exact ih0 _ _ _ _)
   | (with_reducible exact ih1 _ _ _ _ _ _)
   | (with_reducible exact ih2 _ _ _ _ _ _)
   | (with_reducible exact windlassref2_Uint.mono _ _)
   | (with_reducible exact windlassref2_Value.mono _ _)
   | (with_reducible exact windlassref2_text.mono _ _ _)
   | (with_reducible exact LeO.refl _)
   | (with_reducible exact LeO.none _)
   | (with_reducible refine LeO.ite ?_ ?_)
   | (with_reducible refine LeO.bind ?_ (fun _ => ?_))
   | exact ih0 _ _ _ _
   | exact ih1 _ _ _ _ _ _
   | exact ih2 _ _ _ _ _ _
   | exact windlassref2_Uint.mono _ _
   | exact windlassref2_Value.mono _ _
   | exact windlassref2_text.mono _ _ _
   | exact LeO.none _
   | refine LeO.ite ?_ ?_
   | refine LeO.bind ?_ (fun _ => ?_)
theorem windlassref2_Event.mono : ∀ a0 k,LeO (windlassref2_Event.f k a0) (windlassref2_Event.f (k + 1) a0):=by
 intro a0 k
 obtain ⟨ih0,ih1,ih2⟩:=windlassref2_Event.mono_l k
 unfold windlassref2_Event.f
 repeat' first
   | (with_reducible exact ih0 _ _ _ _)
   | (with_reducible exact ih1 _ _ _ _ _ _)
   | (with_reducible exact ih2 _ _ _ _ _ _)
   | (with_reducible exact windlassref2_Uint.mono _ _)
   | (with_reducible exact windlassref2_Value.mono _ _)
   | (with_reducible exact windlassref2_text.mono _ _ _)
   | (with_reducible exact LeO.refl _)
   | (with_reducible exact LeO.none _)
   | (with_reducible refine LeO.ite ?_ ?_)
   | (with_reducible refine LeO.bind ?_ (fun _ => ?_))
   | exact ih0 _ _ _ _
   | exact ih1 _ _ _ _ _ _
   | exact ih2 _ _ _ _ _ _
   | exact windlassref2_Uint.mono _ _
   | exact windlassref2_Value.mono _ _
   | exact windlassref2_text.mono _ _ _
   | exact LeO.none _
   | refine LeO.ite ?_ ?_
   | refine LeO.bind ?_ (fun _ => ?_)
set_option maxHeartbeats 8000000 in
set_option maxRecDepth 100000 in
theorem windlassref2_Event.calls (k : Nat) (A0 : Option Addr) (c0 : Nat) (l0 : List Int) (r1 : ByteArray) (r2 : List (S24)) (r3 : Int) (r4 : Int) (w : World) (hr0 : Kd.C (Kd.int .u8) w A0 l0.length l0) (hc0 : l0.length ≤ c0) (h : windlassref2_Event.f k l0 = some (r1,r2,r3,r4)) :
  Calls Try.prog 33 #[.slice A0 l0.length c0] w fun e w' => ∃ v1_ : Value,e = .returned (.tuple #[.agg #[.string r1,v1_], .int .i64 r3, .int .i64 r4]) ∧ Kd.R k24 24 w' w.heap.size (fun _ => True) v1_ r2 ∧ Below w.heap.size w w':=by
 have hu26:=Try.underlying26
 have hu24:=Try.underlying24
 have HR0:=Aside0.mk hr0
 have HC0:=Aside0.mk hc0
 clear hr0 hc0
 have HB:=Aside0.mk (Below.refl w.heap.size w)
 have H : ((windlassref2_text.f k l0 20).bind fun bt608 => (if bt608.2.2 = 0 then (windlassref2_Event.j0 k l0 bt608.1 bt608.2.1 (bt608.1.toList == ([] : List UInt8))) else (windlassref2_Event.j0 k l0 bt608.1 bt608.2.1 true))) = some (r1,r2,r3,r4):=h
 clear h
 replace H:=Option.bind_eq_some_iff.mp H
 obtain ⟨⟨t608,t609,t610⟩,A20,H⟩:=H
 replace H : (if t610 = 0 then (windlassref2_Event.j0 k l0 t608 t609 (t608.toList == ([] : List UInt8))) else (windlassref2_Event.j0 k l0 t608 t609 true)) = some (r1,r2,r3,r4):=H
 have A2:=Aside0.mk A20
 clear A20
 have HC3:=Aside0.mk H
 clear H
 go_enter Try.func33,Try.ntmps33
 go_upto_region 2 with (first|((with_reducible refine gate_dst (N:=2) rfl ?_);refine box_event ?hg (N:=2) ?hd (cs:=#[.string (⟨#[]⟩ : ByteArray), .slice none 0 0]) (t:=26) ?hr ?_;(case hd => rfl);(case hg => rfl);(case hr => first|(go_simp;done)|(go_simp;rfl));intro gb607 hg w4 hbox hb;have n0_:=Aside0.mk (below_step (by repeat (first|(with_reducible first|exact HB.out|apply below_alloc|apply pw_below_drewN|apply below_drew1)|exact HB.out)) hb);have n1_:=Aside0.mk (hbox);have n2_:=Aside0.mk ((by rw [hg];exact (below_size (by repeat (first|(with_reducible first|exact HB.out|apply below_alloc|apply pw_below_drewN|apply below_drew1)|exact HB.out))) : w.heap.size ≤ gb607));have n3_:=Aside0.mk ((by rw [hg];exact (below_size (by repeat (first|(with_reducible first|exact HB.out|apply below_alloc|apply pw_below_drewN|apply below_drew1)|exact HB.out))) : w.heap.size ≤ gb607));clear HB;have HB:=n0_;have BK607:=n1_;have GW607:=n2_;have GE607:=n3_;clear n0_ n1_ n2_ n3_;clear hb hbox hg)|((with_reducible refine gate_callee (f:=40) rfl ?_);refine goesL_ (some 17) rfl rfl Try.func40 (by kernel_rfl) rfl #[.slice A0 l0.length c0, .int .u64 20] rfl (by (try simp only [List.map_toArray,List.map_cons,List.map_nil]);first|done|rfl|(simp only [List.length_drop,List.length_take];rfl)|(go_simp;done)|(go_simp;simp;done)) ?_;(with_reducible refine (windlassref2_text.calls k _ _ l0 20 t608 t609 t610 _ ?side1 ?side2 A2.out).mono ?_);(case side1 => repeat (first|exact (Kd.C_below HR0.out HB.out)|(with_reducible refine Kd.C_alloc ?_ _)|(with_reducible refine Kd.C_drewN ?_ _)|(with_reducible refine Kd.C_drew ?_)));(case side2 => exact HC0.out);rintro e w' ⟨rfl,⟨nd,rfl⟩⟩;refine ⟨_,rfl,?_⟩))
 (try simp only [Act.put,List.setIfInBounds_toArray,List.set_cons_zero,List.set_cons_succ])
 go_cut [26] (fun v26 wc => ∃ (kq : Nat) (x26_2 : Bool),v26 = .bool x26_2 ∧ Aside0 (windlassref2_Event.j0 kq l0 t608 t609 x26_2 = some (r1,r2,r3,r4)) ∧ Aside0 (kq ≤ k) ∧ Aside0 (wc.heap[gb607]? = some (.cells #[.string (⟨#[]⟩ : ByteArray),(.slice none 0 0)] 26 (0,0))) ∧ Aside0 (Below w.heap.size w wc))
 case first =>
  have H:=HC3.out
  clear HC3
  by_cases c5 : t610 = 0
  ·rw [if_pos c5] at H
   have c5b0 : (t610 == 0) = true:=beq_iff_eq.mpr c5
   have c5b1 : (t610 != 0) = false:=bne_eq_false_iff_eq.mpr c5
   clear c5
   (first|rw [c5b0]|(simp only [i64_w,i32_w];rw [c5b0])|skip)
   have H':=Aside0.mk H
   clear H
   go_wp2
   go_meet
   case rel => exact ⟨_,((t608.toList == ([] : List UInt8))),(by first|rfl|(simp;done)|(simp [*];done)),H',⟨by first|omega|exact Nat.le_refl _⟩,⟨by (with_reducible repeat (first|refine blk_drewN ?_ _|refine blk_drew ?_|refine blk_alloc ?_ _));exact BK607.out⟩,⟨by repeat (first|(with_reducible first|exact HB.out|apply below_alloc|apply pw_below_drewN|apply below_drew1|refine below_set ?_ GE607.out)|exact HB.out)⟩⟩
  ·rw [if_neg c5] at H
   have c5b0 : (t610 == 0) = false:=beq_eq_false_iff_ne.mpr c5
   have c5b1 : (t610 != 0) = true:=bne_iff_ne.mpr c5
   (first|rw [c5b0]|(simp only [i64_w,i32_w];rw [c5b0])|skip)
   have H':=Aside0.mk H
   clear H
   go_wp2
   go_meet
   case rel => exact ⟨_,(true),(by first|rfl|(simp;done)|(simp [*];done)),H',⟨by first|omega|exact Nat.le_refl _⟩,⟨by (with_reducible repeat (first|refine blk_drewN ?_ _|refine blk_drew ?_|refine blk_alloc ?_ _));exact BK607.out⟩,⟨by repeat (first|(with_reducible first|exact HB.out|apply below_alloc|apply pw_below_drewN|apply below_drew1|refine below_set ?_ GE607.out)|exact HB.out)⟩⟩
 case rest =>
  clear HC3
  try clear p2
  try clear c3
  try clear c4
  try clear c5
  try clear c5b0
  try clear c5b1
  obtain ⟨kq,x26_2,rfl,HA,HJ2,BK607,HB⟩:=hcut
  cases kq with
  | zero => exact absurd HA.out (by simp [windlassref2_Event.j0])
  | succ kj2 =>
   have H:=HA.out
   clear HA
   simp only [windlassref2_Event.j0] at H
   by_cases c6 : x26_2 = true
   ·subst c6
    have H1 : (some ((⟨#[]⟩ : ByteArray),([] : List (S24)),0,20)) = some (r1,r2,r3,r4):=by rw [if_pos rfl] at H;exact H
    clear H
    have H:=H1
    clear H1
    simp only [Option.some.injEq,Prod.mk.injEq] at H
    obtain ⟨rfl,rfl,rfl,rfl⟩:=H
    have hcz7_0 : wc.cell? ⟨gb607,0,none⟩ = some (.string (⟨#[]⟩ : ByteArray)):=(blk_cell BK607.out 0).trans rfl
    have hcz7_1 : wc.cell? ⟨gb607,1,none⟩ = some (.slice none 0 0):=(blk_cell BK607.out 1).trans rfl
    have hfz7_0:=blk_frozen BK607.out 0
    have hfz7_1:=blk_frozen BK607.out 1
    go_wp2
    refine bodyPost_ret (results_ctt rfl _ _ gb607 26 #[.string (⟨#[]⟩ : ByteArray), .slice none 0 0] (0,0) _ rfl (by (with_reducible repeat (first|refine blk_drewN ?_ _|refine blk_drew ?_|refine blk_alloc ?_ _));refine blk_put (cs:=#[.string (⟨#[]⟩ : ByteArray), .slice none 0 0]) ?_ 1 _ rfl;(with_reducible repeat (first|refine blk_drewN ?_ _|refine blk_drew ?_|refine blk_alloc ?_ _));refine blk_put (cs:=#[.string (⟨#[]⟩ : ByteArray), .slice none 0 0]) ?_ 0 _ rfl;(with_reducible repeat (first|refine blk_drewN ?_ _|refine blk_drew ?_|refine blk_alloc ?_ _));exact BK607.out) Try.underlying26 rfl (by kernel_rfl)) rfl ?_
    exact ⟨_,by first|rfl|(simp [errW_none,errW_some] <;> rfl)|(simp [*,errW_none,errW_some] <;> rfl),by first|exact Kd.R_nil _ _ _ _ _|exact Kd.N_nil _ _ _ _ _|exact Kd.V_nil _ _ _ _ _|exact Kd.Q_nil _ _ _ _ _|exact Kd.S_nil _ _ _ _ _,by repeat (first|(with_reducible first|exact HB.out|apply below_alloc|apply pw_below_drewN|apply below_drew1|refine below_set ?_ GE607.out)|exact HB.out)⟩
   ·replace c6:=Bool.eq_false_iff.mpr c6
    subst c6
    have H1 : (if 0 ≤ t609 then (if t609 ≤ (l0.length : Int) then ((windlassref2_Uint.f kj2 (l0.drop (t609 : Int).toNat)).bind fun bt612 => (if bt612.2.2 = 0 then (windlassref2_Event.j1 kj2 l0 t608 t609 bt612.1 bt612.2.1 (decide (bt612.1 > 12))) else (windlassref2_Event.j1 kj2 l0 t608 t609 bt612.1 bt612.2.1 true))) else (none)) else (none)) = some (r1,r2,r3,r4):=by rw [if_neg (show ¬ (false = true) by decide)] at H;exact H
    clear H
    have H:=H1
    clear H1
    by_cases c8 : 0 ≤ t609
    ·rw [if_pos c8] at H
     have c8b0:=eq_true c8
     have c8b1 : decide (0 ≤ t609) = true:=decide_eq_true c8
     clear c8
     by_cases c9 : t609 ≤ (l0.length : Int)
     ·rw [if_pos c9] at H
      have c9b0:=eq_true c9
      have c9b1 : decide (t609 ≤ (l0.length : Int)) = true:=decide_eq_true c9
      clear c9
      replace H:=Option.bind_eq_some_iff.mp H
      obtain ⟨⟨t612,t613,t614⟩,A100,H⟩:=H
      replace H : (if t614 = 0 then (windlassref2_Event.j1 kj2 l0 t608 t609 t612 t613 (decide (t612 > 12))) else (windlassref2_Event.j1 kj2 l0 t608 t609 t612 t613 true)) = some (r1,r2,r3,r4):=H
      have A10:=Aside0.mk A100
      clear A100
      have HC11:=Aside0.mk H
      clear H
      obtain ⟨i012,hi012,_,hsz12,_⟩:=info_parts info5
      obtain ⟨A12,hcut12,hA12,hC12⟩:=print_drop_of (P:=Try.prog) (Value.int .u8) 0 30 5 .i64 Try.underlying30 hi012 hsz12 A0 c0 l0 t609 (of_decide_eq_true (by first|(with_reducible assumption)|assumption)) (of_decide_eq_true (by first|(with_reducible assumption)|assumption)) HC0.out
      have HR611:=Aside0.mk (Kd.C_of_reads (h1:=fun _ => rfl) (hA12 _ (Kd.reads_of_C HR0.out)))
      have HC611:=Aside0.mk hC12
      clear hA12 hC12 hi012 hsz12
      go_upto_region 5 with (first|((with_reducible refine gate_callee (f:=27) rfl ?_);refine goesL_ (some 32) rfl rfl Try.func27 (by kernel_rfl) rfl #[.slice A12 (l0.drop (t609 : Int).toNat).length (c0 - t609.toNat)] rfl (by (try simp only [List.map_toArray,List.map_cons,List.map_nil]);first|done|(rw [show (l0.drop (t609 : Int).toNat).length = (l0.length - t609.toNat) from List.length_drop] <;> rfl)|rfl|(simp only [List.length_drop,List.length_take];rfl)|(go_simp;done)|(go_simp;simp;done)) ?_;(with_reducible refine (windlassref2_Uint.calls kj2 _ _ (l0.drop (t609 : Int).toNat) t612 t613 t614 _ ?side1 ?side2 A10.out).mono ?_);(case side1 => repeat (first|exact (Kd.C_below HR611.out HB.out)|(with_reducible refine Kd.C_alloc ?_ _)|(with_reducible refine Kd.C_drewN ?_ _)|(with_reducible refine Kd.C_drew ?_)));(case side2 => exact HC611.out);rintro e w' ⟨rfl,⟨nd,rfl⟩⟩;refine ⟨_,rfl,?_⟩))
      (try simp only [Act.put,List.setIfInBounds_toArray,List.set_cons_zero,List.set_cons_succ])
      go_cut [41] (fun v41 wc => ∃ (kq : Nat) (x41_10 : Bool),v41 = .bool x41_10 ∧ Aside0 (windlassref2_Event.j1 kq l0 t608 t609 t612 t613 x41_10 = some (r1,r2,r3,r4)) ∧ Aside0 (kq ≤ kj2) ∧ Aside0 (wc.heap[gb607]? = some (.cells #[.string (⟨#[]⟩ : ByteArray),(.slice none 0 0)] 26 (0,0))) ∧ Aside0 (Below w.heap.size w wc))
      case first =>
       have H:=HC11.out
       clear HC11
       by_cases c13 : t614 = 0
       ·rw [if_pos c13] at H
        have c13b0 : (t614 == 0) = true:=beq_iff_eq.mpr c13
        have c13b1 : (t614 != 0) = false:=bne_eq_false_iff_eq.mpr c13
        clear c13
        (first|rw [c13b0]|(simp only [i64_w,i32_w];rw [c13b0])|skip)
        have H':=Aside0.mk H
        clear H
        go_wp2
        go_meet
        case rel => exact ⟨_,(decide (t612 > 12)),(by first|rfl|(simp;done)|(simp [*];done)),H',⟨by have:=HJ2.out;first|omega|exact Nat.le_refl _⟩,⟨by (with_reducible repeat (first|refine blk_drewN ?_ _|refine blk_drew ?_|refine blk_alloc ?_ _));exact BK607.out⟩,⟨by repeat (first|(with_reducible first|exact HB.out|apply below_alloc|apply pw_below_drewN|apply below_drew1|refine below_set ?_ GE607.out)|exact HB.out)⟩⟩
       ·rw [if_neg c13] at H
        have c13b0 : (t614 == 0) = false:=beq_eq_false_iff_ne.mpr c13
        have c13b1 : (t614 != 0) = true:=bne_iff_ne.mpr c13
        (first|rw [c13b0]|(simp only [i64_w,i32_w];rw [c13b0])|skip)
        have H':=Aside0.mk H
        clear H
        go_wp2
        go_meet
        case rel => exact ⟨_,(true),(by first|rfl|(simp;done)|(simp [*];done)),H',⟨by have:=HJ2.out;first|omega|exact Nat.le_refl _⟩,⟨by (with_reducible repeat (first|refine blk_drewN ?_ _|refine blk_drew ?_|refine blk_alloc ?_ _));exact BK607.out⟩,⟨by repeat (first|(with_reducible first|exact HB.out|apply below_alloc|apply pw_below_drewN|apply below_drew1|refine below_set ?_ GE607.out)|exact HB.out)⟩⟩
      case rest =>
       clear HC11
       try clear c1
       try clear c2
       try clear p2
       try clear c3
       try clear c4
       try clear c5
       try clear c5b0
       try clear c5b1
       try clear c6
       try clear c8
       try clear c8b0
       try clear c8b1
       try clear c9
       try clear c9b0
       try clear c9b1
       try clear c13
       try clear c13b0
       try clear c13b1
       try clear hcz7_0
       try clear hcz7_1
       try clear hfz7_0
       try clear hfz7_1
       try clear p2
       obtain ⟨kq,x41_10,rfl,HA,HJ10,BK607,HB⟩:=hcut
       cases kq with
       | zero => exact absurd HA.out (by simp [windlassref2_Event.j1])
       | succ kj10 =>
        have H:=HA.out
        clear HA
        simp only [windlassref2_Event.j1] at H
        by_cases c14 : x41_10 = true
        ·subst c14
         have H1 : (some ((⟨#[]⟩ : ByteArray),([] : List (S24)),0,20)) = some (r1,r2,r3,r4):=by rw [if_pos rfl] at H;exact H
         clear H
         have H:=H1
         clear H1
         simp only [Option.some.injEq,Prod.mk.injEq] at H
         obtain ⟨rfl,rfl,rfl,rfl⟩:=H
         have hcz15_0 : wc.cell? ⟨gb607,0,none⟩ = some (.string (⟨#[]⟩ : ByteArray)):=(blk_cell BK607.out 0).trans rfl
         have hcz15_1 : wc.cell? ⟨gb607,1,none⟩ = some (.slice none 0 0):=(blk_cell BK607.out 1).trans rfl
         have hfz15_0:=blk_frozen BK607.out 0
         have hfz15_1:=blk_frozen BK607.out 1
         go_wp2
         refine bodyPost_ret (results_ctt rfl _ _ gb607 26 #[.string (⟨#[]⟩ : ByteArray), .slice none 0 0] (0,0) _ rfl (by (with_reducible repeat (first|refine blk_drewN ?_ _|refine blk_drew ?_|refine blk_alloc ?_ _));refine blk_put (cs:=#[.string (⟨#[]⟩ : ByteArray), .slice none 0 0]) ?_ 1 _ rfl;(with_reducible repeat (first|refine blk_drewN ?_ _|refine blk_drew ?_|refine blk_alloc ?_ _));refine blk_put (cs:=#[.string (⟨#[]⟩ : ByteArray), .slice none 0 0]) ?_ 0 _ rfl;(with_reducible repeat (first|refine blk_drewN ?_ _|refine blk_drew ?_|refine blk_alloc ?_ _));exact BK607.out) Try.underlying26 rfl (by kernel_rfl)) rfl ?_
         exact ⟨_,by first|rfl|(simp [errW_none,errW_some] <;> rfl)|(simp [*,errW_none,errW_some] <;> rfl),by first|exact Kd.R_nil _ _ _ _ _|exact Kd.N_nil _ _ _ _ _|exact Kd.V_nil _ _ _ _ _|exact Kd.Q_nil _ _ _ _ _|exact Kd.S_nil _ _ _ _ _,by repeat (first|(with_reducible first|exact HB.out|apply below_alloc|apply pw_below_drewN|apply below_drew1|refine below_set ?_ GE607.out)|exact HB.out)⟩
        ·replace c14:=Bool.eq_false_iff.mpr c14
         subst c14
         have H1 : (windlassref2_Event.l0 kj10 l0 (wrap64 (t609 + t613)) t612 0 t608 ([] : List (S24))) = some (r1,r2,r3,r4):=by rw [if_neg (show ¬ (false = true) by decide)] at H;exact H
         clear H
         have H:=H1
         clear H1
         have H':=Aside0.mk H
         clear H
         go_wp2_with (first|((with_reducible refine gate_dst (N:=10) rfl ?_);refine box_event ?hg (N:=10) ?hd (cs:=#[.string (⟨#[]⟩ : ByteArray), .slice none 0 0]) (t:=26) ?hr ?_;(case hd => rfl);(case hg => rfl);(case hr => first|(go_simp;done)|(go_simp;rfl));intro gb615 hg w16 hbox hb;have n0_:=Aside0.mk (blk_below (g:=gb607) (o := .cells #[.string (⟨#[]⟩ : ByteArray), .slice none 0 0] 26 (0,0)) (by (with_reducible repeat (first|refine blk_drewN ?_ _|refine blk_drew ?_|refine blk_alloc ?_ _));exact BK607.out) hb);have n1_:=Aside0.mk (below_step (by repeat (first|(with_reducible first|exact HB.out|apply below_alloc|apply pw_below_drewN|apply below_drew1|refine below_set ?_ GE607.out)|exact HB.out)) hb);have n2_:=Aside0.mk (hbox);have n3_:=Aside0.mk ((by rw [hg];exact (below_size (by repeat (first|(with_reducible first|exact HB.out|apply below_alloc|apply pw_below_drewN|apply below_drew1|refine below_set ?_ GE607.out)|exact HB.out))) : w.heap.size ≤ gb615));have n4_:=Aside0.mk ((by rw [hg];exact (below_size (by repeat (first|(with_reducible first|exact HB.out|apply below_alloc|apply pw_below_drewN|apply below_drew1|refine below_set ?_ GE607.out)|exact HB.out))) : w.heap.size ≤ gb615));have n5_:=Aside0.mk ((by rw [hg];exact Nat.ne_of_lt (blk_lt (g:=gb607) (o := .cells #[.string (⟨#[]⟩ : ByteArray), .slice none 0 0] 26 (0,0)) (by (with_reducible repeat (first|refine blk_drewN ?_ _|refine blk_drew ?_|refine blk_alloc ?_ _));exact BK607.out)) : gb607 ≠ gb615));have n6_:=Aside0.mk ((by rw [hg];exact Nat.ne_of_gt (blk_lt (g:=gb607) (o := .cells #[.string (⟨#[]⟩ : ByteArray), .slice none 0 0] 26 (0,0)) (by (with_reducible repeat (first|refine blk_drewN ?_ _|refine blk_drew ?_|refine blk_alloc ?_ _));exact BK607.out)) : gb615 ≠ gb607));clear BK607;clear HB;have BK607:=n0_;have HB:=n1_;have BK615:=n2_;have GW615:=n3_;have GE615:=n4_;have NB607_615:=n5_;have NB615_607:=n6_;clear n0_ n1_ n2_ n3_ n4_ n5_ n6_;clear hb hbox hg;have hnb17:=NB615_607.out;have hnc17:=NB607_615.out;have hcz18_0 : w16.cell? ⟨gb615,0,none⟩ = some (.string (⟨#[]⟩ : ByteArray)):=(blk_cell BK615.out 0).trans rfl;have hcz18_1 : w16.cell? ⟨gb615,1,none⟩ = some (.slice none 0 0):=(blk_cell BK615.out 1).trans rfl;have hfz18_0:=blk_frozen BK615.out 0;have hfz18_1:=blk_frozen BK615.out 1))
         go_loopg [6,11] kj10 (fun kq v6 v11 w' => ∃ (x6_3 : Int) (x11_3 : Int) (x608000_3 : ByteArray) (x616001_3 : List (S24)) (u616001 : Value),v6 = .int .i64 x6_3 ∧ v11 = .int .u64 x11_3 ∧ Aside0 (windlassref2_Event.l0 kq l0 x6_3 t612 x11_3 t608 x616001_3 = some (r1,r2,r3,r4)) ∧ Aside0 (kq ≤ kj10) ∧ Aside0 (Kd.R k24 24 w' w.heap.size (fun _ => True) u616001 x616001_3) ∧ Aside0 (w'.heap[gb607]? = some (.cells #[.string x608000_3,(.slice none 0 0)] 26 (0,0))) ∧ Aside0 (w'.heap[gb615]? = some (.cells #[.string t608,u616001] 26 (0,0))) ∧ Aside0 (Below w.heap.size w w'))
         case atStart => exact ⟨(wrap64 (t609 + t613)),(0),((⟨#[]⟩ : ByteArray)),(([] : List (S24))),(.slice none 0 0),(by first|rfl|(simp;done)|(simp [*];done)),(by first|rfl|(simp;done)|(simp [*];done)),H',⟨Nat.le_refl _⟩,⟨by first|exact Kd.R_nil _ _ _ _ _|exact Kd.N_nil _ _ _ _ _|exact Kd.V_nil _ _ _ _ _|exact Kd.Q_nil _ _ _ _ _|exact Kd.S_nil _ _ _ _ _⟩,⟨by (with_reducible repeat (first|refine blk_drewN ?_ _|refine blk_drew ?_|refine blk_alloc ?_ _));refine blk_far ?_ NB607_615.out _;(with_reducible repeat (first|refine blk_drewN ?_ _|refine blk_drew ?_|refine blk_alloc ?_ _));refine blk_far ?_ NB607_615.out _;(with_reducible repeat (first|refine blk_drewN ?_ _|refine blk_drew ?_|refine blk_alloc ?_ _));exact BK607.out⟩,⟨by (with_reducible repeat (first|refine blk_drewN ?_ _|refine blk_drew ?_|refine blk_alloc ?_ _));refine blk_put (cs:=#[.string t608, .slice none 0 0]) ?_ 1 _ rfl;(with_reducible repeat (first|refine blk_drewN ?_ _|refine blk_drew ?_|refine blk_alloc ?_ _));refine blk_put (cs:=#[.string (⟨#[]⟩ : ByteArray), .slice none 0 0]) ?_ 0 _ rfl;(with_reducible repeat (first|refine blk_drewN ?_ _|refine blk_drew ?_|refine blk_alloc ?_ _));exact BK615.out⟩,⟨by repeat (first|(with_reducible first|exact HB.out|apply below_alloc|apply pw_below_drewN|apply below_drew1|refine below_set ?_ GE607.out|refine below_set ?_ GE615.out)|exact HB.out)⟩⟩
         case round =>
          clear H'
          try clear c1
          try clear c2
          try clear p2
          try clear c3
          try clear c4
          try clear c5
          try clear c5b0
          try clear c5b1
          try clear c6
          try clear p6
          try clear c8
          try clear c8b0
          try clear c8b1
          try clear c9
          try clear c9b0
          try clear c9b1
          try clear c13
          try clear c13b0
          try clear c13b1
          try clear c14
          try clear c17
          try clear hcz15_0
          try clear hcz15_1
          try clear hcz18_0
          try clear hcz18_1
          try clear hcz7_0
          try clear hcz7_1
          try clear hfz15_0
          try clear hfz15_1
          try clear hfz18_0
          try clear hfz18_1
          try clear hfz7_0
          try clear hfz7_1
          try clear p2
          obtain ⟨x6_3,x11_3,x608000_3,x616001_3,u616001,rfl,rfl,HA,HK3,HO_616001,BK607,BK615,HB⟩:=hrel
          cases gk with
          | zero => exact absurd HA.out (by simp [windlassref2_Event.l0])
          | succ k3 =>
           have H:=HA.out
           clear HA
           simp only [windlassref2_Event.l0] at H
           by_cases c19 : x11_3 < t612
           ·rw [if_pos c19] at H
            have c19b0 : decide (x11_3 < t612) = true:=decide_eq_true c19
            clear c19
            by_cases c20 : 0 ≤ x6_3
            ·rw [if_pos c20] at H
             have c20b0:=eq_true c20
             have c20b1 : decide (0 ≤ x6_3) = true:=decide_eq_true c20
             clear c20
             by_cases c21 : x6_3 ≤ (l0.length : Int)
             ·rw [if_pos c21] at H
              have c21b0:=eq_true c21
              have c21b1 : decide (x6_3 ≤ (l0.length : Int)) = true:=decide_eq_true c21
              clear c21
              replace H:=Option.bind_eq_some_iff.mp H
              obtain ⟨⟨t617,t618,t619,t620,t621,t624,t625⟩,A220,H⟩:=H
              replace H : (if t625 = 0 then (if x616001_3.length < 2199023255552 then (windlassref2_Event.l0 k3 l0 (wrap64 (x6_3 + t624)) t612 (IntKind.u64.wrap (x11_3 + 1)) t608 (x616001_3 ++ [(⟨t617,t618,t619,t620,t621⟩ : S24)])) else (none)) else (some ((⟨#[]⟩ : ByteArray),([] : List (S24)),0,20))) = some (r1,r2,r3,r4):=H
              have A22:=Aside0.mk A220
              clear A220
              by_cases c23 : t625 = 0
              ·rw [if_pos c23] at H
               have c23b0 : (t625 == 0) = true:=beq_iff_eq.mpr c23
               have c23b1 : (t625 != 0) = false:=bne_eq_false_iff_eq.mpr c23
               clear c23
               by_cases c24 : x616001_3.length < 2199023255552
               ·rw [if_pos c24] at H
                have LMc24:=Aside0.mk c24
                clear c24
                obtain ⟨y627,hy627⟩ : ∃ y_ : List (S24),y_ = (x616001_3 ++ [(⟨t617,t618,t619,t620,t621⟩ : S24)]):=⟨_,rfl⟩
                replace H : (windlassref2_Event.l0 k3 l0 (wrap64 (x6_3 + t624)) t612 (IntKind.u64.wrap (x11_3 + 1)) t608 y627) = some (r1,r2,r3,r4):=by first|(rw [hy627];with_reducible exact H)|(have H2_:=(Option.bind_some _ _).symm.trans H;rw [hy627];with_reducible exact H2_)|(have H2_:=(Option.bind_some _ _).symm.trans H;with_reducible exact H2_)|with_reducible exact H|(rw [hy627];exact H)|exact H
                have Ny627:=Aside0.mk hy627
                clear hy627
                have H':=Aside0.mk H
                clear H
                obtain ⟨i025,hi025,_,hsz25,_⟩:=info_parts info5
                obtain ⟨A25,hcut25,hA25,hC25⟩:=print_drop_of (P:=Try.prog) (Value.int .u8) 0 30 5 .i64 Try.underlying30 hi025 hsz25 A0 c0 l0 x6_3 (of_decide_eq_true (by first|(with_reducible assumption)|assumption)) (of_decide_eq_true (by first|(with_reducible assumption)|assumption)) HC0.out
                have HR616:=Aside0.mk (Kd.C_of_reads (h1:=fun _ => rfl) (hA25 _ (Kd.reads_of_C HR0.out)))
                have HC616:=Aside0.mk hC25
                clear hA25 hC25 hi025 hsz25
                go_wp2_with (first|((with_reducible refine gate_callee (f:=30) rfl ?_);refine goesL_ (some 57) rfl rfl Try.func30 (by kernel_rfl) rfl #[.slice A25 (l0.drop (x6_3 : Int).toNat).length (c0 - x6_3.toNat)] rfl (by (try simp only [List.map_toArray,List.map_cons,List.map_nil]);first|done|(rw [show (l0.drop (x6_3 : Int).toNat).length = (l0.length - x6_3.toNat) from List.length_drop] <;> rfl)|rfl|(simp only [List.length_drop,List.length_take];rfl)|(go_simp;done)|(go_simp;simp;done)) ?_;(with_reducible refine (windlassref2_Value.calls k3 _ _ (l0.drop (x6_3 : Int).toNat) t617 t618 t619 t620 t621 t624 t625 _ ?side1 ?side2 A22.out).mono ?_);(case side1 => repeat (first|exact (Kd.C_below HR616.out HB.out)|(with_reducible refine Kd.C_alloc ?_ _)|(with_reducible refine Kd.C_drewN ?_ _)|(with_reducible refine Kd.C_drew ?_)));(case side2 => exact HC616.out);rintro e w26 ⟨v622,rfl,ho0,hb⟩;refine ⟨_,rfl,?_⟩;have n0_:=Aside0.mk (Kd.R_elder' (by (with_reducible repeat (first|apply Kd.R_alloc|apply Kd.R_drewN|apply Kd.R_drew));exact HO_616001.out) (Kd.R_base ho0) hb);have n1_:=Aside0.mk (Kd.R_lower (Kd.R_new' ho0 (Kd.R_lt (by (with_reducible repeat (first|apply Kd.R_alloc|apply Kd.R_drewN|apply Kd.R_drew));exact HO_616001.out))) (below_size (by repeat (first|(with_reducible first|exact HB.out|apply below_alloc|apply pw_below_drewN|apply below_drew1|refine below_set ?_ GE607.out|refine below_set ?_ GE615.out)|exact HB.out))));have n2_:=Aside0.mk (blk_below (g:=gb607) (o := .cells #[.string x608000_3, .slice none 0 0] 26 (0,0)) (by (with_reducible repeat (first|refine blk_drewN ?_ _|refine blk_drew ?_|refine blk_alloc ?_ _));exact BK607.out) hb);have n3_:=Aside0.mk (blk_below (g:=gb615) (o := .cells #[.string t608,u616001] 26 (0,0)) (by (with_reducible repeat (first|refine blk_drewN ?_ _|refine blk_drew ?_|refine blk_alloc ?_ _));exact BK615.out) hb);have n4_:=Aside0.mk (below_step (by repeat (first|(with_reducible first|exact HB.out|apply below_alloc|apply pw_below_drewN|apply below_drew1|refine below_set ?_ GE607.out|refine below_set ?_ GE615.out)|exact HB.out)) hb);clear HO_616001;clear BK607;clear BK615;clear HB;have HO_616001:=n0_;have HO623:=n1_;have BK607:=n2_;have BK615:=n3_;have HB:=n4_;clear n0_ n1_ n2_ n3_ n4_;(try clear hb);(try clear hb2);(try clear hk);(try clear hi);(try clear ho0))|((with_reducible refine gate_dst (N:=12) rfl ?_);refine box_event ?hg (N:=12) ?hd (cs:=#[.int .i64 0, .int .i64 0, .string (⟨#[]⟩ : ByteArray), .int .i64 0, .slice none 0 0]) (t:=24) ?hr ?_;(case hd => rfl);(case hg => rfl);(case hr => first|(go_simp;done)|(go_simp;rfl));intro gb626 hg w27 hbox hb;have n0_:=Aside0.mk (Kd.R_below (Kd.R_elderB (by (with_reducible repeat (first|apply Kd.R_alloc|apply Kd.R_drewN|apply Kd.R_drew));exact HO_616001.out) gb626 (Nat.le_of_eq hg.symm)) hb);have n1_:=Aside0.mk (Kd.R_below (Kd.R_elderB (by (with_reducible repeat (first|apply Kd.R_alloc|apply Kd.R_drewN|apply Kd.R_drew));exact HO623.out) gb626 (Nat.le_of_eq hg.symm)) hb);have n2_:=Aside0.mk (blk_below (g:=gb607) (o := .cells #[.string x608000_3, .slice none 0 0] 26 (0,0)) (by (with_reducible repeat (first|refine blk_drewN ?_ _|refine blk_drew ?_|refine blk_alloc ?_ _));exact BK607.out) hb);have n3_:=Aside0.mk (blk_below (g:=gb615) (o := .cells #[.string t608,u616001] 26 (0,0)) (by (with_reducible repeat (first|refine blk_drewN ?_ _|refine blk_drew ?_|refine blk_alloc ?_ _));exact BK615.out) hb);have n4_:=Aside0.mk (below_step (by repeat (first|(with_reducible first|exact HB.out|apply below_alloc|apply pw_below_drewN|apply below_drew1|refine below_set ?_ GE607.out|refine below_set ?_ GE615.out)|exact HB.out)) hb);have n5_:=Aside0.mk (hbox);have n6_:=Aside0.mk ((by rw [hg];exact (below_size (by repeat (first|(with_reducible first|exact HB.out|apply below_alloc|apply pw_below_drewN|apply below_drew1|refine below_set ?_ GE607.out|refine below_set ?_ GE615.out)|exact HB.out))) : w.heap.size ≤ gb626));have n7_:=Aside0.mk ((by rw [hg];exact (below_size (by repeat (first|(with_reducible first|exact HB.out|apply below_alloc|apply pw_below_drewN|apply below_drew1|refine below_set ?_ GE607.out|refine below_set ?_ GE615.out)|exact HB.out))) : w.heap.size ≤ gb626));have n8_:=Aside0.mk ((by rw [hg];exact Nat.ne_of_lt (blk_lt (g:=gb607) (o := .cells #[.string x608000_3, .slice none 0 0] 26 (0,0)) (by (with_reducible repeat (first|refine blk_drewN ?_ _|refine blk_drew ?_|refine blk_alloc ?_ _));exact BK607.out)) : gb607 ≠ gb626));have n9_:=Aside0.mk ((by rw [hg];exact Nat.ne_of_gt (blk_lt (g:=gb607) (o := .cells #[.string x608000_3, .slice none 0 0] 26 (0,0)) (by (with_reducible repeat (first|refine blk_drewN ?_ _|refine blk_drew ?_|refine blk_alloc ?_ _));exact BK607.out)) : gb626 ≠ gb607));have n10_:=Aside0.mk ((by rw [hg];exact Nat.ne_of_lt (blk_lt (g:=gb615) (o := .cells #[.string t608,u616001] 26 (0,0)) (by (with_reducible repeat (first|refine blk_drewN ?_ _|refine blk_drew ?_|refine blk_alloc ?_ _));exact BK615.out)) : gb615 ≠ gb626));have n11_:=Aside0.mk ((by rw [hg];exact Nat.ne_of_gt (blk_lt (g:=gb615) (o := .cells #[.string t608,u616001] 26 (0,0)) (by (with_reducible repeat (first|refine blk_drewN ?_ _|refine blk_drew ?_|refine blk_alloc ?_ _));exact BK615.out)) : gb626 ≠ gb615));clear HO_616001;clear HO623;clear BK607;clear BK615;clear HB;have HO_616001:=n0_;have HO623:=n1_;have BK607:=n2_;have BK615:=n3_;have HB:=n4_;have BK626:=n5_;have GW626:=n6_;have GE626:=n7_;have NB607_626:=n8_;have NB626_607:=n9_;have NB615_626:=n10_;have NB626_615:=n11_;clear n0_ n1_ n2_ n3_ n4_ n5_ n6_ n7_ n8_ n9_ n10_ n11_;clear hb hbox hg;have hnb28:=NB626_607.out;have hnc28:=NB607_626.out;have hnb29:=NB626_615.out;have hnc29:=NB615_626.out;have hcz30_0 : w27.cell? ⟨gb626,0,none⟩ = some (.int .i64 0):=(blk_cell BK626.out 0).trans rfl;have hcz30_1 : w27.cell? ⟨gb626,1,none⟩ = some (.int .i64 0):=(blk_cell BK626.out 1).trans rfl;have hcz30_2 : w27.cell? ⟨gb626,2,none⟩ = some (.string (⟨#[]⟩ : ByteArray)):=(blk_cell BK626.out 2).trans rfl;have hcz30_3 : w27.cell? ⟨gb626,3,none⟩ = some (.int .i64 0):=(blk_cell BK626.out 3).trans rfl;have hcz30_4 : w27.cell? ⟨gb626,4,none⟩ = some (.slice none 0 0):=(blk_cell BK626.out 4).trans rfl;have hfz30_0:=blk_frozen BK626.out 0;have hfz30_1:=blk_frozen BK626.out 1;have hfz30_2:=blk_frozen BK626.out 2;have hfz30_3:=blk_frozen BK626.out 3;have hfz30_4:=blk_frozen BK626.out 4;obtain ⟨Ao31,co31,eo31⟩:=Kd.R_slice HO623.out;subst eo31)|((with_reducible refine gate_store (t:=24) (p:=12) rfl ?_);refine store_event (t:=24) (p:=12) (v:=?vo_w32) (w1:=(((((w27.setCell ⟨gb626,0,none⟩ (.int .i64 t617)).setCell ⟨gb626,1,none⟩ (.int .i64 t618)).setCell ⟨gb626,2,none⟩ (.string t619)).setCell ⟨gb626,3,none⟩ (.int .i64 t620)).setCell ⟨gb626,4,none⟩ (.slice Ao31 t621.length co31))) ?hg ?ho ?hn ?hr ?_;(case ho => rfl);(case hg => rfl);(case hn => rfl);(case hr => first|(go_simp;done)|(go_simp;rfl));intro w32 hw;have n0_ : Aside0 (Kd.R k24 24 w32 w.heap.size (fun k_ => some k_ ≠ (.slice Ao31 t621.length co31 : Value).ownBlock ∧ k_ ≠ gb626) u616001 x616001_3):=⟨(by rw [hw];exact (by (with_reducible repeat (first|apply Kd.R_alloc|apply Kd.R_drewN|apply Kd.R_drew));exact Kd.R_mono (Kd.R_far (p:=⟨gb626,4,none⟩) (Kd.R_far (p:=⟨gb626,3,none⟩) (Kd.R_far (p:=⟨gb626,2,none⟩) (Kd.R_far (p:=⟨gb626,1,none⟩) (Kd.R_far (p:=⟨gb626,0,none⟩) (Kd.R_mono HO_616001.out (fun k_ hk => (⟨hk,hk.2⟩ : _ ∧ k_ ≠ gb626))) (fun _ hk => hk.2) (.int .i64 t617)) (fun _ hk => hk.2) (.int .i64 t618)) (fun _ hk => hk.2) (.string t619)) (fun _ hk => hk.2) (.int .i64 t620)) (fun _ hk => hk.2) (.slice Ao31 t621.length co31)) (fun _ hk => ⟨hk.1.1.2,hk.1.2⟩)))⟩;have n1_ : Aside0 (Kd.R k24 24 w32 w.heap.size (fun k_ => some k_ ≠ (u616001 : Value).ownBlock ∧ k_ ≠ gb626) (.slice Ao31 t621.length co31) t621):=⟨(by rw [hw];exact (by (with_reducible repeat (first|apply Kd.R_alloc|apply Kd.R_drewN|apply Kd.R_drew));exact Kd.R_mono (Kd.R_far (p:=⟨gb626,4,none⟩) (Kd.R_far (p:=⟨gb626,3,none⟩) (Kd.R_far (p:=⟨gb626,2,none⟩) (Kd.R_far (p:=⟨gb626,1,none⟩) (Kd.R_far (p:=⟨gb626,0,none⟩) (Kd.R_mono HO623.out (fun k_ hk => (⟨hk,hk.2⟩ : _ ∧ k_ ≠ gb626))) (fun _ hk => hk.2) (.int .i64 t617)) (fun _ hk => hk.2) (.int .i64 t618)) (fun _ hk => hk.2) (.string t619)) (fun _ hk => hk.2) (.int .i64 t620)) (fun _ hk => hk.2) (.slice Ao31 t621.length co31)) (fun _ hk => ⟨hk.1.1.2,hk.1.2⟩)))⟩;have n2_ : Aside0 (w32.heap[gb607]? = some (.cells #[.string x608000_3, .slice none 0 0] 26 (0,0))):=⟨(by rw [hw];exact (by (with_reducible repeat (first|refine blk_drewN ?_ _|refine blk_drew ?_|refine blk_alloc ?_ _));refine blk_far ?_ NB607_626.out _;(with_reducible repeat (first|refine blk_drewN ?_ _|refine blk_drew ?_|refine blk_alloc ?_ _));refine blk_far ?_ NB607_626.out _;(with_reducible repeat (first|refine blk_drewN ?_ _|refine blk_drew ?_|refine blk_alloc ?_ _));refine blk_far ?_ NB607_626.out _;(with_reducible repeat (first|refine blk_drewN ?_ _|refine blk_drew ?_|refine blk_alloc ?_ _));refine blk_far ?_ NB607_626.out _;(with_reducible repeat (first|refine blk_drewN ?_ _|refine blk_drew ?_|refine blk_alloc ?_ _));refine blk_far ?_ NB607_626.out _;(with_reducible repeat (first|refine blk_drewN ?_ _|refine blk_drew ?_|refine blk_alloc ?_ _));exact BK607.out))⟩;have n3_ : Aside0 (w32.heap[gb615]? = some (.cells #[.string t608,u616001] 26 (0,0))):=⟨(by rw [hw];exact (by (with_reducible repeat (first|refine blk_drewN ?_ _|refine blk_drew ?_|refine blk_alloc ?_ _));refine blk_far ?_ NB615_626.out _;(with_reducible repeat (first|refine blk_drewN ?_ _|refine blk_drew ?_|refine blk_alloc ?_ _));refine blk_far ?_ NB615_626.out _;(with_reducible repeat (first|refine blk_drewN ?_ _|refine blk_drew ?_|refine blk_alloc ?_ _));refine blk_far ?_ NB615_626.out _;(with_reducible repeat (first|refine blk_drewN ?_ _|refine blk_drew ?_|refine blk_alloc ?_ _));refine blk_far ?_ NB615_626.out _;(with_reducible repeat (first|refine blk_drewN ?_ _|refine blk_drew ?_|refine blk_alloc ?_ _));refine blk_far ?_ NB615_626.out _;(with_reducible repeat (first|refine blk_drewN ?_ _|refine blk_drew ?_|refine blk_alloc ?_ _));exact BK615.out))⟩;have n4_ : Aside0 (w32.heap[gb626]? = some (.cells #[.int .i64 t617, .int .i64 t618, .string t619, .int .i64 t620, .slice Ao31 t621.length co31] 24 (0,0))):=⟨(by rw [hw];exact (by (with_reducible repeat (first|refine blk_drewN ?_ _|refine blk_drew ?_|refine blk_alloc ?_ _));refine blk_put (cs:=#[.int .i64 t617, .int .i64 t618, .string t619, .int .i64 t620, .slice none 0 0]) ?_ 4 _ rfl;(with_reducible repeat (first|refine blk_drewN ?_ _|refine blk_drew ?_|refine blk_alloc ?_ _));refine blk_put (cs:=#[.int .i64 t617, .int .i64 t618, .string t619, .int .i64 0, .slice none 0 0]) ?_ 3 _ rfl;(with_reducible repeat (first|refine blk_drewN ?_ _|refine blk_drew ?_|refine blk_alloc ?_ _));refine blk_put (cs:=#[.int .i64 t617, .int .i64 t618, .string (⟨#[]⟩ : ByteArray), .int .i64 0, .slice none 0 0]) ?_ 2 _ rfl;(with_reducible repeat (first|refine blk_drewN ?_ _|refine blk_drew ?_|refine blk_alloc ?_ _));refine blk_put (cs:=#[.int .i64 t617, .int .i64 0, .string (⟨#[]⟩ : ByteArray), .int .i64 0, .slice none 0 0]) ?_ 1 _ rfl;(with_reducible repeat (first|refine blk_drewN ?_ _|refine blk_drew ?_|refine blk_alloc ?_ _));refine blk_put (cs:=#[.int .i64 0, .int .i64 0, .string (⟨#[]⟩ : ByteArray), .int .i64 0, .slice none 0 0]) ?_ 0 _ rfl;(with_reducible repeat (first|refine blk_drewN ?_ _|refine blk_drew ?_|refine blk_alloc ?_ _));exact BK626.out))⟩;have n5_ : Aside0 (Below w.heap.size w w32):=⟨(by rw [hw];exact (by repeat (first|(with_reducible first|exact HB.out|apply below_alloc|apply pw_below_drewN|apply below_drew1|refine below_set ?_ GE607.out|refine below_set ?_ GE615.out|refine below_set ?_ GE626.out)|exact HB.out)))⟩;clear hw;clear HO_616001;clear HO623;clear BK607;clear BK615;clear BK626;clear HB;have HO_616001:=n0_;have HO623:=n1_;have BK607:=n2_;have BK615:=n3_;have BK626:=n4_;have HB:=n5_;clear n0_ n1_ n2_ n3_ n4_ n5_;have hnb33:=NB615_607.out;have hnc33:=NB607_615.out;have hcz34_0 : w32.cell? ⟨gb615,0,none⟩ = some (.string t608):=(blk_cell BK615.out 0).trans rfl;have hcz34_1 : w32.cell? ⟨gb615,1,none⟩ = some (u616001):=(blk_cell BK615.out 1).trans rfl;have hfz34_0:=blk_frozen BK615.out 0;have hfz34_1:=blk_frozen BK615.out 1;have hcz35_0 : w32.cell? ⟨gb626,0,none⟩ = some (.int .i64 t617):=(blk_cell BK626.out 0).trans rfl;have hcz35_1 : w32.cell? ⟨gb626,1,none⟩ = some (.int .i64 t618):=(blk_cell BK626.out 1).trans rfl;have hcz35_2 : w32.cell? ⟨gb626,2,none⟩ = some (.string t619):=(blk_cell BK626.out 2).trans rfl;have hcz35_3 : w32.cell? ⟨gb626,3,none⟩ = some (.int .i64 t620):=(blk_cell BK626.out 3).trans rfl;have hcz35_4 : w32.cell? ⟨gb626,4,none⟩ = some (.slice Ao31 t621.length co31):=(blk_cell BK626.out 4).trans rfl;have hfz35_0:=blk_frozen BK626.out 0;have hfz35_1:=blk_frozen BK626.out 1;have hfz35_2:=blk_frozen BK626.out 2;have hfz35_3:=blk_frozen BK626.out 3;have hfz35_4:=blk_frozen BK626.out 4)|((with_reducible refine gate_builtin (b := .append) (xs:=#[.tmp 65, .tmp 67]) rfl ?_);at_builtin;refine Kd.R_append k24 (w0:=w) w.heap.size rfl (.tmp 65) (.tmp 67) 22 24 (.agg #[(.int .i64 0),(.int .i64 0),(.string ⟨#[]⟩),(.int .i64 0),(.slice none 0 0)]) 64 rfl Try.underlying22 info24 rfl (by decide) (by omega) u616001 x616001_3 (⟨t617,t618,t619,t620,t621⟩ : S24) [.int .i64 t617, .int .i64 t618, .string t619, .int .i64 t620, .slice Ao31 t621.length co31] (fun k_ => k_ ≠ gb626) (fun k_ => ((fun k_ => k_ ≠ gb626)) k_ ∧ some k_ ≠ (u616001 : Value).ownBlock) rfl rfl ?aP (fun _ hk => hk) ?aF ?aO ?aB ?aS ?aL ?_;(case aP => exact k24_mkM _ _ _ (⟨t617,t618,t619,t620,t621⟩ : S24) (Kd.R_mono (HO623.out) (fun k_ hk => ⟨hk.2,hk.1⟩)));(case aB => exact (by repeat (first|(with_reducible first|exact HB.out|apply below_alloc|apply pw_below_drewN|apply below_drew1|refine below_set ?_ GE607.out|refine below_set ?_ GE615.out|refine below_set ?_ GE626.out)|exact HB.out)));(case aF => exact (fun k_ hk => Kd.freshB (g:=gb626) (o := .cells #[.int .i64 t617, .int .i64 t618, .string t619, .int .i64 t620, .slice Ao31 t621.length co31] 24 (0,0)) (by (with_reducible repeat (first|refine blk_drewN ?_ _|refine blk_drew ?_|refine blk_alloc ?_ _));exact BK626.out) k_ hk));(case aO => exact (by (with_reducible repeat (first|apply Kd.R_alloc|apply Kd.R_drewN|apply Kd.R_drew));exact Kd.R_mono HO_616001.out (fun _ hk => hk.2)));(case aS => exact (below_size (by repeat (first|(with_reducible first|exact HB.out|apply below_alloc|apply pw_below_drewN|apply below_drew1|refine below_set ?_ GE607.out|refine below_set ?_ GE615.out|refine below_set ?_ GE626.out)|exact HB.out))));(case aL => have:=LMc24.out;omega);intro v628 w36 ho hb hg hat;rw [← Ny627.out] at ho;have n0_:=Aside0.mk (blk_grown (g:=gb607) (o := .cells #[.string x608000_3, .slice none 0 0] 26 (0,0)) (by (with_reducible repeat (first|refine blk_drewN ?_ _|refine blk_drew ?_|refine blk_alloc ?_ _));exact BK607.out) hg (Kd.R_ne HO_616001.out BK607.out (by decide)));have n1_:=Aside0.mk (blk_grown (g:=gb615) (o := .cells #[.string t608,u616001] 26 (0,0)) (by (with_reducible repeat (first|refine blk_drewN ?_ _|refine blk_drew ?_|refine blk_alloc ?_ _));exact BK615.out) hg (Kd.R_ne HO_616001.out BK615.out (by decide)));have n2_:=Aside0.mk (blk_grown (g:=gb626) (o := .cells #[.int .i64 t617, .int .i64 t618, .string t619, .int .i64 t620, .slice Ao31 t621.length co31] 24 (0,0)) (by (with_reducible repeat (first|refine blk_drewN ?_ _|refine blk_drew ?_|refine blk_alloc ?_ _));exact BK626.out) hg (Kd.R_away HO_616001.out (fun _ hk => hk.2)));have n3_:=Aside0.mk (hb);have n4_:=Aside0.mk (ho);clear BK607;clear BK615;clear BK626;clear HB;clear HO_616001;clear HO623;have BK607:=n0_;have BK615:=n1_;have BK626:=n2_;have HB:=n3_;have HO629:=n4_;clear n0_ n1_ n2_ n3_ n4_;clear ho hb hg hat;obtain ⟨Ao37,co37,eo37⟩:=Kd.R_slice HO629.out;subst eo37;have hcz38_0 : w36.cell? ⟨gb615,0,none⟩ = some (.string t608):=(blk_cell BK615.out 0).trans rfl;have hcz38_1 : w36.cell? ⟨gb615,1,none⟩ = some (u616001):=(blk_cell BK615.out 1).trans rfl;have hfz38_0:=blk_frozen BK615.out 0;have hfz38_1:=blk_frozen BK615.out 1))
                go_roundg k3
                case measure => have:=HJ2.out;have:=HJ10.out;have:=HK3.out;omega
                case rel => exact ⟨(wrap64 (x6_3 + t624)),(IntKind.u64.wrap (x11_3 + 1)),(x608000_3),(y627),(.slice Ao37 y627.length co37),(by first|rfl|(simp;done)|(simp [*];done)),(by first|rfl|(simp;done)|(simp [*];done)),H',⟨by have:=HJ2.out;have:=HJ10.out;have:=HK3.out;omega⟩,⟨by (with_reducible repeat (first|apply Kd.R_alloc|apply Kd.R_drewN|apply Kd.R_drew));exact Kd.R_mono (Kd.R_far (p:=⟨gb615,1,none⟩) (Kd.R_types HO629.out BK615.out (by decide)) (fun _ hk => hk.2) (.slice Ao37 y627.length co37)) (fun _ hk => trivial)⟩,⟨by (with_reducible repeat (first|refine blk_drewN ?_ _|refine blk_drew ?_|refine blk_alloc ?_ _));refine blk_far ?_ NB607_615.out _;(with_reducible repeat (first|refine blk_drewN ?_ _|refine blk_drew ?_|refine blk_alloc ?_ _));exact BK607.out⟩,⟨by (with_reducible repeat (first|refine blk_drewN ?_ _|refine blk_drew ?_|refine blk_alloc ?_ _));refine blk_put (cs:=#[.string t608,u616001]) ?_ 1 _ rfl;(with_reducible repeat (first|refine blk_drewN ?_ _|refine blk_drew ?_|refine blk_alloc ?_ _));exact BK615.out⟩,⟨by repeat (first|(with_reducible first|exact HB.out|apply below_alloc|apply pw_below_drewN|apply below_drew1|refine below_set ?_ GE607.out|refine below_set ?_ GE615.out|refine below_set ?_ GE626.out)|exact HB.out)⟩⟩
               ·rw [if_neg c24] at H
                exact absurd H (by simp)
              ·rw [if_neg c23] at H
               have c23b0 : (t625 == 0) = false:=beq_eq_false_iff_ne.mpr c23
               have c23b1 : (t625 != 0) = true:=bne_iff_ne.mpr c23
               simp only [Option.some.injEq,Prod.mk.injEq] at H
               obtain ⟨rfl,rfl,rfl,rfl⟩:=H
               obtain ⟨i039,hi039,_,hsz39,_⟩:=info_parts info5
               obtain ⟨A39,hcut39,hA39,hC39⟩:=print_drop_of (P:=Try.prog) (Value.int .u8) 0 30 5 .i64 Try.underlying30 hi039 hsz39 A0 c0 l0 x6_3 (of_decide_eq_true (by first|(with_reducible assumption)|assumption)) (of_decide_eq_true (by first|(with_reducible assumption)|assumption)) HC0.out
               have HR616:=Aside0.mk (Kd.C_of_reads (h1:=fun _ => rfl) (hA39 _ (Kd.reads_of_C HR0.out)))
               have HC616:=Aside0.mk hC39
               clear hA39 hC39 hi039 hsz39
               go_wp2_with (first|((with_reducible refine gate_callee (f:=30) rfl ?_);refine goesL_ (some 57) rfl rfl Try.func30 (by kernel_rfl) rfl #[.slice A39 (l0.drop (x6_3 : Int).toNat).length (c0 - x6_3.toNat)] rfl (by (try simp only [List.map_toArray,List.map_cons,List.map_nil]);first|done|(rw [show (l0.drop (x6_3 : Int).toNat).length = (l0.length - x6_3.toNat) from List.length_drop] <;> rfl)|rfl|(simp only [List.length_drop,List.length_take];rfl)|(go_simp;done)|(go_simp;simp;done)) ?_;(with_reducible refine (windlassref2_Value.calls k3 _ _ (l0.drop (x6_3 : Int).toNat) t617 t618 t619 t620 t621 t624 t625 _ ?side1 ?side2 A22.out).mono ?_);(case side1 => repeat (first|exact (Kd.C_below HR616.out HB.out)|(with_reducible refine Kd.C_alloc ?_ _)|(with_reducible refine Kd.C_drewN ?_ _)|(with_reducible refine Kd.C_drew ?_)));(case side2 => exact HC616.out);rintro e w40 ⟨v622,rfl,ho0,hb⟩;refine ⟨_,rfl,?_⟩;have n0_:=Aside0.mk (Kd.R_elder' (by (with_reducible repeat (first|apply Kd.R_alloc|apply Kd.R_drewN|apply Kd.R_drew));exact HO_616001.out) (Kd.R_base ho0) hb);have n1_:=Aside0.mk (Kd.R_lower (Kd.R_new' ho0 (Kd.R_lt (by (with_reducible repeat (first|apply Kd.R_alloc|apply Kd.R_drewN|apply Kd.R_drew));exact HO_616001.out))) (below_size (by repeat (first|(with_reducible first|exact HB.out|apply below_alloc|apply pw_below_drewN|apply below_drew1|refine below_set ?_ GE607.out|refine below_set ?_ GE615.out)|exact HB.out))));have n2_:=Aside0.mk (blk_below (g:=gb607) (o := .cells #[.string x608000_3, .slice none 0 0] 26 (0,0)) (by (with_reducible repeat (first|refine blk_drewN ?_ _|refine blk_drew ?_|refine blk_alloc ?_ _));exact BK607.out) hb);have n3_:=Aside0.mk (blk_below (g:=gb615) (o := .cells #[.string t608,u616001] 26 (0,0)) (by (with_reducible repeat (first|refine blk_drewN ?_ _|refine blk_drew ?_|refine blk_alloc ?_ _));exact BK615.out) hb);have n4_:=Aside0.mk (below_step (by repeat (first|(with_reducible first|exact HB.out|apply below_alloc|apply pw_below_drewN|apply below_drew1|refine below_set ?_ GE607.out|refine below_set ?_ GE615.out)|exact HB.out)) hb);clear HO_616001;clear BK607;clear BK615;clear HB;have HO_616001:=n0_;have HO623:=n1_;have BK607:=n2_;have BK615:=n3_;have HB:=n4_;clear n0_ n1_ n2_ n3_ n4_;(try clear hb);(try clear hb2);(try clear hk);(try clear hi);(try clear ho0))|((with_reducible refine gate_dst (N:=12) rfl ?_);refine box_event ?hg (N:=12) ?hd (cs:=#[.int .i64 0, .int .i64 0, .string (⟨#[]⟩ : ByteArray), .int .i64 0, .slice none 0 0]) (t:=24) ?hr ?_;(case hd => rfl);(case hg => rfl);(case hr => first|(go_simp;done)|(go_simp;rfl));intro gb626 hg w41 hbox hb;have n0_:=Aside0.mk (Kd.R_below (Kd.R_elderB (by (with_reducible repeat (first|apply Kd.R_alloc|apply Kd.R_drewN|apply Kd.R_drew));exact HO_616001.out) gb626 (Nat.le_of_eq hg.symm)) hb);have n1_:=Aside0.mk (Kd.R_below (Kd.R_elderB (by (with_reducible repeat (first|apply Kd.R_alloc|apply Kd.R_drewN|apply Kd.R_drew));exact HO623.out) gb626 (Nat.le_of_eq hg.symm)) hb);have n2_:=Aside0.mk (blk_below (g:=gb607) (o := .cells #[.string x608000_3, .slice none 0 0] 26 (0,0)) (by (with_reducible repeat (first|refine blk_drewN ?_ _|refine blk_drew ?_|refine blk_alloc ?_ _));exact BK607.out) hb);have n3_:=Aside0.mk (blk_below (g:=gb615) (o := .cells #[.string t608,u616001] 26 (0,0)) (by (with_reducible repeat (first|refine blk_drewN ?_ _|refine blk_drew ?_|refine blk_alloc ?_ _));exact BK615.out) hb);have n4_:=Aside0.mk (below_step (by repeat (first|(with_reducible first|exact HB.out|apply below_alloc|apply pw_below_drewN|apply below_drew1|refine below_set ?_ GE607.out|refine below_set ?_ GE615.out)|exact HB.out)) hb);have n5_:=Aside0.mk (hbox);have n6_:=Aside0.mk ((by rw [hg];exact (below_size (by repeat (first|(with_reducible first|exact HB.out|apply below_alloc|apply pw_below_drewN|apply below_drew1|refine below_set ?_ GE607.out|refine below_set ?_ GE615.out)|exact HB.out))) : w.heap.size ≤ gb626));have n7_:=Aside0.mk ((by rw [hg];exact (below_size (by repeat (first|(with_reducible first|exact HB.out|apply below_alloc|apply pw_below_drewN|apply below_drew1|refine below_set ?_ GE607.out|refine below_set ?_ GE615.out)|exact HB.out))) : w.heap.size ≤ gb626));have n8_:=Aside0.mk ((by rw [hg];exact Nat.ne_of_lt (blk_lt (g:=gb607) (o := .cells #[.string x608000_3, .slice none 0 0] 26 (0,0)) (by (with_reducible repeat (first|refine blk_drewN ?_ _|refine blk_drew ?_|refine blk_alloc ?_ _));exact BK607.out)) : gb607 ≠ gb626));have n9_:=Aside0.mk ((by rw [hg];exact Nat.ne_of_gt (blk_lt (g:=gb607) (o := .cells #[.string x608000_3, .slice none 0 0] 26 (0,0)) (by (with_reducible repeat (first|refine blk_drewN ?_ _|refine blk_drew ?_|refine blk_alloc ?_ _));exact BK607.out)) : gb626 ≠ gb607));have n10_:=Aside0.mk ((by rw [hg];exact Nat.ne_of_lt (blk_lt (g:=gb615) (o := .cells #[.string t608,u616001] 26 (0,0)) (by (with_reducible repeat (first|refine blk_drewN ?_ _|refine blk_drew ?_|refine blk_alloc ?_ _));exact BK615.out)) : gb615 ≠ gb626));have n11_:=Aside0.mk ((by rw [hg];exact Nat.ne_of_gt (blk_lt (g:=gb615) (o := .cells #[.string t608,u616001] 26 (0,0)) (by (with_reducible repeat (first|refine blk_drewN ?_ _|refine blk_drew ?_|refine blk_alloc ?_ _));exact BK615.out)) : gb626 ≠ gb615));clear HO_616001;clear HO623;clear BK607;clear BK615;clear HB;have HO_616001:=n0_;have HO623:=n1_;have BK607:=n2_;have BK615:=n3_;have HB:=n4_;have BK626:=n5_;have GW626:=n6_;have GE626:=n7_;have NB607_626:=n8_;have NB626_607:=n9_;have NB615_626:=n10_;have NB626_615:=n11_;clear n0_ n1_ n2_ n3_ n4_ n5_ n6_ n7_ n8_ n9_ n10_ n11_;clear hb hbox hg;have hnb42:=NB626_607.out;have hnc42:=NB607_626.out;have hnb43:=NB626_615.out;have hnc43:=NB615_626.out;have hcz44_0 : w41.cell? ⟨gb626,0,none⟩ = some (.int .i64 0):=(blk_cell BK626.out 0).trans rfl;have hcz44_1 : w41.cell? ⟨gb626,1,none⟩ = some (.int .i64 0):=(blk_cell BK626.out 1).trans rfl;have hcz44_2 : w41.cell? ⟨gb626,2,none⟩ = some (.string (⟨#[]⟩ : ByteArray)):=(blk_cell BK626.out 2).trans rfl;have hcz44_3 : w41.cell? ⟨gb626,3,none⟩ = some (.int .i64 0):=(blk_cell BK626.out 3).trans rfl;have hcz44_4 : w41.cell? ⟨gb626,4,none⟩ = some (.slice none 0 0):=(blk_cell BK626.out 4).trans rfl;have hfz44_0:=blk_frozen BK626.out 0;have hfz44_1:=blk_frozen BK626.out 1;have hfz44_2:=blk_frozen BK626.out 2;have hfz44_3:=blk_frozen BK626.out 3;have hfz44_4:=blk_frozen BK626.out 4;obtain ⟨Ao45,co45,eo45⟩:=Kd.R_slice HO623.out;subst eo45;have hnb46:=NB607_615.out;have hnc46:=NB615_607.out;have hcz47_0 : w41.cell? ⟨gb607,0,none⟩ = some (.string x608000_3):=(blk_cell BK607.out 0).trans rfl;have hcz47_1 : w41.cell? ⟨gb607,1,none⟩ = some (.slice none 0 0):=(blk_cell BK607.out 1).trans rfl;have hfz47_0:=blk_frozen BK607.out 0;have hfz47_1:=blk_frozen BK607.out 1))
               refine bodyPost_ret (results_ctt rfl _ _ gb607 26 #[.string (⟨#[]⟩ : ByteArray), .slice none 0 0] (0,0) _ rfl (by (with_reducible repeat (first|refine blk_drewN ?_ _|refine blk_drew ?_|refine blk_alloc ?_ _));refine blk_put (cs:=#[.string (⟨#[]⟩ : ByteArray), .slice none 0 0]) ?_ 1 _ rfl;(with_reducible repeat (first|refine blk_drewN ?_ _|refine blk_drew ?_|refine blk_alloc ?_ _));refine blk_put (cs:=#[.string x608000_3, .slice none 0 0]) ?_ 0 _ rfl;(with_reducible repeat (first|refine blk_drewN ?_ _|refine blk_drew ?_|refine blk_alloc ?_ _));refine blk_far ?_ NB607_626.out _;(with_reducible repeat (first|refine blk_drewN ?_ _|refine blk_drew ?_|refine blk_alloc ?_ _));refine blk_far ?_ NB607_626.out _;(with_reducible repeat (first|refine blk_drewN ?_ _|refine blk_drew ?_|refine blk_alloc ?_ _));refine blk_far ?_ NB607_626.out _;(with_reducible repeat (first|refine blk_drewN ?_ _|refine blk_drew ?_|refine blk_alloc ?_ _));refine blk_far ?_ NB607_626.out _;(with_reducible repeat (first|refine blk_drewN ?_ _|refine blk_drew ?_|refine blk_alloc ?_ _));refine blk_far ?_ NB607_626.out _;(with_reducible repeat (first|refine blk_drewN ?_ _|refine blk_drew ?_|refine blk_alloc ?_ _));exact BK607.out) Try.underlying26 rfl (by kernel_rfl)) rfl ?_
               exact ⟨_,by first|rfl|(simp [errW_none,errW_some] <;> rfl)|(simp [*,errW_none,errW_some] <;> rfl),by first|exact Kd.R_nil _ _ _ _ _|exact Kd.N_nil _ _ _ _ _|exact Kd.V_nil _ _ _ _ _|exact Kd.Q_nil _ _ _ _ _|exact Kd.S_nil _ _ _ _ _,by repeat (first|(with_reducible first|exact HB.out|apply below_alloc|apply pw_below_drewN|apply below_drew1|refine below_set ?_ GE607.out|refine below_set ?_ GE615.out|refine below_set ?_ GE626.out)|exact HB.out)⟩
             ·rw [if_neg c21] at H
              exact absurd H (by simp)
            ·rw [if_neg c20] at H
             exact absurd H (by simp)
           ·rw [if_neg c19] at H
            have c19b0 : decide (x11_3 < t612) = false:=decide_eq_false c19
            clear c19
            simp only [Option.some.injEq,Prod.mk.injEq] at H
            obtain ⟨rfl,rfl,rfl,rfl⟩:=H
            have hnb48:=NB615_607.out
            have hnc48:=NB607_615.out
            have hcz49_0 : wr.cell? ⟨gb615,0,none⟩ = some (.string t608):=(blk_cell BK615.out 0).trans rfl
            have hcz49_1 : wr.cell? ⟨gb615,1,none⟩ = some (u616001):=(blk_cell BK615.out 1).trans rfl
            have hfz49_0:=blk_frozen BK615.out 0
            have hfz49_1:=blk_frozen BK615.out 1
            have hcz50_0 : wr.cell? ⟨gb607,0,none⟩ = some (.string x608000_3):=(blk_cell BK607.out 0).trans rfl
            have hcz50_1 : wr.cell? ⟨gb607,1,none⟩ = some (.slice none 0 0):=(blk_cell BK607.out 1).trans rfl
            have hfz50_0:=blk_frozen BK607.out 0
            have hfz50_1:=blk_frozen BK607.out 1
            obtain ⟨Ao51,co51,eo51⟩:=Kd.R_slice HO_616001.out
            subst eo51
            go_wp2
            refine bodyPost_ret (results_ctt rfl _ _ gb607 26 #[.string t608, .slice Ao51 x616001_3.length co51] (0,0) _ rfl (by (with_reducible repeat (first|refine blk_drewN ?_ _|refine blk_drew ?_|refine blk_alloc ?_ _));refine blk_put (cs:=#[.string t608, .slice none 0 0]) ?_ 1 _ rfl;(with_reducible repeat (first|refine blk_drewN ?_ _|refine blk_drew ?_|refine blk_alloc ?_ _));refine blk_put (cs:=#[.string x608000_3, .slice none 0 0]) ?_ 0 _ rfl;(with_reducible repeat (first|refine blk_drewN ?_ _|refine blk_drew ?_|refine blk_alloc ?_ _));exact BK607.out) Try.underlying26 rfl (by kernel_rfl)) rfl ?_
            exact ⟨_,by first|rfl|(simp [errW_none,errW_some] <;> rfl)|(simp [*,errW_none,errW_some] <;> rfl),by (with_reducible repeat (first|apply Kd.R_alloc|apply Kd.R_drewN|apply Kd.R_drew));exact Kd.R_mono (Kd.R_far (p:=⟨gb607,1,none⟩) (Kd.R_far (p:=⟨gb607,0,none⟩) (Kd.R_types HO_616001.out BK607.out (by decide)) (fun _ hk => hk.2) (.string t608)) (fun _ hk => hk.2) (.slice Ao51 x616001_3.length co51)) (fun _ hk => trivial),by repeat (first|(with_reducible first|exact HB.out|apply below_alloc|apply pw_below_drewN|apply below_drew1|refine below_set ?_ GE607.out|refine below_set ?_ GE615.out)|exact HB.out)⟩
     ·rw [if_neg c9] at H
      exact absurd H (by simp)
    ·rw [if_neg c8] at H
     exact absurd H (by simp)

end Go.Proofs.Ythbnblmnamckmaa.PAll
-- Laid by a program of this seat (wip/xprint.py over the kit's print).
namespace Go.Proofs.Ythbnblmnamckmaa.PAll
open Go.RowKit Go.Proofs.YthbnblmnamckmaaW.PrintWords Go.Proofs.YthbnblmnamckmaaW.PrintLast Go.Proofs.YthbnblmnamckmaaW.PrintMore
attribute [local go_sem] max2_int min2_int max_two min_two max_three min_three max_four min_four   -- for this text's walks alone
set_option linter.unusedVariables false
set_option linter.unusedSimpArgs false

/-! ### windlassref3_All: function 34 -/
def windlassref3_All.l0 : Nat → List (S24) → List (S24) → Int → Option (Bool)
 | 0,_,_,_ => none
 | k + 1,x0,x1,x5 => if x5 < (x0.length : Int) then (if 0 ≤ x5 then (if x5 < (x1.length : Int) then ((windlassref3_Same.f k ((rd_T24 x0 x5).f0) ((rd_T24 x0 x5).f1) ((rd_T24 x0 x5).f2) ((rd_T24 x0 x5).f3) ((rd_T24 x0 x5).f4) ((rd_T24 x1 x5).f0) ((rd_T24 x1 x5).f1) ((rd_T24 x1 x5).f2) ((rd_T24 x1 x5).f3) ((rd_T24 x1 x5).f4)).bind fun t632 => (if t632 = true then (windlassref3_All.l0 k x0 x1 (wrap64 (x5 + 1))) else (some false))) else (none)) else (none)) else (some true)
def windlassref3_All.f (k : Nat) (l0 : List (S24)) (l1 : List (S24)) : Option (Bool):=if (l0.length : Int) = (l1.length : Int) then (windlassref3_All.l0 k l0 l1 0) else (some false)
theorem windlassref3_All.mono_l : ∀ k,(∀ y0 y1 y2,LeO (windlassref3_All.l0 k y0 y1 y2) (windlassref3_All.l0 (k + 1) y0 y1 y2))
 | 0 => fun _ _ _ r h => by simp [windlassref3_All.l0] at h
 | k + 1 => by
  have ih0:=windlassref3_All.mono_l k
  ·intro y0 y1 y2
   unfold windlassref3_All.l0
   repeat' first
   | (with_reducible exact ih0 _ _ _)
   | (with_reducible exact windlassref3_Same.mono _ _ _ _ _ _ _ _ _ _ _)
   | (with_reducible exact LeO.refl _)
   | (with_reducible exact LeO.none _)
   | (with_reducible refine LeO.ite ?_ ?_)
   | (with_reducible refine LeO.bind ?_ (fun _ => ?_))
   | exact ih0 _ _ _
   | exact windlassref3_Same.mono _ _ _ _ _ _ _ _ _ _ _
   | exact LeO.none _
   | refine LeO.ite ?_ ?_
   | refine LeO.bind ?_ (fun _ => ?_)
theorem windlassref3_All.mono : ∀ a0 a1 k,LeO (windlassref3_All.f k a0 a1) (windlassref3_All.f (k + 1) a0 a1):=by
 intro a0 a1 k
 have ih0:=windlassref3_All.mono_l k
 unfold windlassref3_All.f
 repeat' first
   | (with_reducible exact ih0 _ _ _)
   | (with_reducible exact windlassref3_Same.mono _ _ _ _ _ _ _ _ _ _ _)
   | (with_reducible exact LeO.refl _)
   | (with_reducible exact LeO.none _)
   | (with_reducible refine LeO.ite ?_ ?_)
   | (with_reducible refine LeO.bind ?_ (fun _ => ?_))
   | exact ih0 _ _ _
   | exact windlassref3_Same.mono _ _ _ _ _ _ _ _ _ _ _
   | exact LeO.none _
   | refine LeO.ite ?_ ?_
   | refine LeO.bind ?_ (fun _ => ?_)
def windlassref3_All.T6 : Bool × List (List Nat × List Nat):=(true,[([],[]),([],[]),([0,1],[0,1]),([2],[2]),([],[]),([],[]),([4,5],[4,5]),([6],[6]),([3,7],[3,7]),([8],[8])])
def windlassref3_All.B6 : List Nat:=[0,0,3,7,0,0,48,112,255,511]
theorem windlassref3_All.tab6 : rtab .any (opsOf Try.f34 6) = windlassref3_All.T6:=by kernel_rfl
theorem windlassref3_All.bits6 : waitsOk windlassref3_All.T6.2 windlassref3_All.B6 = true:=by kernel_rfl
set_option maxHeartbeats 8000000 in
set_option maxRecDepth 100000 in
theorem windlassref3_All.calls (k : Nat) (A0 : Option Addr) (c0 : Nat) (l0 : List (S24)) (A1 : Option Addr) (c1 : Nat) (l1 : List (S24)) (r : Bool) (w : World) (hr0 : Kd.C k24 w A0 l0.length l0) (hc0 : l0.length ≤ c0) (hr1 : Kd.C k24 w A1 l1.length l1) (hc1 : l1.length ≤ c1) (h : windlassref3_All.f k l0 l1 = some r) :
  Calls Try.prog 34 #[.slice A0 l0.length c0, .slice A1 l1.length c1] w fun e w' => e = .returned (.bool r) ∧ Below w.heap.size w w':=by
 have hu24:=Try.underlying24
 have HR0:=Aside0.mk hr0
 have HC0:=Aside0.mk hc0
 clear hr0 hc0
 have HR1:=Aside0.mk hr1
 have HC1:=Aside0.mk hc1
 clear hr1 hc1
 have HB:=Aside0.mk (Below.refl w.heap.size w)
 have H : (if (l0.length : Int) = (l1.length : Int) then (windlassref3_All.l0 k l0 l1 0) else (some false)) = some r:=h
 clear h
 by_cases c3 : (l0.length : Int) = (l1.length : Int)
 ·rw [if_pos c3] at H
  have c3b0 : ((l0.length : Int) == (l1.length : Int)) = true:=beq_iff_eq.mpr c3
  have c3b1 : ((l0.length : Int) != (l1.length : Int)) = false:=bne_eq_false_iff_eq.mpr c3
  have c3b2 : (l0.length == l1.length) = true:=by first|simpa using c3|(simp at c3 ⊢;omega)
  clear c3
  have H':=Aside0.mk H
  clear H
  go_enter Try.func34,Try.ntmps34
  go_wp2
  go_loopg [5] k (fun kq v5 w' => ∃ (x5_1 : Int),v5 = .int .i64 x5_1 ∧ Aside0 (windlassref3_All.l0 kq l0 l1 x5_1 = some r) ∧ Aside0 (kq ≤ k) ∧ Aside0 (Below w.heap.size w w'))
  case atStart => exact ⟨(0),(by first|rfl|(simp;done)|(simp [*];done)),H',⟨Nat.le_refl _⟩,⟨by repeat (first|(with_reducible first|exact HB.out|apply below_alloc|apply pw_below_drewN|apply below_drew1)|exact HB.out)⟩⟩
  case round =>
   clear H'
   try clear c1
   try clear p2
   try clear c3
   try clear c3b0
   try clear c3b1
   try clear c3b2
   obtain ⟨x5_1,rfl,HA,HK1,HB⟩:=hrel
   cases gk with
   | zero => exact absurd HA.out (by simp [windlassref3_All.l0])
   | succ k1 =>
    have H:=HA.out
    clear HA
    simp only [windlassref3_All.l0] at H
    by_cases c4 : x5_1 < (l0.length : Int)
    ·rw [if_pos c4] at H
     have c4b0 : decide (x5_1 < (l0.length : Int)) = true:=decide_eq_true c4
     clear c4
     by_cases c5 : 0 ≤ x5_1
     ·rw [if_pos c5] at H
      have c5b0 : decide (0 ≤ x5_1) = true:=decide_eq_true c5
      clear c5
      by_cases c6 : x5_1 < (l1.length : Int)
      ·rw [if_pos c6] at H
       have c6b0 : decide (x5_1 < (l1.length : Int)) = true:=decide_eq_true c6
       clear c6
       replace H:=Option.bind_eq_some_iff.mp H
       obtain ⟨t632,A70,H⟩:=H
       replace H : (if t632 = true then (windlassref3_All.l0 k1 l0 l1 (wrap64 (x5_1 + 1))) else (some false)) = some r:=H
       have A7:=Aside0.mk A70
       clear A70
       by_cases c8 : t632 = true
       ·subst c8
        have H1 : (windlassref3_All.l0 k1 l0 l1 (wrap64 (x5_1 + 1))) = some r:=by rw [if_pos rfl] at H;exact H
        clear H
        have H:=H1
        clear H1
        have H':=Aside0.mk H
        clear H
        try go_wp2
        have n0_:=Aside0.mk (below_drew1 HB.out)
        clear HB
        have HB:=n0_
        clear n0_
        have p630 : 0 ≤ (x5_1 : Int):=of_decide_eq_true (by first|(with_reducible assumption)|assumption)
        have q630 : x5_1 < (l0.length : Int):=of_decide_eq_true (by first|(with_reducible assumption)|assumption)
        obtain ⟨ad630,A630_4,c630_4,e630,hx630_0,hx630_1,hx630_2,hx630_3,hx630_4,hl630_4,hi630_4⟩:=at_T24 HR0.out x5_1 p630 q630
        have hw630_4:=hx630_4
        have hw630_3:=hx630_3
        have hw630_2:=hx630_2
        have hw630_1:=hx630_1
        have hw630_0:=hx630_0
        cases e630
        replace hx630_0:=(HB.out.cell (World.block_lt_of_cell? w _ hx630_0)).trans hx630_0
        replace hx630_1:=(HB.out.cell (World.block_lt_of_cell? w _ hx630_1)).trans hx630_1
        replace hx630_2:=(HB.out.cell (World.block_lt_of_cell? w _ hx630_2)).trans hx630_2
        replace hx630_3:=(HB.out.cell (World.block_lt_of_cell? w _ hx630_3)).trans hx630_3
        replace hx630_4:=(HB.out.cell (World.block_lt_of_cell? w _ hx630_4)).trans hx630_4
        have HR630_4:=Aside0.mk hi630_4
        have HC630_4:=Aside0.mk hl630_4
        clear hi630_4 hl630_4
        replace p630:=eq_true p630
        replace q630:=eq_true q630
        have p631 : 0 ≤ (x5_1 : Int):=of_decide_eq_true (by first|(with_reducible assumption)|assumption)
        have q631 : x5_1 < (l1.length : Int):=of_decide_eq_true (by first|(with_reducible assumption)|assumption)
        obtain ⟨ad631,A631_4,c631_4,e631,hx631_0,hx631_1,hx631_2,hx631_3,hx631_4,hl631_4,hi631_4⟩:=at_T24 HR1.out x5_1 p631 q631
        have hw631_4:=hx631_4
        have hw631_3:=hx631_3
        have hw631_2:=hx631_2
        have hw631_1:=hx631_1
        have hw631_0:=hx631_0
        cases e631
        replace hx631_0:=(HB.out.cell (World.block_lt_of_cell? w _ hx631_0)).trans hx631_0
        replace hx631_1:=(HB.out.cell (World.block_lt_of_cell? w _ hx631_1)).trans hx631_1
        replace hx631_2:=(HB.out.cell (World.block_lt_of_cell? w _ hx631_2)).trans hx631_2
        replace hx631_3:=(HB.out.cell (World.block_lt_of_cell? w _ hx631_3)).trans hx631_3
        replace hx631_4:=(HB.out.cell (World.block_lt_of_cell? w _ hx631_4)).trans hx631_4
        have HR631_4:=Aside0.mk hi631_4
        have HC631_4:=Aside0.mk hl631_4
        clear hi631_4 hl631_4
        replace p631:=eq_true p631
        replace q631:=eq_true q631
        refine start_ (n:=10) (S:=fun w' => w'.cell? (ad630.add ((x5_1).toNat * 5)) = some (.int .i64 ((rd_T24 l0 x5_1).f0)) ∧ w'.cell? ⟨(ad630.add ((x5_1).toNat * 5)).block,(ad630.add ((x5_1).toNat * 5)).off + 1,none⟩ = some (.int .i64 ((rd_T24 l0 x5_1).f1)) ∧ w'.cell? ⟨(ad630.add ((x5_1).toNat * 5)).block,(ad630.add ((x5_1).toNat * 5)).off + 2,none⟩ = some (.string ((rd_T24 l0 x5_1).f2)) ∧ w'.cell? ⟨(ad630.add ((x5_1).toNat * 5)).block,(ad630.add ((x5_1).toNat * 5)).off + 3,none⟩ = some (.int .i64 ((rd_T24 l0 x5_1).f3)) ∧ w'.cell? ⟨(ad630.add ((x5_1).toNat * 5)).block,(ad630.add ((x5_1).toNat * 5)).off + 4,none⟩ = some (.slice A630_4 ((rd_T24 l0 x5_1).f4).length c630_4) ∧ w'.cell? (ad631.add ((x5_1).toNat * 5)) = some (.int .i64 ((rd_T24 l1 x5_1).f0)) ∧ w'.cell? ⟨(ad631.add ((x5_1).toNat * 5)).block,(ad631.add ((x5_1).toNat * 5)).off + 1,none⟩ = some (.int .i64 ((rd_T24 l1 x5_1).f1)) ∧ w'.cell? ⟨(ad631.add ((x5_1).toNat * 5)).block,(ad631.add ((x5_1).toNat * 5)).off + 2,none⟩ = some (.string ((rd_T24 l1 x5_1).f2)) ∧ w'.cell? ⟨(ad631.add ((x5_1).toNat * 5)).block,(ad631.add ((x5_1).toNat * 5)).off + 3,none⟩ = some (.int .i64 ((rd_T24 l1 x5_1).f3)) ∧ w'.cell? ⟨(ad631.add ((x5_1).toNat * 5)).block,(ad631.add ((x5_1).toNat * 5)).off + 4,none⟩ = some (.slice A631_4 ((rd_T24 l1 x5_1).f4).length c631_4)) (ds:=[]) #[false,false,false,false,false,false,false,false,false,false] (by kernel_rfl) rfl rfl ⟨((HB.out.cell (World.block_lt_of_cell? w _ hw630_0)).trans hw630_0),((HB.out.cell (World.block_lt_of_cell? w _ hw630_1)).trans hw630_1),((HB.out.cell (World.block_lt_of_cell? w _ hw630_2)).trans hw630_2),((HB.out.cell (World.block_lt_of_cell? w _ hw630_3)).trans hw630_3),((HB.out.cell (World.block_lt_of_cell? w _ hw630_4)).trans hw630_4),((HB.out.cell (World.block_lt_of_cell? w _ hw631_0)).trans hw631_0),((HB.out.cell (World.block_lt_of_cell? w _ hw631_1)).trans hw631_1),((HB.out.cell (World.block_lt_of_cell? w _ hw631_2)).trans hw631_2),((HB.out.cell (World.block_lt_of_cell? w _ hw631_3)).trans hw631_3),((HB.out.cell (World.block_lt_of_cell? w _ hw631_4)).trans hw631_4)⟩ (fun hHeld => ?_);refine with_tabW windlassref3_All.tab6 windlassref3_All.bits6 (fun HT_ HW_ => ?_)
        generalize wr.drew = w9 at HB HR630_4 HR631_4 hx630_0 hx630_1 hx630_2 hx630_3 hx630_4 hx631_0 hx631_1 hx631_2 hx631_3 hx631_4 hHeld ⊢
        refine pure_ (i:=0) (N:=some 17) (v:=?_) (a':=?_) #[true,false,false,false,false,false,false,false,false,false] rfl rfl (any_of HT_.out (by kernel_rfl)) (fun _ _ _ h => h) (Or.inl ⟨by rfl,?_⟩) ?_ ?_
        rotate_left
        ·intro w'
         go_simp
         with_reducible rfl
        rotate_left
        ·simp only [Act.put,List.setIfInBounds_toArray,List.set_cons_zero,List.set_cons_succ,i64_w,i32_w]
         rfl
        refine pure_ (i:=1) (N:=some 18) (v:=?_) (a':=?_) #[true,true,false,false,false,false,false,false,false,false] rfl rfl (any_of HT_.out (by kernel_rfl)) (fun _ _ _ h => h) (Or.inl ⟨by rfl,?_⟩) ?_ ?_
        rotate_left
        ·intro w'
         go_simp
         with_reducible rfl
        rotate_left
        ·simp only [Act.put,List.setIfInBounds_toArray,List.set_cons_zero,List.set_cons_succ,i64_w,i32_w]
         rfl
        refine pure_ (i:=2) (N:=some 19) (v:=?_) (a':=?_) #[true,true,true,false,false,false,false,false,false,false] rfl rfl (any_of HT_.out (by kernel_rfl)) (fun _ _ _ h => h) (Or.inl ⟨by rfl,?_⟩) ?_ ?_
        rotate_left
        ·intro w'
         go_simp
         with_reducible rfl
        rotate_left
        ·simp only [Act.put,List.setIfInBounds_toArray,List.set_cons_zero,List.set_cons_succ,i64_w,i32_w]
         rfl
        refine pure_ (i:=4) (N:=some 21) (v:=?_) (a':=?_) #[true,true,true,false,true,false,false,false,false,false] rfl rfl (any_of HT_.out (by kernel_rfl)) (fun _ _ _ h => h) (Or.inl ⟨by rfl,?_⟩) ?_ ?_
        rotate_left
        ·intro w'
         go_simp
         with_reducible rfl
        rotate_left
        ·simp only [Act.put,List.setIfInBounds_toArray,List.set_cons_zero,List.set_cons_succ,i64_w,i32_w]
         rfl
        refine pure_ (i:=5) (N:=some 22) (v:=?_) (a':=?_) #[true,true,true,false,true,true,false,false,false,false] rfl rfl (any_of HT_.out (by kernel_rfl)) (fun _ _ _ h => h) (Or.inl ⟨by rfl,?_⟩) ?_ ?_
        rotate_left
        ·intro w'
         go_simp
         with_reducible rfl
        rotate_left
        ·simp only [Act.put,List.setIfInBounds_toArray,List.set_cons_zero,List.set_cons_succ,i64_w,i32_w]
         rfl
        refine pure_ (i:=6) (N:=some 23) (v:=?_) (a':=?_) #[true,true,true,false,true,true,true,false,false,false] rfl rfl (any_of HT_.out (by kernel_rfl)) (fun _ _ _ h => h) (Or.inl ⟨by rfl,?_⟩) ?_ ?_
        rotate_left
        ·intro w'
         go_simp
         with_reducible rfl
        rotate_left
        ·simp only [Act.put,List.setIfInBounds_toArray,List.set_cons_zero,List.set_cons_succ,i64_w,i32_w]
         rfl
        refine take_ (i:=3) (N:=some 20) (v:=?_) (a':=?_) #[true,true,true,true,true,true,true,false,false,false] rfl rfl (take_ofW HT_.out HW_.out (by kernel_rfl)) (fun _ _ _ h => h) (Or.inl ⟨by rfl,?_⟩) hHeld ?_ ?_
        rotate_left
        ·rintro w' ⟨s0,s1,s2,s3,s4,s5,s6,s7,s8,s9⟩
         go_simp
         with_reducible rfl
        rotate_left
        ·simp only [Act.put,List.setIfInBounds_toArray,List.set_cons_zero,List.set_cons_succ,i64_w,i32_w]
         rfl
        refine take_ (i:=7) (N:=some 24) (v:=?_) (a':=?_) #[true,true,true,true,true,true,true,true,false,false] rfl rfl (take_ofW HT_.out HW_.out (by kernel_rfl)) (fun _ _ _ h => h) (Or.inl ⟨by rfl,?_⟩) hHeld ?_ ?_
        rotate_left
        ·rintro w' ⟨s0,s1,s2,s3,s4,s5,s6,s7,s8,s9⟩
         go_simp
         with_reducible rfl
        rotate_left
        ·simp only [Act.put,List.setIfInBounds_toArray,List.set_cons_zero,List.set_cons_succ,i64_w,i32_w]
         rfl
        refine one_ (i:=8) (N:=some 25) #[true,true,true,true,true,true,true,true,true,false] rfl rfl (one_of HT_.out (by kernel_rfl)) (by decide) (fun K hK => ?_)
        refine goes_ Try.func31 (by kernel_rfl) rfl #[.agg #[.int .i64 ((rd_T24 l0 x5_1).f0), .int .i64 ((rd_T24 l0 x5_1).f1), .string ((rd_T24 l0 x5_1).f2), .int .i64 ((rd_T24 l0 x5_1).f3), .slice A630_4 ((rd_T24 l0 x5_1).f4).length c630_4], .agg #[.int .i64 ((rd_T24 l1 x5_1).f0), .int .i64 ((rd_T24 l1 x5_1).f1), .string ((rd_T24 l1 x5_1).f2), .int .i64 ((rd_T24 l1 x5_1).f3), .slice A631_4 ((rd_T24 l1 x5_1).f4).length c631_4]] (by rfl) rfl rfl (by (try simp only [List.map_toArray,List.map_cons,List.map_nil]);first|done|rfl|(simp only [List.length_drop,List.length_take];rfl)|(go_simp;done)|(go_simp;simp;done)) ?_
        with_reducible refine (windlassref3_Same.calls k1 ((rd_T24 l0 x5_1).f0) ((rd_T24 l0 x5_1).f1) ((rd_T24 l0 x5_1).f2) ((rd_T24 l0 x5_1).f3) _ _ ((rd_T24 l0 x5_1).f4) ((rd_T24 l1 x5_1).f0) ((rd_T24 l1 x5_1).f1) ((rd_T24 l1 x5_1).f2) ((rd_T24 l1 x5_1).f3) _ _ ((rd_T24 l1 x5_1).f4) true _ ?side1 ?side2 ?side3 ?side4 A7.out).mono ?_
        (case side1 => repeat (first|exact (Kd.C_below HR630_4.out HB.out)|(with_reducible refine Kd.C_alloc ?_ _)|(with_reducible refine Kd.C_drewN ?_ _)|(with_reducible refine Kd.C_drew ?_)))
        (case side2 => exact HC630_4.out)
        (case side3 => repeat (first|exact (Kd.C_below HR631_4.out HB.out)|(with_reducible refine Kd.C_alloc ?_ _)|(with_reducible refine Kd.C_drewN ?_ _)|(with_reducible refine Kd.C_drew ?_)))
        (case side4 => exact HC631_4.out)
        rintro e w10 ⟨rfl,hb⟩
        refine ⟨_,rfl,?_⟩
        have n0_:=Aside0.mk (below_step (by repeat (first|(with_reducible first|exact HB.out|apply below_alloc|apply pw_below_drewN|apply below_drew1)|exact HB.out)) hb)
        clear HB
        have HB:=n0_
        clear n0_
        (try clear hb)
        (try clear hb2)
        (try clear hk)
        (try clear hi)
        refine hK.out _ _ ⟨((HB.out.cell (World.block_lt_of_cell? w _ hw630_0)).trans hw630_0),((HB.out.cell (World.block_lt_of_cell? w _ hw630_1)).trans hw630_1),((HB.out.cell (World.block_lt_of_cell? w _ hw630_2)).trans hw630_2),((HB.out.cell (World.block_lt_of_cell? w _ hw630_3)).trans hw630_3),((HB.out.cell (World.block_lt_of_cell? w _ hw630_4)).trans hw630_4),((HB.out.cell (World.block_lt_of_cell? w _ hw631_0)).trans hw631_0),((HB.out.cell (World.block_lt_of_cell? w _ hw631_1)).trans hw631_1),((HB.out.cell (World.block_lt_of_cell? w _ hw631_2)).trans hw631_2),((HB.out.cell (World.block_lt_of_cell? w _ hw631_3)).trans hw631_3),((HB.out.cell (World.block_lt_of_cell? w _ hw631_4)).trans hw631_4)⟩ (fun hHeld => ?_)
        clear hK K
        refine norm_ (a':=?_) ?_ ?_
        rotate_left
        ·show Act.put _ (some 25) _ = _
         simp only [Act.put,List.setIfInBounds_toArray,List.set_cons_zero,List.set_cons_succ,i64_w,i32_w]
         rfl
        refine pure_ (i:=9) (N:=some 26) (v:=?_) (a':=?_) #[true,true,true,true,true,true,true,true,true,true] rfl rfl (any_of HT_.out (by kernel_rfl)) (fun _ _ _ h => h) (Or.inl ⟨by rfl,?_⟩) ?_ ?_
        rotate_left
        ·intro w'
         go_simp
         with_reducible rfl
        rotate_left
        ·simp only [Act.put,List.setIfInBounds_toArray,List.set_cons_zero,List.set_cons_succ,i64_w,i32_w]
         rfl
        refine done_ (done_of HT_.out (by kernel_rfl)) ?_
        try go_wp2
        go_roundg k1
        case measure => have:=HK1.out;omega
        case rel => exact ⟨(wrap64 (x5_1 + 1)),(by first|rfl|(simp;done)|(simp [*];done)),H',⟨by have:=HK1.out;omega⟩,⟨by repeat (first|(with_reducible first|exact HB.out|apply below_alloc|apply pw_below_drewN|apply below_drew1)|exact HB.out)⟩⟩
       ·replace c8:=Bool.eq_false_iff.mpr c8
        subst c8
        have H1 : (some false) = some r:=by rw [if_neg (show ¬ (false = true) by decide)] at H;exact H
        clear H
        have H:=H1
        clear H1
        obtain rfl:=Option.some.inj H
        try go_wp2
        have n0_:=Aside0.mk (below_drew1 HB.out)
        clear HB
        have HB:=n0_
        clear n0_
        have p630 : 0 ≤ (x5_1 : Int):=of_decide_eq_true (by first|(with_reducible assumption)|assumption)
        have q630 : x5_1 < (l0.length : Int):=of_decide_eq_true (by first|(with_reducible assumption)|assumption)
        obtain ⟨ad630,A630_4,c630_4,e630,hx630_0,hx630_1,hx630_2,hx630_3,hx630_4,hl630_4,hi630_4⟩:=at_T24 HR0.out x5_1 p630 q630
        have hw630_4:=hx630_4
        have hw630_3:=hx630_3
        have hw630_2:=hx630_2
        have hw630_1:=hx630_1
        have hw630_0:=hx630_0
        cases e630
        replace hx630_0:=(HB.out.cell (World.block_lt_of_cell? w _ hx630_0)).trans hx630_0
        replace hx630_1:=(HB.out.cell (World.block_lt_of_cell? w _ hx630_1)).trans hx630_1
        replace hx630_2:=(HB.out.cell (World.block_lt_of_cell? w _ hx630_2)).trans hx630_2
        replace hx630_3:=(HB.out.cell (World.block_lt_of_cell? w _ hx630_3)).trans hx630_3
        replace hx630_4:=(HB.out.cell (World.block_lt_of_cell? w _ hx630_4)).trans hx630_4
        have HR630_4:=Aside0.mk hi630_4
        have HC630_4:=Aside0.mk hl630_4
        clear hi630_4 hl630_4
        replace p630:=eq_true p630
        replace q630:=eq_true q630
        have p631 : 0 ≤ (x5_1 : Int):=of_decide_eq_true (by first|(with_reducible assumption)|assumption)
        have q631 : x5_1 < (l1.length : Int):=of_decide_eq_true (by first|(with_reducible assumption)|assumption)
        obtain ⟨ad631,A631_4,c631_4,e631,hx631_0,hx631_1,hx631_2,hx631_3,hx631_4,hl631_4,hi631_4⟩:=at_T24 HR1.out x5_1 p631 q631
        have hw631_4:=hx631_4
        have hw631_3:=hx631_3
        have hw631_2:=hx631_2
        have hw631_1:=hx631_1
        have hw631_0:=hx631_0
        cases e631
        replace hx631_0:=(HB.out.cell (World.block_lt_of_cell? w _ hx631_0)).trans hx631_0
        replace hx631_1:=(HB.out.cell (World.block_lt_of_cell? w _ hx631_1)).trans hx631_1
        replace hx631_2:=(HB.out.cell (World.block_lt_of_cell? w _ hx631_2)).trans hx631_2
        replace hx631_3:=(HB.out.cell (World.block_lt_of_cell? w _ hx631_3)).trans hx631_3
        replace hx631_4:=(HB.out.cell (World.block_lt_of_cell? w _ hx631_4)).trans hx631_4
        have HR631_4:=Aside0.mk hi631_4
        have HC631_4:=Aside0.mk hl631_4
        clear hi631_4 hl631_4
        replace p631:=eq_true p631
        replace q631:=eq_true q631
        refine start_ (n:=10) (S:=fun w' => w'.cell? (ad630.add ((x5_1).toNat * 5)) = some (.int .i64 ((rd_T24 l0 x5_1).f0)) ∧ w'.cell? ⟨(ad630.add ((x5_1).toNat * 5)).block,(ad630.add ((x5_1).toNat * 5)).off + 1,none⟩ = some (.int .i64 ((rd_T24 l0 x5_1).f1)) ∧ w'.cell? ⟨(ad630.add ((x5_1).toNat * 5)).block,(ad630.add ((x5_1).toNat * 5)).off + 2,none⟩ = some (.string ((rd_T24 l0 x5_1).f2)) ∧ w'.cell? ⟨(ad630.add ((x5_1).toNat * 5)).block,(ad630.add ((x5_1).toNat * 5)).off + 3,none⟩ = some (.int .i64 ((rd_T24 l0 x5_1).f3)) ∧ w'.cell? ⟨(ad630.add ((x5_1).toNat * 5)).block,(ad630.add ((x5_1).toNat * 5)).off + 4,none⟩ = some (.slice A630_4 ((rd_T24 l0 x5_1).f4).length c630_4) ∧ w'.cell? (ad631.add ((x5_1).toNat * 5)) = some (.int .i64 ((rd_T24 l1 x5_1).f0)) ∧ w'.cell? ⟨(ad631.add ((x5_1).toNat * 5)).block,(ad631.add ((x5_1).toNat * 5)).off + 1,none⟩ = some (.int .i64 ((rd_T24 l1 x5_1).f1)) ∧ w'.cell? ⟨(ad631.add ((x5_1).toNat * 5)).block,(ad631.add ((x5_1).toNat * 5)).off + 2,none⟩ = some (.string ((rd_T24 l1 x5_1).f2)) ∧ w'.cell? ⟨(ad631.add ((x5_1).toNat * 5)).block,(ad631.add ((x5_1).toNat * 5)).off + 3,none⟩ = some (.int .i64 ((rd_T24 l1 x5_1).f3)) ∧ w'.cell? ⟨(ad631.add ((x5_1).toNat * 5)).block,(ad631.add ((x5_1).toNat * 5)).off + 4,none⟩ = some (.slice A631_4 ((rd_T24 l1 x5_1).f4).length c631_4)) (ds:=[]) #[false,false,false,false,false,false,false,false,false,false] (by kernel_rfl) rfl rfl ⟨((HB.out.cell (World.block_lt_of_cell? w _ hw630_0)).trans hw630_0),((HB.out.cell (World.block_lt_of_cell? w _ hw630_1)).trans hw630_1),((HB.out.cell (World.block_lt_of_cell? w _ hw630_2)).trans hw630_2),((HB.out.cell (World.block_lt_of_cell? w _ hw630_3)).trans hw630_3),((HB.out.cell (World.block_lt_of_cell? w _ hw630_4)).trans hw630_4),((HB.out.cell (World.block_lt_of_cell? w _ hw631_0)).trans hw631_0),((HB.out.cell (World.block_lt_of_cell? w _ hw631_1)).trans hw631_1),((HB.out.cell (World.block_lt_of_cell? w _ hw631_2)).trans hw631_2),((HB.out.cell (World.block_lt_of_cell? w _ hw631_3)).trans hw631_3),((HB.out.cell (World.block_lt_of_cell? w _ hw631_4)).trans hw631_4)⟩ (fun hHeld => ?_);refine with_tabW windlassref3_All.tab6 windlassref3_All.bits6 (fun HT_ HW_ => ?_)
        generalize wr.drew = w11 at HB HR630_4 HR631_4 hx630_0 hx630_1 hx630_2 hx630_3 hx630_4 hx631_0 hx631_1 hx631_2 hx631_3 hx631_4 hHeld ⊢
        refine pure_ (i:=0) (N:=some 17) (v:=?_) (a':=?_) #[true,false,false,false,false,false,false,false,false,false] rfl rfl (any_of HT_.out (by kernel_rfl)) (fun _ _ _ h => h) (Or.inl ⟨by rfl,?_⟩) ?_ ?_
        rotate_left
        ·intro w'
         go_simp
         with_reducible rfl
        rotate_left
        ·simp only [Act.put,List.setIfInBounds_toArray,List.set_cons_zero,List.set_cons_succ,i64_w,i32_w]
         rfl
        refine pure_ (i:=1) (N:=some 18) (v:=?_) (a':=?_) #[true,true,false,false,false,false,false,false,false,false] rfl rfl (any_of HT_.out (by kernel_rfl)) (fun _ _ _ h => h) (Or.inl ⟨by rfl,?_⟩) ?_ ?_
        rotate_left
        ·intro w'
         go_simp
         with_reducible rfl
        rotate_left
        ·simp only [Act.put,List.setIfInBounds_toArray,List.set_cons_zero,List.set_cons_succ,i64_w,i32_w]
         rfl
        refine pure_ (i:=2) (N:=some 19) (v:=?_) (a':=?_) #[true,true,true,false,false,false,false,false,false,false] rfl rfl (any_of HT_.out (by kernel_rfl)) (fun _ _ _ h => h) (Or.inl ⟨by rfl,?_⟩) ?_ ?_
        rotate_left
        ·intro w'
         go_simp
         with_reducible rfl
        rotate_left
        ·simp only [Act.put,List.setIfInBounds_toArray,List.set_cons_zero,List.set_cons_succ,i64_w,i32_w]
         rfl
        refine pure_ (i:=4) (N:=some 21) (v:=?_) (a':=?_) #[true,true,true,false,true,false,false,false,false,false] rfl rfl (any_of HT_.out (by kernel_rfl)) (fun _ _ _ h => h) (Or.inl ⟨by rfl,?_⟩) ?_ ?_
        rotate_left
        ·intro w'
         go_simp
         with_reducible rfl
        rotate_left
        ·simp only [Act.put,List.setIfInBounds_toArray,List.set_cons_zero,List.set_cons_succ,i64_w,i32_w]
         rfl
        refine pure_ (i:=5) (N:=some 22) (v:=?_) (a':=?_) #[true,true,true,false,true,true,false,false,false,false] rfl rfl (any_of HT_.out (by kernel_rfl)) (fun _ _ _ h => h) (Or.inl ⟨by rfl,?_⟩) ?_ ?_
        rotate_left
        ·intro w'
         go_simp
         with_reducible rfl
        rotate_left
        ·simp only [Act.put,List.setIfInBounds_toArray,List.set_cons_zero,List.set_cons_succ,i64_w,i32_w]
         rfl
        refine pure_ (i:=6) (N:=some 23) (v:=?_) (a':=?_) #[true,true,true,false,true,true,true,false,false,false] rfl rfl (any_of HT_.out (by kernel_rfl)) (fun _ _ _ h => h) (Or.inl ⟨by rfl,?_⟩) ?_ ?_
        rotate_left
        ·intro w'
         go_simp
         with_reducible rfl
        rotate_left
        ·simp only [Act.put,List.setIfInBounds_toArray,List.set_cons_zero,List.set_cons_succ,i64_w,i32_w]
         rfl
        refine take_ (i:=3) (N:=some 20) (v:=?_) (a':=?_) #[true,true,true,true,true,true,true,false,false,false] rfl rfl (take_ofW HT_.out HW_.out (by kernel_rfl)) (fun _ _ _ h => h) (Or.inl ⟨by rfl,?_⟩) hHeld ?_ ?_
        rotate_left
        ·rintro w' ⟨s0,s1,s2,s3,s4,s5,s6,s7,s8,s9⟩
         go_simp
         with_reducible rfl
        rotate_left
        ·simp only [Act.put,List.setIfInBounds_toArray,List.set_cons_zero,List.set_cons_succ,i64_w,i32_w]
         rfl
        refine take_ (i:=7) (N:=some 24) (v:=?_) (a':=?_) #[true,true,true,true,true,true,true,true,false,false] rfl rfl (take_ofW HT_.out HW_.out (by kernel_rfl)) (fun _ _ _ h => h) (Or.inl ⟨by rfl,?_⟩) hHeld ?_ ?_
        rotate_left
        ·rintro w' ⟨s0,s1,s2,s3,s4,s5,s6,s7,s8,s9⟩
         go_simp
         with_reducible rfl
        rotate_left
        ·simp only [Act.put,List.setIfInBounds_toArray,List.set_cons_zero,List.set_cons_succ,i64_w,i32_w]
         rfl
        refine one_ (i:=8) (N:=some 25) #[true,true,true,true,true,true,true,true,true,false] rfl rfl (one_of HT_.out (by kernel_rfl)) (by decide) (fun K hK => ?_)
        refine goes_ Try.func31 (by kernel_rfl) rfl #[.agg #[.int .i64 ((rd_T24 l0 x5_1).f0), .int .i64 ((rd_T24 l0 x5_1).f1), .string ((rd_T24 l0 x5_1).f2), .int .i64 ((rd_T24 l0 x5_1).f3), .slice A630_4 ((rd_T24 l0 x5_1).f4).length c630_4], .agg #[.int .i64 ((rd_T24 l1 x5_1).f0), .int .i64 ((rd_T24 l1 x5_1).f1), .string ((rd_T24 l1 x5_1).f2), .int .i64 ((rd_T24 l1 x5_1).f3), .slice A631_4 ((rd_T24 l1 x5_1).f4).length c631_4]] (by rfl) rfl rfl (by (try simp only [List.map_toArray,List.map_cons,List.map_nil]);first|done|rfl|(simp only [List.length_drop,List.length_take];rfl)|(go_simp;done)|(go_simp;simp;done)) ?_
        with_reducible refine (windlassref3_Same.calls k1 ((rd_T24 l0 x5_1).f0) ((rd_T24 l0 x5_1).f1) ((rd_T24 l0 x5_1).f2) ((rd_T24 l0 x5_1).f3) _ _ ((rd_T24 l0 x5_1).f4) ((rd_T24 l1 x5_1).f0) ((rd_T24 l1 x5_1).f1) ((rd_T24 l1 x5_1).f2) ((rd_T24 l1 x5_1).f3) _ _ ((rd_T24 l1 x5_1).f4) false _ ?side1 ?side2 ?side3 ?side4 A7.out).mono ?_
        (case side1 => repeat (first|exact (Kd.C_below HR630_4.out HB.out)|(with_reducible refine Kd.C_alloc ?_ _)|(with_reducible refine Kd.C_drewN ?_ _)|(with_reducible refine Kd.C_drew ?_)))
        (case side2 => exact HC630_4.out)
        (case side3 => repeat (first|exact (Kd.C_below HR631_4.out HB.out)|(with_reducible refine Kd.C_alloc ?_ _)|(with_reducible refine Kd.C_drewN ?_ _)|(with_reducible refine Kd.C_drew ?_)))
        (case side4 => exact HC631_4.out)
        rintro e w12 ⟨rfl,hb⟩
        refine ⟨_,rfl,?_⟩
        have n0_:=Aside0.mk (below_step (by repeat (first|(with_reducible first|exact HB.out|apply below_alloc|apply pw_below_drewN|apply below_drew1)|exact HB.out)) hb)
        clear HB
        have HB:=n0_
        clear n0_
        (try clear hb)
        (try clear hb2)
        (try clear hk)
        (try clear hi)
        refine hK.out _ _ ⟨((HB.out.cell (World.block_lt_of_cell? w _ hw630_0)).trans hw630_0),((HB.out.cell (World.block_lt_of_cell? w _ hw630_1)).trans hw630_1),((HB.out.cell (World.block_lt_of_cell? w _ hw630_2)).trans hw630_2),((HB.out.cell (World.block_lt_of_cell? w _ hw630_3)).trans hw630_3),((HB.out.cell (World.block_lt_of_cell? w _ hw630_4)).trans hw630_4),((HB.out.cell (World.block_lt_of_cell? w _ hw631_0)).trans hw631_0),((HB.out.cell (World.block_lt_of_cell? w _ hw631_1)).trans hw631_1),((HB.out.cell (World.block_lt_of_cell? w _ hw631_2)).trans hw631_2),((HB.out.cell (World.block_lt_of_cell? w _ hw631_3)).trans hw631_3),((HB.out.cell (World.block_lt_of_cell? w _ hw631_4)).trans hw631_4)⟩ (fun hHeld => ?_)
        clear hK K
        refine norm_ (a':=?_) ?_ ?_
        rotate_left
        ·show Act.put _ (some 25) _ = _
         simp only [Act.put,List.setIfInBounds_toArray,List.set_cons_zero,List.set_cons_succ,i64_w,i32_w]
         rfl
        refine pure_ (i:=9) (N:=some 26) (v:=?_) (a':=?_) #[true,true,true,true,true,true,true,true,true,true] rfl rfl (any_of HT_.out (by kernel_rfl)) (fun _ _ _ h => h) (Or.inl ⟨by rfl,?_⟩) ?_ ?_
        rotate_left
        ·intro w'
         go_simp
         with_reducible rfl
        rotate_left
        ·simp only [Act.put,List.setIfInBounds_toArray,List.set_cons_zero,List.set_cons_succ,i64_w,i32_w]
         rfl
        refine done_ (done_of HT_.out (by kernel_rfl)) ?_
        try go_wp2
        go_ret
        exact ⟨by first|rfl|(simp [errW_none,errW_some] <;> rfl)|(simp [*,errW_none,errW_some] <;> rfl),by repeat (first|(with_reducible first|exact HB.out|apply below_alloc|apply pw_below_drewN|apply below_drew1)|exact HB.out)⟩
      ·rw [if_neg c6] at H
       exact absurd H (by simp)
     ·rw [if_neg c5] at H
      exact absurd H (by simp)
    ·rw [if_neg c4] at H
     have c4b0 : decide (x5_1 < (l0.length : Int)) = false:=decide_eq_false c4
     clear c4
     obtain rfl:=Option.some.inj H
     go_wp2
     go_ret
     exact ⟨by first|rfl|(simp [errW_none,errW_some] <;> rfl)|(simp [*,errW_none,errW_some] <;> rfl),by repeat (first|(with_reducible first|exact HB.out|apply below_alloc|apply pw_below_drewN|apply below_drew1)|exact HB.out)⟩
 ·rw [if_neg c3] at H
  have c3b0 : ((l0.length : Int) == (l1.length : Int)) = false:=beq_eq_false_iff_ne.mpr c3
  have c3b1 : ((l0.length : Int) != (l1.length : Int)) = true:=bne_iff_ne.mpr c3
  have c3b2 : (l0.length == l1.length) = false:=by first|simpa using c3|(simp at c3 ⊢;omega)
  obtain rfl:=Option.some.inj H
  go_enter Try.func34,Try.ntmps34
  go_wp2
  go_ret
  exact ⟨by first|rfl|(simp [errW_none,errW_some] <;> rfl)|(simp [*,errW_none,errW_some] <;> rfl),by repeat (first|(with_reducible first|exact HB.out|apply below_alloc|apply pw_below_drewN|apply below_drew1)|exact HB.out)⟩

end Go.Proofs.Ythbnblmnamckmaa.PAll
