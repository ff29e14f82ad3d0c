-- Laid by a program of this seat (wip/merge.py): PAllx32, PAllx33, PAllx35, PAllx36, PAllx37, PAllx38.
import Derived.Test.YthbnblmnamckmaaMCodecReads0
import Derived.Test.YthbnblmnamckmaaMCodecReads1
-- Laid by a program of this seat (wip/xprint.py over the kit's print).
namespace Go.Proofs.Ythbnblmnamckmaa.PAll
open Go.RowKit Go.Proofs.YthbnblmnamckmaaW.PrintWords Go.Proofs.YthbnblmnamckmaaW.PrintLast Go.Proofs.YthbnblmnamckmaaW.PrintMore
attribute [local go_sem] max2_int min2_int max_two min_two max_three min_three max_four min_four   -- for this text's walks alone
set_option linter.unusedVariables false
set_option linter.unusedSimpArgs false

/-! ### codec_reader_value: function 39 -/
mutual
def codec_reader_value.j0 : Nat → List Int → Int → Bool → Int → Int → ByteArray → Int → Option (Int × Int × ByteArray × Int × (List (S24)) × List Int × Int × Bool)
 | 0,_,_,_,_,_,_,_ => none
 | k + 1,x1000,x1001,x1002,x416000,x416001,x416002,x416003 => (codec_reader_count.f k x1000 x1001 x1002 15).bind fun bt430 => ((codec_reader_count.f k bt430.2.1 bt430.2.2.1 bt430.2.2.2 12).bind fun bt434 => (codec_reader_value.l0 k bt434.1 0 bt434.2.1 bt434.2.2.1 bt434.2.2.2 x416000 x416001 x416002 bt430.1 ([] : List (S24))))
def codec_reader_value.l0 : Nat → Int → Int → List Int → Int → Bool → Int → Int → ByteArray → Int → List (S24) → Option (Int × Int × ByteArray × Int × (List (S24)) × List Int × Int × Bool)
 | 0,_,_,_,_,_,_,_,_,_,_ => none
 | k + 1,x74,x75,x1000,x1001,x1002,x416000,x416001,x416002,x416003,x416004 => if x75 < x74 then ((codec_reader_value.f k x1000 x1001 x1002 true).bind fun bt438 => (if x416004.length < 2199023255552 then (codec_reader_value.l0 k x74 (wrap64 (x75 + 1)) bt438.2.2.2.2.2.1 bt438.2.2.2.2.2.2.1 bt438.2.2.2.2.2.2.2 x416000 x416001 x416002 x416003 (x416004 ++ [(⟨bt438.1,bt438.2.1,bt438.2.2.1,bt438.2.2.2.1,bt438.2.2.2.2.1⟩ : S24)])) else (none))) else (some (x416000,x416001,x416002,x416003,x416004,x1000,x1001,x1002))
def codec_reader_value.f : Nat → List Int → Int → Bool → Bool → Option (Int × Int × ByteArray × Int × (List (S24)) × List Int × Int × Bool)
 | 0,_,_,_,_ => none
 | k + 1,s0_0,s0_1,s0_2,a1 => (codec_reader_byte.f s0_0 s0_1 s0_2).bind fun bt411 => (if (wrap64 (bt411.1)) = 1 then ((codec_Int.f k bt411.2.1).bind fun bt416 => ((codec_reader_takes.f bt411.2.1 bt411.2.2.1 bt411.2.2.2 bt416.2.1 bt416.2.2).bind fun bt419 => (some (wrap64 (bt411.1),bt416.1,(⟨#[]⟩ : ByteArray),0,([] : List (S24)),bt419.1,bt419.2.1,bt419.2.2)))) else (if (wrap64 (bt411.1)) = 2 then ((codec_reader_text.f k bt411.2.1 bt411.2.2.1 bt411.2.2.2).bind fun bt422 => (some (wrap64 (bt411.1),0,bt422.1,0,([] : List (S24)),bt422.2.1,bt422.2.2.1,bt422.2.2.2))) else (if (wrap64 (bt411.1)) = 3 then ((codec_reader_byte.f bt411.2.1 bt411.2.2.1 bt411.2.2.2).bind fun bt426 => (if bt426.2.2.2 = true then (some (wrap64 (bt411.1),wrap64 (bt426.1),(⟨#[]⟩ : ByteArray),0,([] : List (S24)),bt426.2.1,bt426.2.2.1,true)) else (some (wrap64 (bt411.1),wrap64 (bt426.1),(⟨#[]⟩ : ByteArray),0,([] : List (S24)),bt426.2.1,bt426.2.2.1,decide ((wrap64 (bt426.1)) > 1))))) else (if (wrap64 (bt411.1)) = 4 then (if bt411.2.2.2 = true then (codec_reader_value.j0 k bt411.2.1 bt411.2.2.1 true (wrap64 (bt411.1)) 0 (⟨#[]⟩ : ByteArray) 0) else (codec_reader_value.j0 k bt411.2.1 bt411.2.2.1 a1 (wrap64 (bt411.1)) 0 (⟨#[]⟩ : ByteArray) 0)) else (some (wrap64 (bt411.1),0,(⟨#[]⟩ : ByteArray),0,([] : List (S24)),bt411.2.1,bt411.2.2.1,true))))))
end
theorem codec_reader_value.mono_l : ∀ k,(∀ y0 y1 y2 y3,LeO (codec_reader_value.f k y0 y1 y2 y3) (codec_reader_value.f (k + 1) y0 y1 y2 y3)) ∧ (∀ y0 y1 y2 y3 y4 y5 y6,LeO (codec_reader_value.j0 k y0 y1 y2 y3 y4 y5 y6) (codec_reader_value.j0 (k + 1) y0 y1 y2 y3 y4 y5 y6)) ∧ (∀ y0 y1 y2 y3 y4 y5 y6 y7 y8 y9,LeO (codec_reader_value.l0 k y0 y1 y2 y3 y4 y5 y6 y7 y8 y9) (codec_reader_value.l0 (k + 1) y0 y1 y2 y3 y4 y5 y6 y7 y8 y9))
 | 0 => ⟨fun _ _ _ _ r h => by simp [codec_reader_value.f] at h,fun _ _ _ _ _ _ _ r h => by simp [codec_reader_value.j0] at h,fun _ _ _ _ _ _ _ _ _ _ r h => by simp [codec_reader_value.l0] at h⟩
 | k + 1 => by
  obtain ⟨ih0,ih1,ih2⟩:=codec_reader_value.mono_l k
  refine ⟨?_,?_,?_⟩
  ·intro y0 y1 y2 y3
   unfold codec_reader_value.f
   repeat' first
   | (with_reducible exact ih0 _ _ _ _)
   | (with_reducible exact ih1 _ _ _ _ _ _ _)
   | (with_reducible exact ih2 _ _ _ _ _ _ _ _ _ _)
   | (with_reducible exact codec_Int.mono _ _)
   | (with_reducible exact codec_reader_count.mono _ _ _ _ _)
   | (with_reducible exact codec_reader_text.mono _ _ _ _)
   | (with_reducible exact LeO.refl _)
   | (with_reducible exact LeO.none _)
   | (with_reducible refine LeO.ite ?_ ?_)
   | (with_reducible refine LeO.bind ?_ (fun _ => ?_))
   | exact ih0 _ _ _ _
   | exact ih1 _ _ _ _ _ _ _
   | exact ih2 _ _ _ _ _ _ _ _ _ _
   | exact codec_Int.mono _ _
   | exact codec_reader_count.mono _ _ _ _ _
   | exact codec_reader_text.mono _ _ _ _
   | exact LeO.none _
   | refine LeO.ite ?_ ?_
   | refine LeO.bind ?_ (fun _ => ?_)
  ·intro y0 y1 y2 y3 y4 y5 y6
   unfold codec_reader_value.j0
   repeat' first
   | (with_reducible exact ih0 _ _ _ _)
   | (with_reducible exact ih1 _ _ _ _ _ _ _)
   | (with_reducible exact ih2 _ _ _ _ _ _ _ _ _ _)
   | (with_reducible exact codec_Int.mono _ _)
   | (with_reducible exact codec_reader_count.mono _ _ _ _ _)
   | (with_reducible exact codec_reader_text.mono _ _ _ _)
   | (with_reducible exact LeO.refl _)
   | (with_reducible exact LeO.none _)
   | (with_reducible refine LeO.ite ?_ ?_)
   | (with_reducible refine LeO.bind ?_ (fun _ => ?_))
   | exact ih0 _ _ _ _
   | exact ih1 _ _ _ _ _ _ _
   | exact ih2 _ _ _ _ _ _ _ _ _ _
   | exact codec_Int.mono _ _
   | exact codec_reader_count.mono _ _ _ _ _
   | exact codec_reader_text.mono _ _ _ _
   | exact LeO.none _
   | refine LeO.ite ?_ ?_
   | refine LeO.bind ?_ (fun _ => ?_)
  ·intro y0 y1 y2 y3 y4 y5 y6 y7 y8 y9
   unfold codec_reader_value.l0
   repeat' first
   | (with_reducible exact ih0 _ _ _ _)
   | (with_reducible exact ih1 _ _ _ _ _ _ _)
   | (with_reducible exact ih2 _ _ _ _ _ _ _ _ _ _)
   | (with_reducible exact codec_Int.mono _ _)
   | (with_reducible exact codec_reader_count.mono _ _ _ _ _)
   | (with_reducible exact codec_reader_text.mono _ _ _ _)
   | (with_reducible exact LeO.refl _)
   | (with_reducible exact LeO.none _)
   | (with_reducible refine LeO.ite ?_ ?_)
   | (with_reducible refine LeO.bind ?_ (fun _ => ?_))
   | exact ih0 _ _ _ _
   | exact ih1 _ _ _ _ _ _ _
   | exact ih2 _ _ _ _ _ _ _ _ _ _
   | exact codec_Int.mono _ _
   | exact codec_reader_count.mono _ _ _ _ _
   | exact codec_reader_text.mono _ _ _ _
   | exact LeO.none _
   | refine LeO.ite ?_ ?_
   | refine LeO.bind ?_ (fun _ => ?_)
theorem codec_reader_value.mono : ∀ a0 a1 a2 a3 k,LeO (codec_reader_value.f k a0 a1 a2 a3) (codec_reader_value.f (k + 1) a0 a1 a2 a3):=by
 intro a0 a1 a2 a3 k
 obtain ⟨ih0,ih1,ih2⟩:=codec_reader_value.mono_l k
 exact ih0 a0 a1 a2 a3
def codec_reader_value.T18 : Bool × List (List Nat × List Nat):=(true,[([],[]),([0],[0]),([],[]),([2],[2]),([3],[3]),([1,4,3],[1,4]),([0,1,2,3,4,5],[]),([6,5,5,0,1,2,3,4,5],[5,6])])
def codec_reader_value.B18 : List Nat:=[0,1,0,4,12,31,63,127]
theorem codec_reader_value.tab18 : rtab .any (opsOf Try.f39 18) = codec_reader_value.T18:=by kernel_rfl
theorem codec_reader_value.bits18 : waitsOk codec_reader_value.T18.2 codec_reader_value.B18 = true:=by kernel_rfl
set_option maxHeartbeats 8000000 in
set_option maxRecDepth 100000 in
theorem codec_reader_value.calls (k : Nat) : ∀ (g : Nat) (s0_0 : List Int) (s0_1 : Int) (s0_2 : Bool) (a1 : Bool) (r1 : Int) (r2 : Int) (r3 : ByteArray) (r4 : Int) (r5 : List (S24)) (r6 : List Int) (r7 : Int) (r8 : Bool) (w0 w : World) (hI : IsS76 w0 w g s0_0 s0_1 s0_2) (hB : Below w0.heap.size w0 w) (h : codec_reader_value.f k s0_0 s0_1 s0_2 a1 = some (r1,r2,r3,r4,r5,r6,r7,r8)),
  Calls Try.prog 39 #[.pointer (some ⟨g,0,none⟩), .bool a1] w fun e w' => ∃ v4_ : Value,e = .returned (.agg #[.int .i64 r1, .int .i64 r2, .string r3, .int .i64 r4,v4_]) ∧ Kd.R k24 24 w' w.heap.size (fun _ => True) v4_ r5 ∧ IsS76 w0 w' g r6 r7 r8 ∧ Below w0.heap.size w0 w' ∧ KeepBut w w' g none:=by
 induction k using Nat.strongRecOn with
 | _ k ih =>
 intro g s0_0 s0_1 s0_2 a1 r1 r2 r3 r4 r5 r6 r7 r8 w0 w hI hB h
 cases k with
 | zero => exact absurd h (by simp [codec_reader_value.f])
 | succ k =>
 simp only [codec_reader_value.f] at h
 have hu24:=Try.underlying24
 have HI0:=Aside0.mk hI
 have HK:=Aside0.mk (KeepBut.refl w g none)
 have HL:=Aside0.mk hB.size
 clear hI
 have HW0:=Aside0.mk hB.size
 have HB:=Aside0.mk hB
 clear hB
 have H : ((codec_reader_byte.f s0_0 s0_1 s0_2).bind fun bt411 => (if (wrap64 (bt411.1)) = 1 then ((codec_Int.f k bt411.2.1).bind fun bt416 => ((codec_reader_takes.f bt411.2.1 bt411.2.2.1 bt411.2.2.2 bt416.2.1 bt416.2.2).bind fun bt419 => (some (wrap64 (bt411.1),bt416.1,(⟨#[]⟩ : ByteArray),0,([] : List (S24)),bt419.1,bt419.2.1,bt419.2.2)))) else (if (wrap64 (bt411.1)) = 2 then ((codec_reader_text.f k bt411.2.1 bt411.2.2.1 bt411.2.2.2).bind fun bt422 => (some (wrap64 (bt411.1),0,bt422.1,0,([] : List (S24)),bt422.2.1,bt422.2.2.1,bt422.2.2.2))) else (if (wrap64 (bt411.1)) = 3 then ((codec_reader_byte.f bt411.2.1 bt411.2.2.1 bt411.2.2.2).bind fun bt426 => (if bt426.2.2.2 = true then (some (wrap64 (bt411.1),wrap64 (bt426.1),(⟨#[]⟩ : ByteArray),0,([] : List (S24)),bt426.2.1,bt426.2.2.1,true)) else (some (wrap64 (bt411.1),wrap64 (bt426.1),(⟨#[]⟩ : ByteArray),0,([] : List (S24)),bt426.2.1,bt426.2.2.1,decide ((wrap64 (bt426.1)) > 1))))) else (if (wrap64 (bt411.1)) = 4 then (if bt411.2.2.2 = true then (codec_reader_value.j0 k bt411.2.1 bt411.2.2.1 true (wrap64 (bt411.1)) 0 (⟨#[]⟩ : ByteArray) 0) else (codec_reader_value.j0 k bt411.2.1 bt411.2.2.1 a1 (wrap64 (bt411.1)) 0 (⟨#[]⟩ : ByteArray) 0)) else (some (wrap64 (bt411.1),0,(⟨#[]⟩ : ByteArray),0,([] : List (S24)),bt411.2.1,bt411.2.2.1,true))))))) = some (r1,r2,r3,r4,r5,r6,r7,r8):=h
 clear h
 replace H:=Option.bind_eq_some_iff.mp H
 obtain ⟨⟨t411,t412,t413,t414⟩,A30,H⟩:=H
 replace H : (if (wrap64 (t411)) = 1 then ((codec_Int.f k t412).bind fun bt416 => ((codec_reader_takes.f t412 t413 t414 bt416.2.1 bt416.2.2).bind fun bt419 => (some (wrap64 (t411),bt416.1,(⟨#[]⟩ : ByteArray),0,([] : List (S24)),bt419.1,bt419.2.1,bt419.2.2)))) else (if (wrap64 (t411)) = 2 then ((codec_reader_text.f k t412 t413 t414).bind fun bt422 => (some (wrap64 (t411),0,bt422.1,0,([] : List (S24)),bt422.2.1,bt422.2.2.1,bt422.2.2.2))) else (if (wrap64 (t411)) = 3 then ((codec_reader_byte.f t412 t413 t414).bind fun bt426 => (if bt426.2.2.2 = true then (some (wrap64 (t411),wrap64 (bt426.1),(⟨#[]⟩ : ByteArray),0,([] : List (S24)),bt426.2.1,bt426.2.2.1,true)) else (some (wrap64 (t411),wrap64 (bt426.1),(⟨#[]⟩ : ByteArray),0,([] : List (S24)),bt426.2.1,bt426.2.2.1,decide ((wrap64 (bt426.1)) > 1))))) else (if (wrap64 (t411)) = 4 then (if t414 = true then (codec_reader_value.j0 k t412 t413 true (wrap64 (t411)) 0 (⟨#[]⟩ : ByteArray) 0) else (codec_reader_value.j0 k t412 t413 a1 (wrap64 (t411)) 0 (⟨#[]⟩ : ByteArray) 0)) else (some (wrap64 (t411),0,(⟨#[]⟩ : ByteArray),0,([] : List (S24)),t412,t413,true)))))) = some (r1,r2,r3,r4,r5,r6,r7,r8):=H
 have A3:=Aside0.mk A30
 clear A30
 by_cases c4 : (wrap64 (t411)) = 1
 ·rw [if_pos c4] at H
  have c4b0 : ((wrap64 (t411)) == 1) = true:=beq_iff_eq.mpr c4
  have c4b1 : ((wrap64 (t411)) != 1) = false:=bne_eq_false_iff_eq.mpr c4
  clear c4
  replace H:=Option.bind_eq_some_iff.mp H
  obtain ⟨⟨t416,t417,t418⟩,A50,H⟩:=H
  replace H : ((codec_reader_takes.f t412 t413 t414 t417 t418).bind fun bt419 => (some (wrap64 (t411),t416,(⟨#[]⟩ : ByteArray),0,([] : List (S24)),bt419.1,bt419.2.1,bt419.2.2))) = some (r1,r2,r3,r4,r5,r6,r7,r8):=H
  have A5:=Aside0.mk A50
  clear A50
  replace H:=Option.bind_eq_some_iff.mp H
  obtain ⟨⟨t419,t420,t421⟩,A60,H⟩:=H
  replace H : (some (wrap64 (t411),t416,(⟨#[]⟩ : ByteArray),0,([] : List (S24)),t419,t420,t421)) = some (r1,r2,r3,r4,r5,r6,r7,r8):=H
  have A6:=Aside0.mk A60
  clear A60
  simp only [Option.some.injEq,Prod.mk.injEq] at H
  obtain ⟨rfl,rfl,rfl,rfl,rfl,rfl,rfl,rfl⟩:=H
  go_enter Try.func39,Try.ntmps39
  go_wp2_with (first|((with_reducible refine gate_dst (N:=4) rfl ?_);refine box_event ?hg (N:=4) ?hd (cs:=#[.int .i64 0, .int .i64 0, .string (⟨#[]⟩ : ByteArray), .int .i64 0, .slice none 0 0]) (t:=24) ?hr ?_;(case hd => rfl);(case hg => rfl);(case hr => first|(go_simp;done)|(go_simp;rfl));intro gb410 hg w7 hbox hb;have n0_:=Aside0.mk (IsS76.below (by first|((repeat (first|(with_reducible first|exact HI0.out|apply IsS76.alloc|apply IsS76.drewN|apply IsS76.drew|apply IsS76.set_1|apply IsS76.set_2)|exact HI0.out));done)|((simp only [*]);(repeat (first|(with_reducible first|exact HI0.out|apply IsS76.alloc|apply IsS76.drewN|apply IsS76.drew|apply IsS76.set_1|apply IsS76.set_2)|exact HI0.out)))) hb);have n1_:=Aside0.mk (KeepBut.trans (by repeat (first|(with_reducible first|exact HK.out|apply KeepBut.set_|apply keep_drewN|apply keep_drew|apply keep_alloc)|exact HK.out)) (KeepBut.of_below hb g none) (.inl rfl));have n2_:=Aside0.mk (below_step (by repeat (first|(with_reducible first|exact HB.out|apply below_alloc|apply pw_below_drewN|apply below_drew1|refine below_set ?_ (IsS76.ge HI0.out))|exact HB.out)) hb);have n3_:=Aside0.mk (hbox);have n4_:=Aside0.mk ((by rw [hg];exact (keep_size (w:=w) (g:=g) (row:=none) (by repeat (first|(with_reducible first|exact HK.out|apply KeepBut.set_|apply keep_drewN|apply keep_drew|apply keep_alloc)|exact HK.out))) : w.heap.size ≤ gb410));have n5_:=Aside0.mk ((Nat.le_trans HW0.out (by rw [hg];exact (keep_size (w:=w) (g:=g) (row:=none) (by repeat (first|(with_reducible first|exact HK.out|apply KeepBut.set_|apply keep_drewN|apply keep_drew|apply keep_alloc)|exact HK.out))) : w.heap.size ≤ gb410) : w0.heap.size ≤ gb410));have n6_:=Aside0.mk ((by rw [hg];exact Nat.ne_of_lt (IsS76.lt (show IsS76 w0 _ g s0_0 s0_1 s0_2 from by first|((repeat (first|(with_reducible first|exact HI0.out|apply IsS76.alloc|apply IsS76.drewN|apply IsS76.drew|apply IsS76.set_1|apply IsS76.set_2)|exact HI0.out));done)|((simp only [*]);(repeat (first|(with_reducible first|exact HI0.out|apply IsS76.alloc|apply IsS76.drewN|apply IsS76.drew|apply IsS76.set_1|apply IsS76.set_2)|exact HI0.out))))) : g ≠ gb410));have n7_:=Aside0.mk ((by rw [hg];exact Nat.ne_of_gt (IsS76.lt (show IsS76 w0 _ g s0_0 s0_1 s0_2 from by first|((repeat (first|(with_reducible first|exact HI0.out|apply IsS76.alloc|apply IsS76.drewN|apply IsS76.drew|apply IsS76.set_1|apply IsS76.set_2)|exact HI0.out));done)|((simp only [*]);(repeat (first|(with_reducible first|exact HI0.out|apply IsS76.alloc|apply IsS76.drewN|apply IsS76.drew|apply IsS76.set_1|apply IsS76.set_2)|exact HI0.out))))) : gb410 ≠ g));clear HI0;clear HK;clear HB;have HI0:=n0_;have HK:=n1_;have HB:=n2_;have BK410:=n3_;have GW410:=n4_;have GE410:=n5_;have NB0_410:=n6_;have NB410_0:=n7_;clear n0_ n1_ n2_ n3_ n4_ n5_ n6_ n7_;clear hb hbox hg)|((with_reducible refine gate_callee (f:=46) rfl ?_);refine goesL_ (some 10) rfl rfl Try.func46 (by kernel_rfl) rfl #[.pointer (some ⟨g,0,none⟩)] rfl (by (try simp only [List.map_toArray,List.map_cons,List.map_nil]);first|done|rfl|(simp only [List.length_drop,List.length_take];rfl)|(go_simp;done)|(go_simp;simp;done)) ?_;(with_reducible refine (codec_reader_byte.calls g s0_0 s0_1 s0_2 t411 t412 t413 t414 w0 _ ?side1 ?side2 A3.out).mono ?_);(case side1 => first|((repeat (first|(with_reducible first|exact HI0.out|apply IsS76.alloc|apply IsS76.drewN|apply IsS76.drew|apply IsS76.set_1|apply IsS76.set_2|refine IsS76.far ?_ NB0_410.out _|(apply IsS76.far;case hne => exact NB0_410.out))|exact HI0.out));done)|((simp only [*]);(repeat (first|(with_reducible first|exact HI0.out|apply IsS76.alloc|apply IsS76.drewN|apply IsS76.drew|apply IsS76.set_1|apply IsS76.set_2|refine IsS76.far ?_ NB0_410.out _|(apply IsS76.far;case hne => exact NB0_410.out))|exact HI0.out))));(case side2 => repeat (first|(with_reducible first|exact HB.out|apply below_alloc|apply pw_below_drewN|apply below_drew1|refine below_set ?_ (IsS76.ge HI0.out)|refine below_set ?_ GE410.out)|exact HB.out));rintro e w8 ⟨rfl,hi,hb,hk⟩;refine ⟨_,rfl,?_⟩;have n0_:=Aside0.mk (KeepBut.blk hk (g':=gb410) (o := .cells #[.int .i64 0, .int .i64 0, .string (⟨#[]⟩ : ByteArray), .int .i64 0, .slice none 0 0] 24 (0,0)) (by (with_reducible repeat (first|refine blk_drewN ?_ _|refine blk_drew ?_|refine blk_alloc ?_ _));exact BK410.out) NB410_0.out (by simp));have n1_:=Aside0.mk (KeepBut.trans (by repeat (first|(with_reducible first|exact HK.out|apply KeepBut.set_|apply keep_drewN|apply keep_drew|apply keep_alloc|refine keep_far ?_ GW410.out _)|exact HK.out)) hk (.inl rfl));have n2_:=Aside0.mk (hb);have n3_:=Aside0.mk (hi);clear BK410;clear HK;clear HB;clear HI0;have BK410:=n0_;have HK:=n1_;have HB:=n2_;have HI0:=n3_;clear n0_ n1_ n2_ n3_;(try clear hb);(try clear hb2);(try clear hk);(try clear hi))|((with_reducible refine gate_dst (N:=5) rfl ?_);refine box_event ?hg (N:=5) ?hd (cs:=#[.int .i64 0, .int .i64 0, .string (⟨#[]⟩ : ByteArray), .int .i64 0, .slice none 0 0]) (t:=24) ?hr ?_;(case hd => rfl);(case hg => rfl);(case hr => first|(go_simp;done)|(go_simp;rfl));intro gb415 hg w9 hbox hb;have n0_:=Aside0.mk (IsS76.below (by first|((repeat (first|(with_reducible first|exact HI0.out|apply IsS76.alloc|apply IsS76.drewN|apply IsS76.drew|apply IsS76.set_1|apply IsS76.set_2|refine IsS76.far ?_ NB0_410.out _|(apply IsS76.far;case hne => exact NB0_410.out))|exact HI0.out));done)|((simp only [*]);(repeat (first|(with_reducible first|exact HI0.out|apply IsS76.alloc|apply IsS76.drewN|apply IsS76.drew|apply IsS76.set_1|apply IsS76.set_2|refine IsS76.far ?_ NB0_410.out _|(apply IsS76.far;case hne => exact NB0_410.out))|exact HI0.out)))) hb);have n1_:=Aside0.mk (blk_below (g:=gb410) (o := .cells #[.int .i64 0, .int .i64 0, .string (⟨#[]⟩ : ByteArray), .int .i64 0, .slice none 0 0] 24 (0,0)) (by (with_reducible repeat (first|refine blk_drewN ?_ _|refine blk_drew ?_|refine blk_alloc ?_ _));exact BK410.out) hb);have n2_:=Aside0.mk (KeepBut.trans (by repeat (first|(with_reducible first|exact HK.out|apply KeepBut.set_|apply keep_drewN|apply keep_drew|apply keep_alloc|refine keep_far ?_ GW410.out _)|exact HK.out)) (KeepBut.of_below hb g none) (.inl rfl));have n3_:=Aside0.mk (below_step (by repeat (first|(with_reducible first|exact HB.out|apply below_alloc|apply pw_below_drewN|apply below_drew1|refine below_set ?_ (IsS76.ge HI0.out)|refine below_set ?_ GE410.out)|exact HB.out)) hb);have n4_:=Aside0.mk (hbox);have n5_:=Aside0.mk ((by rw [hg];exact (keep_size (w:=w) (g:=g) (row:=none) (by repeat (first|(with_reducible first|exact HK.out|apply KeepBut.set_|apply keep_drewN|apply keep_drew|apply keep_alloc|refine keep_far ?_ GW410.out _)|exact HK.out))) : w.heap.size ≤ gb415));have n6_:=Aside0.mk ((Nat.le_trans HW0.out (by rw [hg];exact (keep_size (w:=w) (g:=g) (row:=none) (by repeat (first|(with_reducible first|exact HK.out|apply KeepBut.set_|apply keep_drewN|apply keep_drew|apply keep_alloc|refine keep_far ?_ GW410.out _)|exact HK.out))) : w.heap.size ≤ gb415) : w0.heap.size ≤ gb415));have n7_:=Aside0.mk ((by rw [hg];exact Nat.ne_of_lt (blk_lt (g:=gb410) (o := .cells #[.int .i64 0, .int .i64 0, .string (⟨#[]⟩ : ByteArray), .int .i64 0, .slice none 0 0] 24 (0,0)) (by (with_reducible repeat (first|refine blk_drewN ?_ _|refine blk_drew ?_|refine blk_alloc ?_ _));exact BK410.out)) : gb410 ≠ gb415));have n8_:=Aside0.mk ((by rw [hg];exact Nat.ne_of_gt (blk_lt (g:=gb410) (o := .cells #[.int .i64 0, .int .i64 0, .string (⟨#[]⟩ : ByteArray), .int .i64 0, .slice none 0 0] 24 (0,0)) (by (with_reducible repeat (first|refine blk_drewN ?_ _|refine blk_drew ?_|refine blk_alloc ?_ _));exact BK410.out)) : gb415 ≠ gb410));have n9_:=Aside0.mk ((by rw [hg];exact Nat.ne_of_lt (IsS76.lt (show IsS76 w0 _ g t412 t413 t414 from by first|((repeat (first|(with_reducible first|exact HI0.out|apply IsS76.alloc|apply IsS76.drewN|apply IsS76.drew|apply IsS76.set_1|apply IsS76.set_2|refine IsS76.far ?_ NB0_410.out _|(apply IsS76.far;case hne => exact NB0_410.out))|exact HI0.out));done)|((simp only [*]);(repeat (first|(with_reducible first|exact HI0.out|apply IsS76.alloc|apply IsS76.drewN|apply IsS76.drew|apply IsS76.set_1|apply IsS76.set_2|refine IsS76.far ?_ NB0_410.out _|(apply IsS76.far;case hne => exact NB0_410.out))|exact HI0.out))))) : g ≠ gb415));have n10_:=Aside0.mk ((by rw [hg];exact Nat.ne_of_gt (IsS76.lt (show IsS76 w0 _ g t412 t413 t414 from by first|((repeat (first|(with_reducible first|exact HI0.out|apply IsS76.alloc|apply IsS76.drewN|apply IsS76.drew|apply IsS76.set_1|apply IsS76.set_2|refine IsS76.far ?_ NB0_410.out _|(apply IsS76.far;case hne => exact NB0_410.out))|exact HI0.out));done)|((simp only [*]);(repeat (first|(with_reducible first|exact HI0.out|apply IsS76.alloc|apply IsS76.drewN|apply IsS76.drew|apply IsS76.set_1|apply IsS76.set_2|refine IsS76.far ?_ NB0_410.out _|(apply IsS76.far;case hne => exact NB0_410.out))|exact HI0.out))))) : gb415 ≠ g));clear HI0;clear BK410;clear HK;clear HB;have HI0:=n0_;have BK410:=n1_;have HK:=n2_;have HB:=n3_;have BK415:=n4_;have GW415:=n5_;have GE415:=n6_;have NB410_415:=n7_;have NB415_410:=n8_;have NB0_415:=n9_;have NB415_0:=n10_;clear n0_ n1_ n2_ n3_ n4_ n5_ n6_ n7_ n8_ n9_ n10_;clear hb hbox hg;have hnb10:=NB415_410.out;have hnc10:=NB410_415.out;have hnb11:=NB415_0.out;have hnc11:=NB0_415.out;have hcz12_0 : w9.cell? ⟨gb415,0,none⟩ = some (.int .i64 0):=(blk_cell BK415.out 0).trans rfl;have hcz12_1 : w9.cell? ⟨gb415,1,none⟩ = some (.int .i64 0):=(blk_cell BK415.out 1).trans rfl;have hcz12_2 : w9.cell? ⟨gb415,2,none⟩ = some (.string (⟨#[]⟩ : ByteArray)):=(blk_cell BK415.out 2).trans rfl;have hcz12_3 : w9.cell? ⟨gb415,3,none⟩ = some (.int .i64 0):=(blk_cell BK415.out 3).trans rfl;have hcz12_4 : w9.cell? ⟨gb415,4,none⟩ = some (.slice none 0 0):=(blk_cell BK415.out 4).trans rfl;have hfz12_0:=blk_frozen BK415.out 0;have hfz12_1:=blk_frozen BK415.out 1;have hfz12_2:=blk_frozen BK415.out 2;have hfz12_3:=blk_frozen BK415.out 3;have hfz12_4:=blk_frozen BK415.out 4;obtain ⟨ASz13_0,cSz13_0,HGz13,hgz13,HSz13_0,hlSz13_0⟩:=HI0.out;have hcz13_0:=cellS76_0 HGz13;have hcz13_1:=cellS76_1 HGz13;have hcz13_2:=cellS76_2 HGz13;have hfz13_0:=blk_frozen HGz13 0;have hfz13_1:=blk_frozen HGz13 1;have hfz13_2:=blk_frozen HGz13 2;clear HGz13 hgz13)|((with_reducible refine gate_callee (f:=24) rfl ?_);refine goesL_ (some 25) rfl rfl Try.func24 (by kernel_rfl) rfl #[.slice ASz13_0 t412.length cSz13_0] rfl (by (try simp only [List.map_toArray,List.map_cons,List.map_nil]);first|done|rfl|(simp only [List.length_drop,List.length_take];rfl)|(go_simp;done)|(go_simp;simp;done)) ?_;(with_reducible refine (codec_Int.calls k _ _ t412 t416 t417 t418 _ ?side1 ?side2 A5.out).mono ?_);(case side1 => exact Kd.C_below HSz13_0 (by repeat (first|(with_reducible first|exact HB.out|apply below_alloc|apply pw_below_drewN|apply below_drew1|refine below_set ?_ (IsS76.ge HI0.out)|refine below_set ?_ GE410.out|refine below_set ?_ GE415.out)|exact HB.out)));(case side2 => exact hlSz13_0);rintro e w' ⟨rfl,⟨nd,rfl⟩⟩;refine ⟨_,rfl,?_⟩)|((with_reducible refine gate_callee (f:=47) rfl ?_);refine goesL_ (some 32) rfl rfl Try.func47 (by kernel_rfl) rfl #[.pointer (some ⟨g,0,none⟩), .int .i64 t417, .int .i64 t418] rfl (by (try simp only [List.map_toArray,List.map_cons,List.map_nil]);first|done|rfl|(simp only [List.length_drop,List.length_take];rfl)|(go_simp;done)|(go_simp;simp;done)) ?_;(with_reducible refine (codec_reader_takes.calls g t412 t413 t414 t417 t418 t419 t420 t421 w0 _ ?side1 ?side2 A6.out).mono ?_);(case side1 => first|((repeat (first|(with_reducible first|exact HI0.out|apply IsS76.alloc|apply IsS76.drewN|apply IsS76.drew|apply IsS76.set_1|apply IsS76.set_2|refine IsS76.far ?_ NB0_410.out _|(apply IsS76.far;case hne => exact NB0_410.out)|refine IsS76.far ?_ NB0_415.out _|(apply IsS76.far;case hne => exact NB0_415.out))|exact HI0.out));done)|((simp only [*]);(repeat (first|(with_reducible first|exact HI0.out|apply IsS76.alloc|apply IsS76.drewN|apply IsS76.drew|apply IsS76.set_1|apply IsS76.set_2|refine IsS76.far ?_ NB0_410.out _|(apply IsS76.far;case hne => exact NB0_410.out)|refine IsS76.far ?_ NB0_415.out _|(apply IsS76.far;case hne => exact NB0_415.out))|exact HI0.out))));(case side2 => repeat (first|(with_reducible first|exact HB.out|apply below_alloc|apply pw_below_drewN|apply below_drew1|refine below_set ?_ (IsS76.ge HI0.out)|refine below_set ?_ GE410.out|refine below_set ?_ GE415.out)|exact HB.out));rintro e w14 ⟨rfl,hi,hb,hk⟩;refine ⟨_,rfl,?_⟩;have n0_:=Aside0.mk (KeepBut.blk hk (g':=gb410) (o := .cells #[.int .i64 0, .int .i64 0, .string (⟨#[]⟩ : ByteArray), .int .i64 0, .slice none 0 0] 24 (0,0)) (by (with_reducible repeat (first|refine blk_drewN ?_ _|refine blk_drew ?_|refine blk_alloc ?_ _));refine blk_far ?_ NB410_415.out _;(with_reducible repeat (first|refine blk_drewN ?_ _|refine blk_drew ?_|refine blk_alloc ?_ _));refine blk_far ?_ NB410_415.out _;(with_reducible repeat (first|refine blk_drewN ?_ _|refine blk_drew ?_|refine blk_alloc ?_ _));refine blk_far ?_ NB410_415.out _;(with_reducible repeat (first|refine blk_drewN ?_ _|refine blk_drew ?_|refine blk_alloc ?_ _));refine blk_far ?_ NB410_415.out _;(with_reducible repeat (first|refine blk_drewN ?_ _|refine blk_drew ?_|refine blk_alloc ?_ _));refine blk_far ?_ NB410_415.out _;(with_reducible repeat (first|refine blk_drewN ?_ _|refine blk_drew ?_|refine blk_alloc ?_ _));exact BK410.out) NB410_0.out (by simp));have n1_:=Aside0.mk (KeepBut.blk hk (g':=gb415) (o := .cells #[.int .i64 (wrap64 (t411)), .int .i64 0, .string (⟨#[]⟩ : ByteArray), .int .i64 0, .slice none 0 0] 24 (0,0)) (by (with_reducible repeat (first|refine blk_drewN ?_ _|refine blk_drew ?_|refine blk_alloc ?_ _));refine blk_put (cs:=#[.int .i64 (wrap64 (t411)), .int .i64 0, .string (⟨#[]⟩ : ByteArray), .int .i64 0, .slice none 0 0]) ?_ 4 _ rfl;(with_reducible repeat (first|refine blk_drewN ?_ _|refine blk_drew ?_|refine blk_alloc ?_ _));refine blk_put (cs:=#[.int .i64 (wrap64 (t411)), .int .i64 0, .string (⟨#[]⟩ : ByteArray), .int .i64 0, .slice none 0 0]) ?_ 3 _ rfl;(with_reducible repeat (first|refine blk_drewN ?_ _|refine blk_drew ?_|refine blk_alloc ?_ _));refine blk_put (cs:=#[.int .i64 (wrap64 (t411)), .int .i64 0, .string (⟨#[]⟩ : ByteArray), .int .i64 0, .slice none 0 0]) ?_ 2 _ rfl;(with_reducible repeat (first|refine blk_drewN ?_ _|refine blk_drew ?_|refine blk_alloc ?_ _));refine blk_put (cs:=#[.int .i64 (wrap64 (t411)), .int .i64 0, .string (⟨#[]⟩ : ByteArray), .int .i64 0, .slice none 0 0]) ?_ 1 _ rfl;(with_reducible repeat (first|refine blk_drewN ?_ _|refine blk_drew ?_|refine blk_alloc ?_ _));refine blk_put (cs:=#[.int .i64 0, .int .i64 0, .string (⟨#[]⟩ : ByteArray), .int .i64 0, .slice none 0 0]) ?_ 0 _ rfl;(with_reducible repeat (first|refine blk_drewN ?_ _|refine blk_drew ?_|refine blk_alloc ?_ _));exact BK415.out) NB415_0.out (by simp));have n2_:=Aside0.mk (KeepBut.trans (by repeat (first|(with_reducible first|exact HK.out|apply KeepBut.set_|apply keep_drewN|apply keep_drew|apply keep_alloc|refine keep_far ?_ GW410.out _|refine keep_far ?_ GW415.out _)|exact HK.out)) hk (.inl rfl));have n3_:=Aside0.mk (hb);have n4_:=Aside0.mk (hi);clear BK410;clear BK415;clear HK;clear HB;clear HI0;have BK410:=n0_;have BK415:=n1_;have HK:=n2_;have HB:=n3_;have HI0:=n4_;clear n0_ n1_ n2_ n3_ n4_;(try clear hb);(try clear hb2);(try clear hk);(try clear hi);have hcz15_0 : w14.cell? ⟨gb415,0,none⟩ = some (.int .i64 (wrap64 (t411))):=(blk_cell BK415.out 0).trans rfl;have hcz15_1 : w14.cell? ⟨gb415,1,none⟩ = some (.int .i64 0):=(blk_cell BK415.out 1).trans rfl;have hcz15_2 : w14.cell? ⟨gb415,2,none⟩ = some (.string (⟨#[]⟩ : ByteArray)):=(blk_cell BK415.out 2).trans rfl;have hcz15_3 : w14.cell? ⟨gb415,3,none⟩ = some (.int .i64 0):=(blk_cell BK415.out 3).trans rfl;have hcz15_4 : w14.cell? ⟨gb415,4,none⟩ = some (.slice none 0 0):=(blk_cell BK415.out 4).trans rfl;have hfz15_0:=blk_frozen BK415.out 0;have hfz15_1:=blk_frozen BK415.out 1;have hfz15_2:=blk_frozen BK415.out 2;have hfz15_3:=blk_frozen BK415.out 3;have hfz15_4:=blk_frozen BK415.out 4;have hnb16:=NB410_0.out;have hnc16:=NB0_410.out;have hcz17_0 : w14.cell? ⟨gb410,0,none⟩ = some (.int .i64 0):=(blk_cell BK410.out 0).trans rfl;have hcz17_1 : w14.cell? ⟨gb410,1,none⟩ = some (.int .i64 0):=(blk_cell BK410.out 1).trans rfl;have hcz17_2 : w14.cell? ⟨gb410,2,none⟩ = some (.string (⟨#[]⟩ : ByteArray)):=(blk_cell BK410.out 2).trans rfl;have hcz17_3 : w14.cell? ⟨gb410,3,none⟩ = some (.int .i64 0):=(blk_cell BK410.out 3).trans rfl;have hcz17_4 : w14.cell? ⟨gb410,4,none⟩ = some (.slice none 0 0):=(blk_cell BK410.out 4).trans rfl;have hfz17_0:=blk_frozen BK410.out 0;have hfz17_1:=blk_frozen BK410.out 1;have hfz17_2:=blk_frozen BK410.out 2;have hfz17_3:=blk_frozen BK410.out 3;have hfz17_4:=blk_frozen BK410.out 4))
  refine bodyPost_ret (results_cell_row rfl _ _ gb410 24 #[.int .i64 (wrap64 (t411)), .int .i64 t416, .string (⟨#[]⟩ : ByteArray), .int .i64 0, .slice none 0 0] (0,0) _ rfl (by (with_reducible repeat (first|refine blk_drewN ?_ _|refine blk_drew ?_|refine blk_alloc ?_ _));refine blk_put (cs:=#[.int .i64 (wrap64 (t411)), .int .i64 t416, .string (⟨#[]⟩ : ByteArray), .int .i64 0, .slice none 0 0]) ?_ 4 _ rfl;(with_reducible repeat (first|refine blk_drewN ?_ _|refine blk_drew ?_|refine blk_alloc ?_ _));refine blk_put (cs:=#[.int .i64 (wrap64 (t411)), .int .i64 t416, .string (⟨#[]⟩ : ByteArray), .int .i64 0, .slice none 0 0]) ?_ 3 _ rfl;(with_reducible repeat (first|refine blk_drewN ?_ _|refine blk_drew ?_|refine blk_alloc ?_ _));refine blk_put (cs:=#[.int .i64 (wrap64 (t411)), .int .i64 t416, .string (⟨#[]⟩ : ByteArray), .int .i64 0, .slice none 0 0]) ?_ 2 _ rfl;(with_reducible repeat (first|refine blk_drewN ?_ _|refine blk_drew ?_|refine blk_alloc ?_ _));refine blk_put (cs:=#[.int .i64 (wrap64 (t411)), .int .i64 0, .string (⟨#[]⟩ : ByteArray), .int .i64 0, .slice none 0 0]) ?_ 1 _ rfl;(with_reducible repeat (first|refine blk_drewN ?_ _|refine blk_drew ?_|refine blk_alloc ?_ _));refine blk_put (cs:=#[.int .i64 0, .int .i64 0, .string (⟨#[]⟩ : ByteArray), .int .i64 0, .slice none 0 0]) ?_ 0 _ rfl;(with_reducible repeat (first|refine blk_drewN ?_ _|refine blk_drew ?_|refine blk_alloc ?_ _));refine blk_far ?_ NB410_415.out _;(with_reducible repeat (first|refine blk_drewN ?_ _|refine blk_drew ?_|refine blk_alloc ?_ _));exact BK410.out) Try.underlying24 rfl (by kernel_rfl)) rfl ?_
  exact ⟨_,by first|rfl|(simp [errW_none,errW_some] <;> rfl)|(simp [*,errW_none,errW_some] <;> rfl),by first|exact Kd.R_nil _ _ _ _ _|exact Kd.N_nil _ _ _ _ _|exact Kd.V_nil _ _ _ _ _|exact Kd.Q_nil _ _ _ _ _|exact Kd.S_nil _ _ _ _ _,by first|((repeat (first|(with_reducible first|exact HI0.out|apply IsS76.alloc|apply IsS76.drewN|apply IsS76.drew|apply IsS76.set_1|apply IsS76.set_2|refine IsS76.far ?_ NB0_410.out _|(apply IsS76.far;case hne => exact NB0_410.out)|refine IsS76.far ?_ NB0_415.out _|(apply IsS76.far;case hne => exact NB0_415.out))|exact HI0.out));done)|((simp only [*]);(repeat (first|(with_reducible first|exact HI0.out|apply IsS76.alloc|apply IsS76.drewN|apply IsS76.drew|apply IsS76.set_1|apply IsS76.set_2|refine IsS76.far ?_ NB0_410.out _|(apply IsS76.far;case hne => exact NB0_410.out)|refine IsS76.far ?_ NB0_415.out _|(apply IsS76.far;case hne => exact NB0_415.out))|exact HI0.out))),by repeat (first|(with_reducible first|exact HB.out|apply below_alloc|apply pw_below_drewN|apply below_drew1|refine below_set ?_ (IsS76.ge HI0.out)|refine below_set ?_ GE410.out|refine below_set ?_ GE415.out)|exact HB.out),by repeat (first|(with_reducible first|exact HK.out|apply KeepBut.set_|apply keep_drewN|apply keep_drew|apply keep_alloc|refine keep_far ?_ GW410.out _|refine keep_far ?_ GW415.out _)|exact HK.out)⟩
 ·rw [if_neg c4] at H
  have c4b0 : ((wrap64 (t411)) == 1) = false:=beq_eq_false_iff_ne.mpr c4
  have c4b1 : ((wrap64 (t411)) != 1) = true:=bne_iff_ne.mpr c4
  by_cases c18 : (wrap64 (t411)) = 2
  ·rw [if_pos c18] at H
   have c18b0 : ((wrap64 (t411)) == 2) = true:=beq_iff_eq.mpr c18
   have c18b1 : ((wrap64 (t411)) != 2) = false:=bne_eq_false_iff_eq.mpr c18
   clear c18
   replace H:=Option.bind_eq_some_iff.mp H
   obtain ⟨⟨t422,t423,t424,t425⟩,A190,H⟩:=H
   replace H : (some (wrap64 (t411),0,t422,0,([] : List (S24)),t423,t424,t425)) = some (r1,r2,r3,r4,r5,r6,r7,r8):=H
   have A19:=Aside0.mk A190
   clear A190
   simp only [Option.some.injEq,Prod.mk.injEq] at H
   obtain ⟨rfl,rfl,rfl,rfl,rfl,rfl,rfl,rfl⟩:=H
   go_enter Try.func39,Try.ntmps39
   go_wp2_with (first|((with_reducible refine gate_dst (N:=4) rfl ?_);refine box_event ?hg (N:=4) ?hd (cs:=#[.int .i64 0, .int .i64 0, .string (⟨#[]⟩ : ByteArray), .int .i64 0, .slice none 0 0]) (t:=24) ?hr ?_;(case hd => rfl);(case hg => rfl);(case hr => first|(go_simp;done)|(go_simp;rfl));intro gb410 hg w20 hbox hb;have n0_:=Aside0.mk (IsS76.below (by first|((repeat (first|(with_reducible first|exact HI0.out|apply IsS76.alloc|apply IsS76.drewN|apply IsS76.drew|apply IsS76.set_1|apply IsS76.set_2)|exact HI0.out));done)|((simp only [*]);(repeat (first|(with_reducible first|exact HI0.out|apply IsS76.alloc|apply IsS76.drewN|apply IsS76.drew|apply IsS76.set_1|apply IsS76.set_2)|exact HI0.out)))) hb);have n1_:=Aside0.mk (KeepBut.trans (by repeat (first|(with_reducible first|exact HK.out|apply KeepBut.set_|apply keep_drewN|apply keep_drew|apply keep_alloc)|exact HK.out)) (KeepBut.of_below hb g none) (.inl rfl));have n2_:=Aside0.mk (below_step (by repeat (first|(with_reducible first|exact HB.out|apply below_alloc|apply pw_below_drewN|apply below_drew1|refine below_set ?_ (IsS76.ge HI0.out))|exact HB.out)) hb);have n3_:=Aside0.mk (hbox);have n4_:=Aside0.mk ((by rw [hg];exact (keep_size (w:=w) (g:=g) (row:=none) (by repeat (first|(with_reducible first|exact HK.out|apply KeepBut.set_|apply keep_drewN|apply keep_drew|apply keep_alloc)|exact HK.out))) : w.heap.size ≤ gb410));have n5_:=Aside0.mk ((Nat.le_trans HW0.out (by rw [hg];exact (keep_size (w:=w) (g:=g) (row:=none) (by repeat (first|(with_reducible first|exact HK.out|apply KeepBut.set_|apply keep_drewN|apply keep_drew|apply keep_alloc)|exact HK.out))) : w.heap.size ≤ gb410) : w0.heap.size ≤ gb410));have n6_:=Aside0.mk ((by rw [hg];exact Nat.ne_of_lt (IsS76.lt (show IsS76 w0 _ g s0_0 s0_1 s0_2 from by first|((repeat (first|(with_reducible first|exact HI0.out|apply IsS76.alloc|apply IsS76.drewN|apply IsS76.drew|apply IsS76.set_1|apply IsS76.set_2)|exact HI0.out));done)|((simp only [*]);(repeat (first|(with_reducible first|exact HI0.out|apply IsS76.alloc|apply IsS76.drewN|apply IsS76.drew|apply IsS76.set_1|apply IsS76.set_2)|exact HI0.out))))) : g ≠ gb410));have n7_:=Aside0.mk ((by rw [hg];exact Nat.ne_of_gt (IsS76.lt (show IsS76 w0 _ g s0_0 s0_1 s0_2 from by first|((repeat (first|(with_reducible first|exact HI0.out|apply IsS76.alloc|apply IsS76.drewN|apply IsS76.drew|apply IsS76.set_1|apply IsS76.set_2)|exact HI0.out));done)|((simp only [*]);(repeat (first|(with_reducible first|exact HI0.out|apply IsS76.alloc|apply IsS76.drewN|apply IsS76.drew|apply IsS76.set_1|apply IsS76.set_2)|exact HI0.out))))) : gb410 ≠ g));clear HI0;clear HK;clear HB;have HI0:=n0_;have HK:=n1_;have HB:=n2_;have BK410:=n3_;have GW410:=n4_;have GE410:=n5_;have NB0_410:=n6_;have NB410_0:=n7_;clear n0_ n1_ n2_ n3_ n4_ n5_ n6_ n7_;clear hb hbox hg)|((with_reducible refine gate_callee (f:=46) rfl ?_);refine goesL_ (some 10) rfl rfl Try.func46 (by kernel_rfl) rfl #[.pointer (some ⟨g,0,none⟩)] rfl (by (try simp only [List.map_toArray,List.map_cons,List.map_nil]);first|done|rfl|(simp only [List.length_drop,List.length_take];rfl)|(go_simp;done)|(go_simp;simp;done)) ?_;(with_reducible refine (codec_reader_byte.calls g s0_0 s0_1 s0_2 t411 t412 t413 t414 w0 _ ?side1 ?side2 A3.out).mono ?_);(case side1 => first|((repeat (first|(with_reducible first|exact HI0.out|apply IsS76.alloc|apply IsS76.drewN|apply IsS76.drew|apply IsS76.set_1|apply IsS76.set_2|refine IsS76.far ?_ NB0_410.out _|(apply IsS76.far;case hne => exact NB0_410.out))|exact HI0.out));done)|((simp only [*]);(repeat (first|(with_reducible first|exact HI0.out|apply IsS76.alloc|apply IsS76.drewN|apply IsS76.drew|apply IsS76.set_1|apply IsS76.set_2|refine IsS76.far ?_ NB0_410.out _|(apply IsS76.far;case hne => exact NB0_410.out))|exact HI0.out))));(case side2 => repeat (first|(with_reducible first|exact HB.out|apply below_alloc|apply pw_below_drewN|apply below_drew1|refine below_set ?_ (IsS76.ge HI0.out)|refine below_set ?_ GE410.out)|exact HB.out));rintro e w21 ⟨rfl,hi,hb,hk⟩;refine ⟨_,rfl,?_⟩;have n0_:=Aside0.mk (KeepBut.blk hk (g':=gb410) (o := .cells #[.int .i64 0, .int .i64 0, .string (⟨#[]⟩ : ByteArray), .int .i64 0, .slice none 0 0] 24 (0,0)) (by (with_reducible repeat (first|refine blk_drewN ?_ _|refine blk_drew ?_|refine blk_alloc ?_ _));exact BK410.out) NB410_0.out (by simp));have n1_:=Aside0.mk (KeepBut.trans (by repeat (first|(with_reducible first|exact HK.out|apply KeepBut.set_|apply keep_drewN|apply keep_drew|apply keep_alloc|refine keep_far ?_ GW410.out _)|exact HK.out)) hk (.inl rfl));have n2_:=Aside0.mk (hb);have n3_:=Aside0.mk (hi);clear BK410;clear HK;clear HB;clear HI0;have BK410:=n0_;have HK:=n1_;have HB:=n2_;have HI0:=n3_;clear n0_ n1_ n2_ n3_;(try clear hb);(try clear hb2);(try clear hk);(try clear hi))|((with_reducible refine gate_dst (N:=5) rfl ?_);refine box_event ?hg (N:=5) ?hd (cs:=#[.int .i64 0, .int .i64 0, .string (⟨#[]⟩ : ByteArray), .int .i64 0, .slice none 0 0]) (t:=24) ?hr ?_;(case hd => rfl);(case hg => rfl);(case hr => first|(go_simp;done)|(go_simp;rfl));intro gb415 hg w22 hbox hb;have n0_:=Aside0.mk (IsS76.below (by first|((repeat (first|(with_reducible first|exact HI0.out|apply IsS76.alloc|apply IsS76.drewN|apply IsS76.drew|apply IsS76.set_1|apply IsS76.set_2|refine IsS76.far ?_ NB0_410.out _|(apply IsS76.far;case hne => exact NB0_410.out))|exact HI0.out));done)|((simp only [*]);(repeat (first|(with_reducible first|exact HI0.out|apply IsS76.alloc|apply IsS76.drewN|apply IsS76.drew|apply IsS76.set_1|apply IsS76.set_2|refine IsS76.far ?_ NB0_410.out _|(apply IsS76.far;case hne => exact NB0_410.out))|exact HI0.out)))) hb);have n1_:=Aside0.mk (blk_below (g:=gb410) (o := .cells #[.int .i64 0, .int .i64 0, .string (⟨#[]⟩ : ByteArray), .int .i64 0, .slice none 0 0] 24 (0,0)) (by (with_reducible repeat (first|refine blk_drewN ?_ _|refine blk_drew ?_|refine blk_alloc ?_ _));exact BK410.out) hb);have n2_:=Aside0.mk (KeepBut.trans (by repeat (first|(with_reducible first|exact HK.out|apply KeepBut.set_|apply keep_drewN|apply keep_drew|apply keep_alloc|refine keep_far ?_ GW410.out _)|exact HK.out)) (KeepBut.of_below hb g none) (.inl rfl));have n3_:=Aside0.mk (below_step (by repeat (first|(with_reducible first|exact HB.out|apply below_alloc|apply pw_below_drewN|apply below_drew1|refine below_set ?_ (IsS76.ge HI0.out)|refine below_set ?_ GE410.out)|exact HB.out)) hb);have n4_:=Aside0.mk (hbox);have n5_:=Aside0.mk ((by rw [hg];exact (keep_size (w:=w) (g:=g) (row:=none) (by repeat (first|(with_reducible first|exact HK.out|apply KeepBut.set_|apply keep_drewN|apply keep_drew|apply keep_alloc|refine keep_far ?_ GW410.out _)|exact HK.out))) : w.heap.size ≤ gb415));have n6_:=Aside0.mk ((Nat.le_trans HW0.out (by rw [hg];exact (keep_size (w:=w) (g:=g) (row:=none) (by repeat (first|(with_reducible first|exact HK.out|apply KeepBut.set_|apply keep_drewN|apply keep_drew|apply keep_alloc|refine keep_far ?_ GW410.out _)|exact HK.out))) : w.heap.size ≤ gb415) : w0.heap.size ≤ gb415));have n7_:=Aside0.mk ((by rw [hg];exact Nat.ne_of_lt (blk_lt (g:=gb410) (o := .cells #[.int .i64 0, .int .i64 0, .string (⟨#[]⟩ : ByteArray), .int .i64 0, .slice none 0 0] 24 (0,0)) (by (with_reducible repeat (first|refine blk_drewN ?_ _|refine blk_drew ?_|refine blk_alloc ?_ _));exact BK410.out)) : gb410 ≠ gb415));have n8_:=Aside0.mk ((by rw [hg];exact Nat.ne_of_gt (blk_lt (g:=gb410) (o := .cells #[.int .i64 0, .int .i64 0, .string (⟨#[]⟩ : ByteArray), .int .i64 0, .slice none 0 0] 24 (0,0)) (by (with_reducible repeat (first|refine blk_drewN ?_ _|refine blk_drew ?_|refine blk_alloc ?_ _));exact BK410.out)) : gb415 ≠ gb410));have n9_:=Aside0.mk ((by rw [hg];exact Nat.ne_of_lt (IsS76.lt (show IsS76 w0 _ g t412 t413 t414 from by first|((repeat (first|(with_reducible first|exact HI0.out|apply IsS76.alloc|apply IsS76.drewN|apply IsS76.drew|apply IsS76.set_1|apply IsS76.set_2|refine IsS76.far ?_ NB0_410.out _|(apply IsS76.far;case hne => exact NB0_410.out))|exact HI0.out));done)|((simp only [*]);(repeat (first|(with_reducible first|exact HI0.out|apply IsS76.alloc|apply IsS76.drewN|apply IsS76.drew|apply IsS76.set_1|apply IsS76.set_2|refine IsS76.far ?_ NB0_410.out _|(apply IsS76.far;case hne => exact NB0_410.out))|exact HI0.out))))) : g ≠ gb415));have n10_:=Aside0.mk ((by rw [hg];exact Nat.ne_of_gt (IsS76.lt (show IsS76 w0 _ g t412 t413 t414 from by first|((repeat (first|(with_reducible first|exact HI0.out|apply IsS76.alloc|apply IsS76.drewN|apply IsS76.drew|apply IsS76.set_1|apply IsS76.set_2|refine IsS76.far ?_ NB0_410.out _|(apply IsS76.far;case hne => exact NB0_410.out))|exact HI0.out));done)|((simp only [*]);(repeat (first|(with_reducible first|exact HI0.out|apply IsS76.alloc|apply IsS76.drewN|apply IsS76.drew|apply IsS76.set_1|apply IsS76.set_2|refine IsS76.far ?_ NB0_410.out _|(apply IsS76.far;case hne => exact NB0_410.out))|exact HI0.out))))) : gb415 ≠ g));clear HI0;clear BK410;clear HK;clear HB;have HI0:=n0_;have BK410:=n1_;have HK:=n2_;have HB:=n3_;have BK415:=n4_;have GW415:=n5_;have GE415:=n6_;have NB410_415:=n7_;have NB415_410:=n8_;have NB0_415:=n9_;have NB415_0:=n10_;clear n0_ n1_ n2_ n3_ n4_ n5_ n6_ n7_ n8_ n9_ n10_;clear hb hbox hg;have hnb23:=NB415_410.out;have hnc23:=NB410_415.out;have hnb24:=NB415_0.out;have hnc24:=NB0_415.out;have hcz25_0 : w22.cell? ⟨gb415,0,none⟩ = some (.int .i64 0):=(blk_cell BK415.out 0).trans rfl;have hcz25_1 : w22.cell? ⟨gb415,1,none⟩ = some (.int .i64 0):=(blk_cell BK415.out 1).trans rfl;have hcz25_2 : w22.cell? ⟨gb415,2,none⟩ = some (.string (⟨#[]⟩ : ByteArray)):=(blk_cell BK415.out 2).trans rfl;have hcz25_3 : w22.cell? ⟨gb415,3,none⟩ = some (.int .i64 0):=(blk_cell BK415.out 3).trans rfl;have hcz25_4 : w22.cell? ⟨gb415,4,none⟩ = some (.slice none 0 0):=(blk_cell BK415.out 4).trans rfl;have hfz25_0:=blk_frozen BK415.out 0;have hfz25_1:=blk_frozen BK415.out 1;have hfz25_2:=blk_frozen BK415.out 2;have hfz25_3:=blk_frozen BK415.out 3;have hfz25_4:=blk_frozen BK415.out 4)|((with_reducible refine gate_callee (f:=43) rfl ?_);refine goesL_ (some 38) rfl rfl Try.func43 (by kernel_rfl) rfl #[.pointer (some ⟨g,0,none⟩)] rfl (by (try simp only [List.map_toArray,List.map_cons,List.map_nil]);first|done|rfl|(simp only [List.length_drop,List.length_take];rfl)|(go_simp;done)|(go_simp;simp;done)) ?_;(with_reducible refine (codec_reader_text.calls k g t412 t413 t414 t422 t423 t424 t425 w0 _ ?side1 ?side2 A19.out).mono ?_);(case side1 => first|((repeat (first|(with_reducible first|exact HI0.out|apply IsS76.alloc|apply IsS76.drewN|apply IsS76.drew|apply IsS76.set_1|apply IsS76.set_2|refine IsS76.far ?_ NB0_410.out _|(apply IsS76.far;case hne => exact NB0_410.out)|refine IsS76.far ?_ NB0_415.out _|(apply IsS76.far;case hne => exact NB0_415.out))|exact HI0.out));done)|((simp only [*]);(repeat (first|(with_reducible first|exact HI0.out|apply IsS76.alloc|apply IsS76.drewN|apply IsS76.drew|apply IsS76.set_1|apply IsS76.set_2|refine IsS76.far ?_ NB0_410.out _|(apply IsS76.far;case hne => exact NB0_410.out)|refine IsS76.far ?_ NB0_415.out _|(apply IsS76.far;case hne => exact NB0_415.out))|exact HI0.out))));(case side2 => repeat (first|(with_reducible first|exact HB.out|apply below_alloc|apply pw_below_drewN|apply below_drew1|refine below_set ?_ (IsS76.ge HI0.out)|refine below_set ?_ GE410.out|refine below_set ?_ GE415.out)|exact HB.out));rintro e w26 ⟨rfl,hi,hb,hk⟩;refine ⟨_,rfl,?_⟩;have n0_:=Aside0.mk (KeepBut.blk hk (g':=gb410) (o := .cells #[.int .i64 0, .int .i64 0, .string (⟨#[]⟩ : ByteArray), .int .i64 0, .slice none 0 0] 24 (0,0)) (by (with_reducible repeat (first|refine blk_drewN ?_ _|refine blk_drew ?_|refine blk_alloc ?_ _));refine blk_far ?_ NB410_415.out _;(with_reducible repeat (first|refine blk_drewN ?_ _|refine blk_drew ?_|refine blk_alloc ?_ _));refine blk_far ?_ NB410_415.out _;(with_reducible repeat (first|refine blk_drewN ?_ _|refine blk_drew ?_|refine blk_alloc ?_ _));refine blk_far ?_ NB410_415.out _;(with_reducible repeat (first|refine blk_drewN ?_ _|refine blk_drew ?_|refine blk_alloc ?_ _));refine blk_far ?_ NB410_415.out _;(with_reducible repeat (first|refine blk_drewN ?_ _|refine blk_drew ?_|refine blk_alloc ?_ _));refine blk_far ?_ NB410_415.out _;(with_reducible repeat (first|refine blk_drewN ?_ _|refine blk_drew ?_|refine blk_alloc ?_ _));exact BK410.out) NB410_0.out (by simp));have n1_:=Aside0.mk (KeepBut.blk hk (g':=gb415) (o := .cells #[.int .i64 (wrap64 (t411)), .int .i64 0, .string (⟨#[]⟩ : ByteArray), .int .i64 0, .slice none 0 0] 24 (0,0)) (by (with_reducible repeat (first|refine blk_drewN ?_ _|refine blk_drew ?_|refine blk_alloc ?_ _));refine blk_put (cs:=#[.int .i64 (wrap64 (t411)), .int .i64 0, .string (⟨#[]⟩ : ByteArray), .int .i64 0, .slice none 0 0]) ?_ 4 _ rfl;(with_reducible repeat (first|refine blk_drewN ?_ _|refine blk_drew ?_|refine blk_alloc ?_ _));refine blk_put (cs:=#[.int .i64 (wrap64 (t411)), .int .i64 0, .string (⟨#[]⟩ : ByteArray), .int .i64 0, .slice none 0 0]) ?_ 3 _ rfl;(with_reducible repeat (first|refine blk_drewN ?_ _|refine blk_drew ?_|refine blk_alloc ?_ _));refine blk_put (cs:=#[.int .i64 (wrap64 (t411)), .int .i64 0, .string (⟨#[]⟩ : ByteArray), .int .i64 0, .slice none 0 0]) ?_ 2 _ rfl;(with_reducible repeat (first|refine blk_drewN ?_ _|refine blk_drew ?_|refine blk_alloc ?_ _));refine blk_put (cs:=#[.int .i64 (wrap64 (t411)), .int .i64 0, .string (⟨#[]⟩ : ByteArray), .int .i64 0, .slice none 0 0]) ?_ 1 _ rfl;(with_reducible repeat (first|refine blk_drewN ?_ _|refine blk_drew ?_|refine blk_alloc ?_ _));refine blk_put (cs:=#[.int .i64 0, .int .i64 0, .string (⟨#[]⟩ : ByteArray), .int .i64 0, .slice none 0 0]) ?_ 0 _ rfl;(with_reducible repeat (first|refine blk_drewN ?_ _|refine blk_drew ?_|refine blk_alloc ?_ _));exact BK415.out) NB415_0.out (by simp));have n2_:=Aside0.mk (KeepBut.trans (by repeat (first|(with_reducible first|exact HK.out|apply KeepBut.set_|apply keep_drewN|apply keep_drew|apply keep_alloc|refine keep_far ?_ GW410.out _|refine keep_far ?_ GW415.out _)|exact HK.out)) hk (.inl rfl));have n3_:=Aside0.mk (hb);have n4_:=Aside0.mk (hi);clear BK410;clear BK415;clear HK;clear HB;clear HI0;have BK410:=n0_;have BK415:=n1_;have HK:=n2_;have HB:=n3_;have HI0:=n4_;clear n0_ n1_ n2_ n3_ n4_;(try clear hb);(try clear hb2);(try clear hk);(try clear hi);have hcz27_0 : w26.cell? ⟨gb415,0,none⟩ = some (.int .i64 (wrap64 (t411))):=(blk_cell BK415.out 0).trans rfl;have hcz27_1 : w26.cell? ⟨gb415,1,none⟩ = some (.int .i64 0):=(blk_cell BK415.out 1).trans rfl;have hcz27_2 : w26.cell? ⟨gb415,2,none⟩ = some (.string (⟨#[]⟩ : ByteArray)):=(blk_cell BK415.out 2).trans rfl;have hcz27_3 : w26.cell? ⟨gb415,3,none⟩ = some (.int .i64 0):=(blk_cell BK415.out 3).trans rfl;have hcz27_4 : w26.cell? ⟨gb415,4,none⟩ = some (.slice none 0 0):=(blk_cell BK415.out 4).trans rfl;have hfz27_0:=blk_frozen BK415.out 0;have hfz27_1:=blk_frozen BK415.out 1;have hfz27_2:=blk_frozen BK415.out 2;have hfz27_3:=blk_frozen BK415.out 3;have hfz27_4:=blk_frozen BK415.out 4;have hnb28:=NB410_0.out;have hnc28:=NB0_410.out;have hcz29_0 : w26.cell? ⟨gb410,0,none⟩ = some (.int .i64 0):=(blk_cell BK410.out 0).trans rfl;have hcz29_1 : w26.cell? ⟨gb410,1,none⟩ = some (.int .i64 0):=(blk_cell BK410.out 1).trans rfl;have hcz29_2 : w26.cell? ⟨gb410,2,none⟩ = some (.string (⟨#[]⟩ : ByteArray)):=(blk_cell BK410.out 2).trans rfl;have hcz29_3 : w26.cell? ⟨gb410,3,none⟩ = some (.int .i64 0):=(blk_cell BK410.out 3).trans rfl;have hcz29_4 : w26.cell? ⟨gb410,4,none⟩ = some (.slice none 0 0):=(blk_cell BK410.out 4).trans rfl;have hfz29_0:=blk_frozen BK410.out 0;have hfz29_1:=blk_frozen BK410.out 1;have hfz29_2:=blk_frozen BK410.out 2;have hfz29_3:=blk_frozen BK410.out 3;have hfz29_4:=blk_frozen BK410.out 4))
   refine bodyPost_ret (results_cell_row rfl _ _ gb410 24 #[.int .i64 (wrap64 (t411)), .int .i64 0, .string t422, .int .i64 0, .slice none 0 0] (0,0) _ rfl (by (with_reducible repeat (first|refine blk_drewN ?_ _|refine blk_drew ?_|refine blk_alloc ?_ _));refine blk_put (cs:=#[.int .i64 (wrap64 (t411)), .int .i64 0, .string t422, .int .i64 0, .slice none 0 0]) ?_ 4 _ rfl;(with_reducible repeat (first|refine blk_drewN ?_ _|refine blk_drew ?_|refine blk_alloc ?_ _));refine blk_put (cs:=#[.int .i64 (wrap64 (t411)), .int .i64 0, .string t422, .int .i64 0, .slice none 0 0]) ?_ 3 _ rfl;(with_reducible repeat (first|refine blk_drewN ?_ _|refine blk_drew ?_|refine blk_alloc ?_ _));refine blk_put (cs:=#[.int .i64 (wrap64 (t411)), .int .i64 0, .string (⟨#[]⟩ : ByteArray), .int .i64 0, .slice none 0 0]) ?_ 2 _ rfl;(with_reducible repeat (first|refine blk_drewN ?_ _|refine blk_drew ?_|refine blk_alloc ?_ _));refine blk_put (cs:=#[.int .i64 (wrap64 (t411)), .int .i64 0, .string (⟨#[]⟩ : ByteArray), .int .i64 0, .slice none 0 0]) ?_ 1 _ rfl;(with_reducible repeat (first|refine blk_drewN ?_ _|refine blk_drew ?_|refine blk_alloc ?_ _));refine blk_put (cs:=#[.int .i64 0, .int .i64 0, .string (⟨#[]⟩ : ByteArray), .int .i64 0, .slice none 0 0]) ?_ 0 _ rfl;(with_reducible repeat (first|refine blk_drewN ?_ _|refine blk_drew ?_|refine blk_alloc ?_ _));refine blk_far ?_ NB410_415.out _;(with_reducible repeat (first|refine blk_drewN ?_ _|refine blk_drew ?_|refine blk_alloc ?_ _));exact BK410.out) Try.underlying24 rfl (by kernel_rfl)) rfl ?_
   exact ⟨_,by first|rfl|(simp [errW_none,errW_some] <;> rfl)|(simp [*,errW_none,errW_some] <;> rfl),by first|exact Kd.R_nil _ _ _ _ _|exact Kd.N_nil _ _ _ _ _|exact Kd.V_nil _ _ _ _ _|exact Kd.Q_nil _ _ _ _ _|exact Kd.S_nil _ _ _ _ _,by first|((repeat (first|(with_reducible first|exact HI0.out|apply IsS76.alloc|apply IsS76.drewN|apply IsS76.drew|apply IsS76.set_1|apply IsS76.set_2|refine IsS76.far ?_ NB0_410.out _|(apply IsS76.far;case hne => exact NB0_410.out)|refine IsS76.far ?_ NB0_415.out _|(apply IsS76.far;case hne => exact NB0_415.out))|exact HI0.out));done)|((simp only [*]);(repeat (first|(with_reducible first|exact HI0.out|apply IsS76.alloc|apply IsS76.drewN|apply IsS76.drew|apply IsS76.set_1|apply IsS76.set_2|refine IsS76.far ?_ NB0_410.out _|(apply IsS76.far;case hne => exact NB0_410.out)|refine IsS76.far ?_ NB0_415.out _|(apply IsS76.far;case hne => exact NB0_415.out))|exact HI0.out))),by repeat (first|(with_reducible first|exact HB.out|apply below_alloc|apply pw_below_drewN|apply below_drew1|refine below_set ?_ (IsS76.ge HI0.out)|refine below_set ?_ GE410.out|refine below_set ?_ GE415.out)|exact HB.out),by repeat (first|(with_reducible first|exact HK.out|apply KeepBut.set_|apply keep_drewN|apply keep_drew|apply keep_alloc|refine keep_far ?_ GW410.out _|refine keep_far ?_ GW415.out _)|exact HK.out)⟩
  ·rw [if_neg c18] at H
   have c18b0 : ((wrap64 (t411)) == 2) = false:=beq_eq_false_iff_ne.mpr c18
   have c18b1 : ((wrap64 (t411)) != 2) = true:=bne_iff_ne.mpr c18
   by_cases c30 : (wrap64 (t411)) = 3
   ·rw [if_pos c30] at H
    have c30b0 : ((wrap64 (t411)) == 3) = true:=beq_iff_eq.mpr c30
    have c30b1 : ((wrap64 (t411)) != 3) = false:=bne_eq_false_iff_eq.mpr c30
    clear c30
    replace H:=Option.bind_eq_some_iff.mp H
    obtain ⟨⟨t426,t427,t428,t429⟩,A310,H⟩:=H
    replace H : (if t429 = true then (some (wrap64 (t411),wrap64 (t426),(⟨#[]⟩ : ByteArray),0,([] : List (S24)),t427,t428,true)) else (some (wrap64 (t411),wrap64 (t426),(⟨#[]⟩ : ByteArray),0,([] : List (S24)),t427,t428,decide ((wrap64 (t426)) > 1)))) = some (r1,r2,r3,r4,r5,r6,r7,r8):=H
    have A31:=Aside0.mk A310
    clear A310
    by_cases c32 : t429 = true
    ·subst c32
     have H1 : (some (wrap64 (t411),wrap64 (t426),(⟨#[]⟩ : ByteArray),0,([] : List (S24)),t427,t428,true)) = some (r1,r2,r3,r4,r5,r6,r7,r8):=by rw [if_pos rfl] at H;exact H
     clear H
     have H:=H1
     clear H1
     simp only [Option.some.injEq,Prod.mk.injEq] at H
     obtain ⟨rfl,rfl,rfl,rfl,rfl,rfl,rfl,rfl⟩:=H
     go_enter Try.func39,Try.ntmps39
     go_wp2_with (first|((with_reducible refine gate_dst (N:=4) rfl ?_);refine box_event ?hg (N:=4) ?hd (cs:=#[.int .i64 0, .int .i64 0, .string (⟨#[]⟩ : ByteArray), .int .i64 0, .slice none 0 0]) (t:=24) ?hr ?_;(case hd => rfl);(case hg => rfl);(case hr => first|(go_simp;done)|(go_simp;rfl));intro gb410 hg w33 hbox hb;have n0_:=Aside0.mk (IsS76.below (by first|((repeat (first|(with_reducible first|exact HI0.out|apply IsS76.alloc|apply IsS76.drewN|apply IsS76.drew|apply IsS76.set_1|apply IsS76.set_2)|exact HI0.out));done)|((simp only [*]);(repeat (first|(with_reducible first|exact HI0.out|apply IsS76.alloc|apply IsS76.drewN|apply IsS76.drew|apply IsS76.set_1|apply IsS76.set_2)|exact HI0.out)))) hb);have n1_:=Aside0.mk (KeepBut.trans (by repeat (first|(with_reducible first|exact HK.out|apply KeepBut.set_|apply keep_drewN|apply keep_drew|apply keep_alloc)|exact HK.out)) (KeepBut.of_below hb g none) (.inl rfl));have n2_:=Aside0.mk (below_step (by repeat (first|(with_reducible first|exact HB.out|apply below_alloc|apply pw_below_drewN|apply below_drew1|refine below_set ?_ (IsS76.ge HI0.out))|exact HB.out)) hb);have n3_:=Aside0.mk (hbox);have n4_:=Aside0.mk ((by rw [hg];exact (keep_size (w:=w) (g:=g) (row:=none) (by repeat (first|(with_reducible first|exact HK.out|apply KeepBut.set_|apply keep_drewN|apply keep_drew|apply keep_alloc)|exact HK.out))) : w.heap.size ≤ gb410));have n5_:=Aside0.mk ((Nat.le_trans HW0.out (by rw [hg];exact (keep_size (w:=w) (g:=g) (row:=none) (by repeat (first|(with_reducible first|exact HK.out|apply KeepBut.set_|apply keep_drewN|apply keep_drew|apply keep_alloc)|exact HK.out))) : w.heap.size ≤ gb410) : w0.heap.size ≤ gb410));have n6_:=Aside0.mk ((by rw [hg];exact Nat.ne_of_lt (IsS76.lt (show IsS76 w0 _ g s0_0 s0_1 s0_2 from by first|((repeat (first|(with_reducible first|exact HI0.out|apply IsS76.alloc|apply IsS76.drewN|apply IsS76.drew|apply IsS76.set_1|apply IsS76.set_2)|exact HI0.out));done)|((simp only [*]);(repeat (first|(with_reducible first|exact HI0.out|apply IsS76.alloc|apply IsS76.drewN|apply IsS76.drew|apply IsS76.set_1|apply IsS76.set_2)|exact HI0.out))))) : g ≠ gb410));have n7_:=Aside0.mk ((by rw [hg];exact Nat.ne_of_gt (IsS76.lt (show IsS76 w0 _ g s0_0 s0_1 s0_2 from by first|((repeat (first|(with_reducible first|exact HI0.out|apply IsS76.alloc|apply IsS76.drewN|apply IsS76.drew|apply IsS76.set_1|apply IsS76.set_2)|exact HI0.out));done)|((simp only [*]);(repeat (first|(with_reducible first|exact HI0.out|apply IsS76.alloc|apply IsS76.drewN|apply IsS76.drew|apply IsS76.set_1|apply IsS76.set_2)|exact HI0.out))))) : gb410 ≠ g));clear HI0;clear HK;clear HB;have HI0:=n0_;have HK:=n1_;have HB:=n2_;have BK410:=n3_;have GW410:=n4_;have GE410:=n5_;have NB0_410:=n6_;have NB410_0:=n7_;clear n0_ n1_ n2_ n3_ n4_ n5_ n6_ n7_;clear hb hbox hg)|((with_reducible refine gate_callee (f:=46) rfl ?_);refine goesL_ (some 10) rfl rfl Try.func46 (by kernel_rfl) rfl #[.pointer (some ⟨g,0,none⟩)] rfl (by (try simp only [List.map_toArray,List.map_cons,List.map_nil]);first|done|rfl|(simp only [List.length_drop,List.length_take];rfl)|(go_simp;done)|(go_simp;simp;done)) ?_;(with_reducible refine (codec_reader_byte.calls g s0_0 s0_1 s0_2 t411 t412 t413 t414 w0 _ ?side1 ?side2 A3.out).mono ?_);(case side1 => first|((repeat (first|(with_reducible first|exact HI0.out|apply IsS76.alloc|apply IsS76.drewN|apply IsS76.drew|apply IsS76.set_1|apply IsS76.set_2|refine IsS76.far ?_ NB0_410.out _|(apply IsS76.far;case hne => exact NB0_410.out))|exact HI0.out));done)|((simp only [*]);(repeat (first|(with_reducible first|exact HI0.out|apply IsS76.alloc|apply IsS76.drewN|apply IsS76.drew|apply IsS76.set_1|apply IsS76.set_2|refine IsS76.far ?_ NB0_410.out _|(apply IsS76.far;case hne => exact NB0_410.out))|exact HI0.out))));(case side2 => repeat (first|(with_reducible first|exact HB.out|apply below_alloc|apply pw_below_drewN|apply below_drew1|refine below_set ?_ (IsS76.ge HI0.out)|refine below_set ?_ GE410.out)|exact HB.out));rintro e w34 ⟨rfl,hi,hb,hk⟩;refine ⟨_,rfl,?_⟩;have n0_:=Aside0.mk (KeepBut.blk hk (g':=gb410) (o := .cells #[.int .i64 0, .int .i64 0, .string (⟨#[]⟩ : ByteArray), .int .i64 0, .slice none 0 0] 24 (0,0)) (by (with_reducible repeat (first|refine blk_drewN ?_ _|refine blk_drew ?_|refine blk_alloc ?_ _));exact BK410.out) NB410_0.out (by simp));have n1_:=Aside0.mk (KeepBut.trans (by repeat (first|(with_reducible first|exact HK.out|apply KeepBut.set_|apply keep_drewN|apply keep_drew|apply keep_alloc|refine keep_far ?_ GW410.out _)|exact HK.out)) hk (.inl rfl));have n2_:=Aside0.mk (hb);have n3_:=Aside0.mk (hi);clear BK410;clear HK;clear HB;clear HI0;have BK410:=n0_;have HK:=n1_;have HB:=n2_;have HI0:=n3_;clear n0_ n1_ n2_ n3_;(try clear hb);(try clear hb2);(try clear hk);(try clear hi))|((with_reducible refine gate_dst (N:=5) rfl ?_);refine box_event ?hg (N:=5) ?hd (cs:=#[.int .i64 0, .int .i64 0, .string (⟨#[]⟩ : ByteArray), .int .i64 0, .slice none 0 0]) (t:=24) ?hr ?_;(case hd => rfl);(case hg => rfl);(case hr => first|(go_simp;done)|(go_simp;rfl));intro gb415 hg w35 hbox hb;have n0_:=Aside0.mk (IsS76.below (by first|((repeat (first|(with_reducible first|exact HI0.out|apply IsS76.alloc|apply IsS76.drewN|apply IsS76.drew|apply IsS76.set_1|apply IsS76.set_2|refine IsS76.far ?_ NB0_410.out _|(apply IsS76.far;case hne => exact NB0_410.out))|exact HI0.out));done)|((simp only [*]);(repeat (first|(with_reducible first|exact HI0.out|apply IsS76.alloc|apply IsS76.drewN|apply IsS76.drew|apply IsS76.set_1|apply IsS76.set_2|refine IsS76.far ?_ NB0_410.out _|(apply IsS76.far;case hne => exact NB0_410.out))|exact HI0.out)))) hb);have n1_:=Aside0.mk (blk_below (g:=gb410) (o := .cells #[.int .i64 0, .int .i64 0, .string (⟨#[]⟩ : ByteArray), .int .i64 0, .slice none 0 0] 24 (0,0)) (by (with_reducible repeat (first|refine blk_drewN ?_ _|refine blk_drew ?_|refine blk_alloc ?_ _));exact BK410.out) hb);have n2_:=Aside0.mk (KeepBut.trans (by repeat (first|(with_reducible first|exact HK.out|apply KeepBut.set_|apply keep_drewN|apply keep_drew|apply keep_alloc|refine keep_far ?_ GW410.out _)|exact HK.out)) (KeepBut.of_below hb g none) (.inl rfl));have n3_:=Aside0.mk (below_step (by repeat (first|(with_reducible first|exact HB.out|apply below_alloc|apply pw_below_drewN|apply below_drew1|refine below_set ?_ (IsS76.ge HI0.out)|refine below_set ?_ GE410.out)|exact HB.out)) hb);have n4_:=Aside0.mk (hbox);have n5_:=Aside0.mk ((by rw [hg];exact (keep_size (w:=w) (g:=g) (row:=none) (by repeat (first|(with_reducible first|exact HK.out|apply KeepBut.set_|apply keep_drewN|apply keep_drew|apply keep_alloc|refine keep_far ?_ GW410.out _)|exact HK.out))) : w.heap.size ≤ gb415));have n6_:=Aside0.mk ((Nat.le_trans HW0.out (by rw [hg];exact (keep_size (w:=w) (g:=g) (row:=none) (by repeat (first|(with_reducible first|exact HK.out|apply KeepBut.set_|apply keep_drewN|apply keep_drew|apply keep_alloc|refine keep_far ?_ GW410.out _)|exact HK.out))) : w.heap.size ≤ gb415) : w0.heap.size ≤ gb415));have n7_:=Aside0.mk ((by rw [hg];exact Nat.ne_of_lt (blk_lt (g:=gb410) (o := .cells #[.int .i64 0, .int .i64 0, .string (⟨#[]⟩ : ByteArray), .int .i64 0, .slice none 0 0] 24 (0,0)) (by (with_reducible repeat (first|refine blk_drewN ?_ _|refine blk_drew ?_|refine blk_alloc ?_ _));exact BK410.out)) : gb410 ≠ gb415));have n8_:=Aside0.mk ((by rw [hg];exact Nat.ne_of_gt (blk_lt (g:=gb410) (o := .cells #[.int .i64 0, .int .i64 0, .string (⟨#[]⟩ : ByteArray), .int .i64 0, .slice none 0 0] 24 (0,0)) (by (with_reducible repeat (first|refine blk_drewN ?_ _|refine blk_drew ?_|refine blk_alloc ?_ _));exact BK410.out)) : gb415 ≠ gb410));have n9_:=Aside0.mk ((by rw [hg];exact Nat.ne_of_lt (IsS76.lt (show IsS76 w0 _ g t412 t413 t414 from by first|((repeat (first|(with_reducible first|exact HI0.out|apply IsS76.alloc|apply IsS76.drewN|apply IsS76.drew|apply IsS76.set_1|apply IsS76.set_2|refine IsS76.far ?_ NB0_410.out _|(apply IsS76.far;case hne => exact NB0_410.out))|exact HI0.out));done)|((simp only [*]);(repeat (first|(with_reducible first|exact HI0.out|apply IsS76.alloc|apply IsS76.drewN|apply IsS76.drew|apply IsS76.set_1|apply IsS76.set_2|refine IsS76.far ?_ NB0_410.out _|(apply IsS76.far;case hne => exact NB0_410.out))|exact HI0.out))))) : g ≠ gb415));have n10_:=Aside0.mk ((by rw [hg];exact Nat.ne_of_gt (IsS76.lt (show IsS76 w0 _ g t412 t413 t414 from by first|((repeat (first|(with_reducible first|exact HI0.out|apply IsS76.alloc|apply IsS76.drewN|apply IsS76.drew|apply IsS76.set_1|apply IsS76.set_2|refine IsS76.far ?_ NB0_410.out _|(apply IsS76.far;case hne => exact NB0_410.out))|exact HI0.out));done)|((simp only [*]);(repeat (first|(with_reducible first|exact HI0.out|apply IsS76.alloc|apply IsS76.drewN|apply IsS76.drew|apply IsS76.set_1|apply IsS76.set_2|refine IsS76.far ?_ NB0_410.out _|(apply IsS76.far;case hne => exact NB0_410.out))|exact HI0.out))))) : gb415 ≠ g));clear HI0;clear BK410;clear HK;clear HB;have HI0:=n0_;have BK410:=n1_;have HK:=n2_;have HB:=n3_;have BK415:=n4_;have GW415:=n5_;have GE415:=n6_;have NB410_415:=n7_;have NB415_410:=n8_;have NB0_415:=n9_;have NB415_0:=n10_;clear n0_ n1_ n2_ n3_ n4_ n5_ n6_ n7_ n8_ n9_ n10_;clear hb hbox hg;have hnb36:=NB415_410.out;have hnc36:=NB410_415.out;have hnb37:=NB415_0.out;have hnc37:=NB0_415.out;have hcz38_0 : w35.cell? ⟨gb415,0,none⟩ = some (.int .i64 0):=(blk_cell BK415.out 0).trans rfl;have hcz38_1 : w35.cell? ⟨gb415,1,none⟩ = some (.int .i64 0):=(blk_cell BK415.out 1).trans rfl;have hcz38_2 : w35.cell? ⟨gb415,2,none⟩ = some (.string (⟨#[]⟩ : ByteArray)):=(blk_cell BK415.out 2).trans rfl;have hcz38_3 : w35.cell? ⟨gb415,3,none⟩ = some (.int .i64 0):=(blk_cell BK415.out 3).trans rfl;have hcz38_4 : w35.cell? ⟨gb415,4,none⟩ = some (.slice none 0 0):=(blk_cell BK415.out 4).trans rfl;have hfz38_0:=blk_frozen BK415.out 0;have hfz38_1:=blk_frozen BK415.out 1;have hfz38_2:=blk_frozen BK415.out 2;have hfz38_3:=blk_frozen BK415.out 3;have hfz38_4:=blk_frozen BK415.out 4)|((with_reducible refine gate_callee (f:=46) rfl ?_);refine goesL_ (some 43) rfl rfl Try.func46 (by kernel_rfl) rfl #[.pointer (some ⟨g,0,none⟩)] rfl (by (try simp only [List.map_toArray,List.map_cons,List.map_nil]);first|done|rfl|(simp only [List.length_drop,List.length_take];rfl)|(go_simp;done)|(go_simp;simp;done)) ?_;(with_reducible refine (codec_reader_byte.calls g t412 t413 t414 t426 t427 t428 true w0 _ ?side1 ?side2 A31.out).mono ?_);(case side1 => first|((repeat (first|(with_reducible first|exact HI0.out|apply IsS76.alloc|apply IsS76.drewN|apply IsS76.drew|apply IsS76.set_1|apply IsS76.set_2|refine IsS76.far ?_ NB0_410.out _|(apply IsS76.far;case hne => exact NB0_410.out)|refine IsS76.far ?_ NB0_415.out _|(apply IsS76.far;case hne => exact NB0_415.out))|exact HI0.out));done)|((simp only [*]);(repeat (first|(with_reducible first|exact HI0.out|apply IsS76.alloc|apply IsS76.drewN|apply IsS76.drew|apply IsS76.set_1|apply IsS76.set_2|refine IsS76.far ?_ NB0_410.out _|(apply IsS76.far;case hne => exact NB0_410.out)|refine IsS76.far ?_ NB0_415.out _|(apply IsS76.far;case hne => exact NB0_415.out))|exact HI0.out))));(case side2 => repeat (first|(with_reducible first|exact HB.out|apply below_alloc|apply pw_below_drewN|apply below_drew1|refine below_set ?_ (IsS76.ge HI0.out)|refine below_set ?_ GE410.out|refine below_set ?_ GE415.out)|exact HB.out));rintro e w39 ⟨rfl,hi,hb,hk⟩;refine ⟨_,rfl,?_⟩;have n0_:=Aside0.mk (KeepBut.blk hk (g':=gb410) (o := .cells #[.int .i64 0, .int .i64 0, .string (⟨#[]⟩ : ByteArray), .int .i64 0, .slice none 0 0] 24 (0,0)) (by (with_reducible repeat (first|refine blk_drewN ?_ _|refine blk_drew ?_|refine blk_alloc ?_ _));refine blk_far ?_ NB410_415.out _;(with_reducible repeat (first|refine blk_drewN ?_ _|refine blk_drew ?_|refine blk_alloc ?_ _));refine blk_far ?_ NB410_415.out _;(with_reducible repeat (first|refine blk_drewN ?_ _|refine blk_drew ?_|refine blk_alloc ?_ _));refine blk_far ?_ NB410_415.out _;(with_reducible repeat (first|refine blk_drewN ?_ _|refine blk_drew ?_|refine blk_alloc ?_ _));refine blk_far ?_ NB410_415.out _;(with_reducible repeat (first|refine blk_drewN ?_ _|refine blk_drew ?_|refine blk_alloc ?_ _));refine blk_far ?_ NB410_415.out _;(with_reducible repeat (first|refine blk_drewN ?_ _|refine blk_drew ?_|refine blk_alloc ?_ _));exact BK410.out) NB410_0.out (by simp));have n1_:=Aside0.mk (KeepBut.blk hk (g':=gb415) (o := .cells #[.int .i64 (wrap64 (t411)), .int .i64 0, .string (⟨#[]⟩ : ByteArray), .int .i64 0, .slice none 0 0] 24 (0,0)) (by (with_reducible repeat (first|refine blk_drewN ?_ _|refine blk_drew ?_|refine blk_alloc ?_ _));refine blk_put (cs:=#[.int .i64 (wrap64 (t411)), .int .i64 0, .string (⟨#[]⟩ : ByteArray), .int .i64 0, .slice none 0 0]) ?_ 4 _ rfl;(with_reducible repeat (first|refine blk_drewN ?_ _|refine blk_drew ?_|refine blk_alloc ?_ _));refine blk_put (cs:=#[.int .i64 (wrap64 (t411)), .int .i64 0, .string (⟨#[]⟩ : ByteArray), .int .i64 0, .slice none 0 0]) ?_ 3 _ rfl;(with_reducible repeat (first|refine blk_drewN ?_ _|refine blk_drew ?_|refine blk_alloc ?_ _));refine blk_put (cs:=#[.int .i64 (wrap64 (t411)), .int .i64 0, .string (⟨#[]⟩ : ByteArray), .int .i64 0, .slice none 0 0]) ?_ 2 _ rfl;(with_reducible repeat (first|refine blk_drewN ?_ _|refine blk_drew ?_|refine blk_alloc ?_ _));refine blk_put (cs:=#[.int .i64 (wrap64 (t411)), .int .i64 0, .string (⟨#[]⟩ : ByteArray), .int .i64 0, .slice none 0 0]) ?_ 1 _ rfl;(with_reducible repeat (first|refine blk_drewN ?_ _|refine blk_drew ?_|refine blk_alloc ?_ _));refine blk_put (cs:=#[.int .i64 0, .int .i64 0, .string (⟨#[]⟩ : ByteArray), .int .i64 0, .slice none 0 0]) ?_ 0 _ rfl;(with_reducible repeat (first|refine blk_drewN ?_ _|refine blk_drew ?_|refine blk_alloc ?_ _));exact BK415.out) NB415_0.out (by simp));have n2_:=Aside0.mk (KeepBut.trans (by repeat (first|(with_reducible first|exact HK.out|apply KeepBut.set_|apply keep_drewN|apply keep_drew|apply keep_alloc|refine keep_far ?_ GW410.out _|refine keep_far ?_ GW415.out _)|exact HK.out)) hk (.inl rfl));have n3_:=Aside0.mk (hb);have n4_:=Aside0.mk (hi);clear BK410;clear BK415;clear HK;clear HB;clear HI0;have BK410:=n0_;have BK415:=n1_;have HK:=n2_;have HB:=n3_;have HI0:=n4_;clear n0_ n1_ n2_ n3_ n4_;(try clear hb);(try clear hb2);(try clear hk);(try clear hi);have hcz40_0 : w39.cell? ⟨gb415,0,none⟩ = some (.int .i64 (wrap64 (t411))):=(blk_cell BK415.out 0).trans rfl;have hcz40_1 : w39.cell? ⟨gb415,1,none⟩ = some (.int .i64 0):=(blk_cell BK415.out 1).trans rfl;have hcz40_2 : w39.cell? ⟨gb415,2,none⟩ = some (.string (⟨#[]⟩ : ByteArray)):=(blk_cell BK415.out 2).trans rfl;have hcz40_3 : w39.cell? ⟨gb415,3,none⟩ = some (.int .i64 0):=(blk_cell BK415.out 3).trans rfl;have hcz40_4 : w39.cell? ⟨gb415,4,none⟩ = some (.slice none 0 0):=(blk_cell BK415.out 4).trans rfl;have hfz40_0:=blk_frozen BK415.out 0;have hfz40_1:=blk_frozen BK415.out 1;have hfz40_2:=blk_frozen BK415.out 2;have hfz40_3:=blk_frozen BK415.out 3;have hfz40_4:=blk_frozen BK415.out 4;obtain ⟨ASz41_0,cSz41_0,HGz41,hgz41,HSz41_0,hlSz41_0⟩:=HI0.out;have hcz41_0:=cellS76_0 HGz41;have hcz41_1:=cellS76_1 HGz41;have hcz41_2:=cellS76_2 HGz41;have hfz41_0:=blk_frozen HGz41 0;have hfz41_1:=blk_frozen HGz41 1;have hfz41_2:=blk_frozen HGz41 2;clear HGz41 hgz41;have hnb42:=NB410_0.out;have hnc42:=NB0_410.out;have hcz43_0 : w39.cell? ⟨gb410,0,none⟩ = some (.int .i64 0):=(blk_cell BK410.out 0).trans rfl;have hcz43_1 : w39.cell? ⟨gb410,1,none⟩ = some (.int .i64 0):=(blk_cell BK410.out 1).trans rfl;have hcz43_2 : w39.cell? ⟨gb410,2,none⟩ = some (.string (⟨#[]⟩ : ByteArray)):=(blk_cell BK410.out 2).trans rfl;have hcz43_3 : w39.cell? ⟨gb410,3,none⟩ = some (.int .i64 0):=(blk_cell BK410.out 3).trans rfl;have hcz43_4 : w39.cell? ⟨gb410,4,none⟩ = some (.slice none 0 0):=(blk_cell BK410.out 4).trans rfl;have hfz43_0:=blk_frozen BK410.out 0;have hfz43_1:=blk_frozen BK410.out 1;have hfz43_2:=blk_frozen BK410.out 2;have hfz43_3:=blk_frozen BK410.out 3;have hfz43_4:=blk_frozen BK410.out 4))
     refine bodyPost_ret (results_cell_row rfl _ _ gb410 24 #[.int .i64 (wrap64 (t411)), .int .i64 (wrap64 (t426)), .string (⟨#[]⟩ : ByteArray), .int .i64 0, .slice none 0 0] (0,0) _ rfl (by (with_reducible repeat (first|refine blk_drewN ?_ _|refine blk_drew ?_|refine blk_alloc ?_ _));refine blk_put (cs:=#[.int .i64 (wrap64 (t411)), .int .i64 (wrap64 (t426)), .string (⟨#[]⟩ : ByteArray), .int .i64 0, .slice none 0 0]) ?_ 4 _ rfl;(with_reducible repeat (first|refine blk_drewN ?_ _|refine blk_drew ?_|refine blk_alloc ?_ _));refine blk_put (cs:=#[.int .i64 (wrap64 (t411)), .int .i64 (wrap64 (t426)), .string (⟨#[]⟩ : ByteArray), .int .i64 0, .slice none 0 0]) ?_ 3 _ rfl;(with_reducible repeat (first|refine blk_drewN ?_ _|refine blk_drew ?_|refine blk_alloc ?_ _));refine blk_put (cs:=#[.int .i64 (wrap64 (t411)), .int .i64 (wrap64 (t426)), .string (⟨#[]⟩ : ByteArray), .int .i64 0, .slice none 0 0]) ?_ 2 _ rfl;(with_reducible repeat (first|refine blk_drewN ?_ _|refine blk_drew ?_|refine blk_alloc ?_ _));refine blk_put (cs:=#[.int .i64 (wrap64 (t411)), .int .i64 0, .string (⟨#[]⟩ : ByteArray), .int .i64 0, .slice none 0 0]) ?_ 1 _ rfl;(with_reducible repeat (first|refine blk_drewN ?_ _|refine blk_drew ?_|refine blk_alloc ?_ _));refine blk_put (cs:=#[.int .i64 0, .int .i64 0, .string (⟨#[]⟩ : ByteArray), .int .i64 0, .slice none 0 0]) ?_ 0 _ rfl;(with_reducible repeat (first|refine blk_drewN ?_ _|refine blk_drew ?_|refine blk_alloc ?_ _));refine blk_far ?_ NB410_0.out _;(with_reducible repeat (first|refine blk_drewN ?_ _|refine blk_drew ?_|refine blk_alloc ?_ _));refine blk_far ?_ NB410_415.out _;(with_reducible repeat (first|refine blk_drewN ?_ _|refine blk_drew ?_|refine blk_alloc ?_ _));exact BK410.out) Try.underlying24 rfl (by kernel_rfl)) rfl ?_
     exact ⟨_,by first|rfl|(simp [errW_none,errW_some] <;> rfl)|(simp [*,errW_none,errW_some] <;> rfl),by first|exact Kd.R_nil _ _ _ _ _|exact Kd.N_nil _ _ _ _ _|exact Kd.V_nil _ _ _ _ _|exact Kd.Q_nil _ _ _ _ _|exact Kd.S_nil _ _ _ _ _,by first|((repeat (first|(with_reducible first|exact HI0.out|apply IsS76.alloc|apply IsS76.drewN|apply IsS76.drew|apply IsS76.set_1|apply IsS76.set_2|refine IsS76.far ?_ NB0_410.out _|(apply IsS76.far;case hne => exact NB0_410.out)|refine IsS76.far ?_ NB0_415.out _|(apply IsS76.far;case hne => exact NB0_415.out))|exact HI0.out));done)|((simp only [*]);(repeat (first|(with_reducible first|exact HI0.out|apply IsS76.alloc|apply IsS76.drewN|apply IsS76.drew|apply IsS76.set_1|apply IsS76.set_2|refine IsS76.far ?_ NB0_410.out _|(apply IsS76.far;case hne => exact NB0_410.out)|refine IsS76.far ?_ NB0_415.out _|(apply IsS76.far;case hne => exact NB0_415.out))|exact HI0.out))),by repeat (first|(with_reducible first|exact HB.out|apply below_alloc|apply pw_below_drewN|apply below_drew1|refine below_set ?_ (IsS76.ge HI0.out)|refine below_set ?_ GE410.out|refine below_set ?_ GE415.out)|exact HB.out),by repeat (first|(with_reducible first|exact HK.out|apply KeepBut.set_|apply keep_drewN|apply keep_drew|apply keep_alloc|refine keep_far ?_ GW410.out _|refine keep_far ?_ GW415.out _)|exact HK.out)⟩
    ·replace c32:=Bool.eq_false_iff.mpr c32
     subst c32
     have H1 : (some (wrap64 (t411),wrap64 (t426),(⟨#[]⟩ : ByteArray),0,([] : List (S24)),t427,t428,decide ((wrap64 (t426)) > 1))) = some (r1,r2,r3,r4,r5,r6,r7,r8):=by rw [if_neg (show ¬ (false = true) by decide)] at H;exact H
     clear H
     have H:=H1
     clear H1
     simp only [Option.some.injEq,Prod.mk.injEq] at H
     obtain ⟨rfl,rfl,rfl,rfl,rfl,rfl,rfl,rfl⟩:=H
     go_enter Try.func39,Try.ntmps39
     go_wp2_with (first|((with_reducible refine gate_dst (N:=4) rfl ?_);refine box_event ?hg (N:=4) ?hd (cs:=#[.int .i64 0, .int .i64 0, .string (⟨#[]⟩ : ByteArray), .int .i64 0, .slice none 0 0]) (t:=24) ?hr ?_;(case hd => rfl);(case hg => rfl);(case hr => first|(go_simp;done)|(go_simp;rfl));intro gb410 hg w44 hbox hb;have n0_:=Aside0.mk (IsS76.below (by first|((repeat (first|(with_reducible first|exact HI0.out|apply IsS76.alloc|apply IsS76.drewN|apply IsS76.drew|apply IsS76.set_1|apply IsS76.set_2)|exact HI0.out));done)|((simp only [*]);(repeat (first|(with_reducible first|exact HI0.out|apply IsS76.alloc|apply IsS76.drewN|apply IsS76.drew|apply IsS76.set_1|apply IsS76.set_2)|exact HI0.out)))) hb);have n1_:=Aside0.mk (KeepBut.trans (by repeat (first|(with_reducible first|exact HK.out|apply KeepBut.set_|apply keep_drewN|apply keep_drew|apply keep_alloc)|exact HK.out)) (KeepBut.of_below hb g none) (.inl rfl));have n2_:=Aside0.mk (below_step (by repeat (first|(with_reducible first|exact HB.out|apply below_alloc|apply pw_below_drewN|apply below_drew1|refine below_set ?_ (IsS76.ge HI0.out))|exact HB.out)) hb);have n3_:=Aside0.mk (hbox);have n4_:=Aside0.mk ((by rw [hg];exact (keep_size (w:=w) (g:=g) (row:=none) (by repeat (first|(with_reducible first|exact HK.out|apply KeepBut.set_|apply keep_drewN|apply keep_drew|apply keep_alloc)|exact HK.out))) : w.heap.size ≤ gb410));have n5_:=Aside0.mk ((Nat.le_trans HW0.out (by rw [hg];exact (keep_size (w:=w) (g:=g) (row:=none) (by repeat (first|(with_reducible first|exact HK.out|apply KeepBut.set_|apply keep_drewN|apply keep_drew|apply keep_alloc)|exact HK.out))) : w.heap.size ≤ gb410) : w0.heap.size ≤ gb410));have n6_:=Aside0.mk ((by rw [hg];exact Nat.ne_of_lt (IsS76.lt (show IsS76 w0 _ g s0_0 s0_1 s0_2 from by first|((repeat (first|(with_reducible first|exact HI0.out|apply IsS76.alloc|apply IsS76.drewN|apply IsS76.drew|apply IsS76.set_1|apply IsS76.set_2)|exact HI0.out));done)|((simp only [*]);(repeat (first|(with_reducible first|exact HI0.out|apply IsS76.alloc|apply IsS76.drewN|apply IsS76.drew|apply IsS76.set_1|apply IsS76.set_2)|exact HI0.out))))) : g ≠ gb410));have n7_:=Aside0.mk ((by rw [hg];exact Nat.ne_of_gt (IsS76.lt (show IsS76 w0 _ g s0_0 s0_1 s0_2 from by first|((repeat (first|(with_reducible first|exact HI0.out|apply IsS76.alloc|apply IsS76.drewN|apply IsS76.drew|apply IsS76.set_1|apply IsS76.set_2)|exact HI0.out));done)|((simp only [*]);(repeat (first|(with_reducible first|exact HI0.out|apply IsS76.alloc|apply IsS76.drewN|apply IsS76.drew|apply IsS76.set_1|apply IsS76.set_2)|exact HI0.out))))) : gb410 ≠ g));clear HI0;clear HK;clear HB;have HI0:=n0_;have HK:=n1_;have HB:=n2_;have BK410:=n3_;have GW410:=n4_;have GE410:=n5_;have NB0_410:=n6_;have NB410_0:=n7_;clear n0_ n1_ n2_ n3_ n4_ n5_ n6_ n7_;clear hb hbox hg)|((with_reducible refine gate_callee (f:=46) rfl ?_);refine goesL_ (some 10) rfl rfl Try.func46 (by kernel_rfl) rfl #[.pointer (some ⟨g,0,none⟩)] rfl (by (try simp only [List.map_toArray,List.map_cons,List.map_nil]);first|done|rfl|(simp only [List.length_drop,List.length_take];rfl)|(go_simp;done)|(go_simp;simp;done)) ?_;(with_reducible refine (codec_reader_byte.calls g s0_0 s0_1 s0_2 t411 t412 t413 t414 w0 _ ?side1 ?side2 A3.out).mono ?_);(case side1 => first|((repeat (first|(with_reducible first|exact HI0.out|apply IsS76.alloc|apply IsS76.drewN|apply IsS76.drew|apply IsS76.set_1|apply IsS76.set_2|refine IsS76.far ?_ NB0_410.out _|(apply IsS76.far;case hne => exact NB0_410.out))|exact HI0.out));done)|((simp only [*]);(repeat (first|(with_reducible first|exact HI0.out|apply IsS76.alloc|apply IsS76.drewN|apply IsS76.drew|apply IsS76.set_1|apply IsS76.set_2|refine IsS76.far ?_ NB0_410.out _|(apply IsS76.far;case hne => exact NB0_410.out))|exact HI0.out))));(case side2 => repeat (first|(with_reducible first|exact HB.out|apply below_alloc|apply pw_below_drewN|apply below_drew1|refine below_set ?_ (IsS76.ge HI0.out)|refine below_set ?_ GE410.out)|exact HB.out));rintro e w45 ⟨rfl,hi,hb,hk⟩;refine ⟨_,rfl,?_⟩;have n0_:=Aside0.mk (KeepBut.blk hk (g':=gb410) (o := .cells #[.int .i64 0, .int .i64 0, .string (⟨#[]⟩ : ByteArray), .int .i64 0, .slice none 0 0] 24 (0,0)) (by (with_reducible repeat (first|refine blk_drewN ?_ _|refine blk_drew ?_|refine blk_alloc ?_ _));exact BK410.out) NB410_0.out (by simp));have n1_:=Aside0.mk (KeepBut.trans (by repeat (first|(with_reducible first|exact HK.out|apply KeepBut.set_|apply keep_drewN|apply keep_drew|apply keep_alloc|refine keep_far ?_ GW410.out _)|exact HK.out)) hk (.inl rfl));have n2_:=Aside0.mk (hb);have n3_:=Aside0.mk (hi);clear BK410;clear HK;clear HB;clear HI0;have BK410:=n0_;have HK:=n1_;have HB:=n2_;have HI0:=n3_;clear n0_ n1_ n2_ n3_;(try clear hb);(try clear hb2);(try clear hk);(try clear hi))|((with_reducible refine gate_dst (N:=5) rfl ?_);refine box_event ?hg (N:=5) ?hd (cs:=#[.int .i64 0, .int .i64 0, .string (⟨#[]⟩ : ByteArray), .int .i64 0, .slice none 0 0]) (t:=24) ?hr ?_;(case hd => rfl);(case hg => rfl);(case hr => first|(go_simp;done)|(go_simp;rfl));intro gb415 hg w46 hbox hb;have n0_:=Aside0.mk (IsS76.below (by first|((repeat (first|(with_reducible first|exact HI0.out|apply IsS76.alloc|apply IsS76.drewN|apply IsS76.drew|apply IsS76.set_1|apply IsS76.set_2|refine IsS76.far ?_ NB0_410.out _|(apply IsS76.far;case hne => exact NB0_410.out))|exact HI0.out));done)|((simp only [*]);(repeat (first|(with_reducible first|exact HI0.out|apply IsS76.alloc|apply IsS76.drewN|apply IsS76.drew|apply IsS76.set_1|apply IsS76.set_2|refine IsS76.far ?_ NB0_410.out _|(apply IsS76.far;case hne => exact NB0_410.out))|exact HI0.out)))) hb);have n1_:=Aside0.mk (blk_below (g:=gb410) (o := .cells #[.int .i64 0, .int .i64 0, .string (⟨#[]⟩ : ByteArray), .int .i64 0, .slice none 0 0] 24 (0,0)) (by (with_reducible repeat (first|refine blk_drewN ?_ _|refine blk_drew ?_|refine blk_alloc ?_ _));exact BK410.out) hb);have n2_:=Aside0.mk (KeepBut.trans (by repeat (first|(with_reducible first|exact HK.out|apply KeepBut.set_|apply keep_drewN|apply keep_drew|apply keep_alloc|refine keep_far ?_ GW410.out _)|exact HK.out)) (KeepBut.of_below hb g none) (.inl rfl));have n3_:=Aside0.mk (below_step (by repeat (first|(with_reducible first|exact HB.out|apply below_alloc|apply pw_below_drewN|apply below_drew1|refine below_set ?_ (IsS76.ge HI0.out)|refine below_set ?_ GE410.out)|exact HB.out)) hb);have n4_:=Aside0.mk (hbox);have n5_:=Aside0.mk ((by rw [hg];exact (keep_size (w:=w) (g:=g) (row:=none) (by repeat (first|(with_reducible first|exact HK.out|apply KeepBut.set_|apply keep_drewN|apply keep_drew|apply keep_alloc|refine keep_far ?_ GW410.out _)|exact HK.out))) : w.heap.size ≤ gb415));have n6_:=Aside0.mk ((Nat.le_trans HW0.out (by rw [hg];exact (keep_size (w:=w) (g:=g) (row:=none) (by repeat (first|(with_reducible first|exact HK.out|apply KeepBut.set_|apply keep_drewN|apply keep_drew|apply keep_alloc|refine keep_far ?_ GW410.out _)|exact HK.out))) : w.heap.size ≤ gb415) : w0.heap.size ≤ gb415));have n7_:=Aside0.mk ((by rw [hg];exact Nat.ne_of_lt (blk_lt (g:=gb410) (o := .cells #[.int .i64 0, .int .i64 0, .string (⟨#[]⟩ : ByteArray), .int .i64 0, .slice none 0 0] 24 (0,0)) (by (with_reducible repeat (first|refine blk_drewN ?_ _|refine blk_drew ?_|refine blk_alloc ?_ _));exact BK410.out)) : gb410 ≠ gb415));have n8_:=Aside0.mk ((by rw [hg];exact Nat.ne_of_gt (blk_lt (g:=gb410) (o := .cells #[.int .i64 0, .int .i64 0, .string (⟨#[]⟩ : ByteArray), .int .i64 0, .slice none 0 0] 24 (0,0)) (by (with_reducible repeat (first|refine blk_drewN ?_ _|refine blk_drew ?_|refine blk_alloc ?_ _));exact BK410.out)) : gb415 ≠ gb410));have n9_:=Aside0.mk ((by rw [hg];exact Nat.ne_of_lt (IsS76.lt (show IsS76 w0 _ g t412 t413 t414 from by first|((repeat (first|(with_reducible first|exact HI0.out|apply IsS76.alloc|apply IsS76.drewN|apply IsS76.drew|apply IsS76.set_1|apply IsS76.set_2|refine IsS76.far ?_ NB0_410.out _|(apply IsS76.far;case hne => exact NB0_410.out))|exact HI0.out));done)|((simp only [*]);(repeat (first|(with_reducible first|exact HI0.out|apply IsS76.alloc|apply IsS76.drewN|apply IsS76.drew|apply IsS76.set_1|apply IsS76.set_2|refine IsS76.far ?_ NB0_410.out _|(apply IsS76.far;case hne => exact NB0_410.out))|exact HI0.out))))) : g ≠ gb415));have n10_:=Aside0.mk ((by rw [hg];exact Nat.ne_of_gt (IsS76.lt (show IsS76 w0 _ g t412 t413 t414 from by first|((repeat (first|(with_reducible first|exact HI0.out|apply IsS76.alloc|apply IsS76.drewN|apply IsS76.drew|apply IsS76.set_1|apply IsS76.set_2|refine IsS76.far ?_ NB0_410.out _|(apply IsS76.far;case hne => exact NB0_410.out))|exact HI0.out));done)|((simp only [*]);(repeat (first|(with_reducible first|exact HI0.out|apply IsS76.alloc|apply IsS76.drewN|apply IsS76.drew|apply IsS76.set_1|apply IsS76.set_2|refine IsS76.far ?_ NB0_410.out _|(apply IsS76.far;case hne => exact NB0_410.out))|exact HI0.out))))) : gb415 ≠ g));clear HI0;clear BK410;clear HK;clear HB;have HI0:=n0_;have BK410:=n1_;have HK:=n2_;have HB:=n3_;have BK415:=n4_;have GW415:=n5_;have GE415:=n6_;have NB410_415:=n7_;have NB415_410:=n8_;have NB0_415:=n9_;have NB415_0:=n10_;clear n0_ n1_ n2_ n3_ n4_ n5_ n6_ n7_ n8_ n9_ n10_;clear hb hbox hg;have hnb47:=NB415_410.out;have hnc47:=NB410_415.out;have hnb48:=NB415_0.out;have hnc48:=NB0_415.out;have hcz49_0 : w46.cell? ⟨gb415,0,none⟩ = some (.int .i64 0):=(blk_cell BK415.out 0).trans rfl;have hcz49_1 : w46.cell? ⟨gb415,1,none⟩ = some (.int .i64 0):=(blk_cell BK415.out 1).trans rfl;have hcz49_2 : w46.cell? ⟨gb415,2,none⟩ = some (.string (⟨#[]⟩ : ByteArray)):=(blk_cell BK415.out 2).trans rfl;have hcz49_3 : w46.cell? ⟨gb415,3,none⟩ = some (.int .i64 0):=(blk_cell BK415.out 3).trans rfl;have hcz49_4 : w46.cell? ⟨gb415,4,none⟩ = some (.slice none 0 0):=(blk_cell BK415.out 4).trans rfl;have hfz49_0:=blk_frozen BK415.out 0;have hfz49_1:=blk_frozen BK415.out 1;have hfz49_2:=blk_frozen BK415.out 2;have hfz49_3:=blk_frozen BK415.out 3;have hfz49_4:=blk_frozen BK415.out 4)|((with_reducible refine gate_callee (f:=46) rfl ?_);refine goesL_ (some 43) rfl rfl Try.func46 (by kernel_rfl) rfl #[.pointer (some ⟨g,0,none⟩)] rfl (by (try simp only [List.map_toArray,List.map_cons,List.map_nil]);first|done|rfl|(simp only [List.length_drop,List.length_take];rfl)|(go_simp;done)|(go_simp;simp;done)) ?_;(with_reducible refine (codec_reader_byte.calls g t412 t413 t414 t426 t427 t428 false w0 _ ?side1 ?side2 A31.out).mono ?_);(case side1 => first|((repeat (first|(with_reducible first|exact HI0.out|apply IsS76.alloc|apply IsS76.drewN|apply IsS76.drew|apply IsS76.set_1|apply IsS76.set_2|refine IsS76.far ?_ NB0_410.out _|(apply IsS76.far;case hne => exact NB0_410.out)|refine IsS76.far ?_ NB0_415.out _|(apply IsS76.far;case hne => exact NB0_415.out))|exact HI0.out));done)|((simp only [*]);(repeat (first|(with_reducible first|exact HI0.out|apply IsS76.alloc|apply IsS76.drewN|apply IsS76.drew|apply IsS76.set_1|apply IsS76.set_2|refine IsS76.far ?_ NB0_410.out _|(apply IsS76.far;case hne => exact NB0_410.out)|refine IsS76.far ?_ NB0_415.out _|(apply IsS76.far;case hne => exact NB0_415.out))|exact HI0.out))));(case side2 => repeat (first|(with_reducible first|exact HB.out|apply below_alloc|apply pw_below_drewN|apply below_drew1|refine below_set ?_ (IsS76.ge HI0.out)|refine below_set ?_ GE410.out|refine below_set ?_ GE415.out)|exact HB.out));rintro e w50 ⟨rfl,hi,hb,hk⟩;refine ⟨_,rfl,?_⟩;have n0_:=Aside0.mk (KeepBut.blk hk (g':=gb410) (o := .cells #[.int .i64 0, .int .i64 0, .string (⟨#[]⟩ : ByteArray), .int .i64 0, .slice none 0 0] 24 (0,0)) (by (with_reducible repeat (first|refine blk_drewN ?_ _|refine blk_drew ?_|refine blk_alloc ?_ _));refine blk_far ?_ NB410_415.out _;(with_reducible repeat (first|refine blk_drewN ?_ _|refine blk_drew ?_|refine blk_alloc ?_ _));refine blk_far ?_ NB410_415.out _;(with_reducible repeat (first|refine blk_drewN ?_ _|refine blk_drew ?_|refine blk_alloc ?_ _));refine blk_far ?_ NB410_415.out _;(with_reducible repeat (first|refine blk_drewN ?_ _|refine blk_drew ?_|refine blk_alloc ?_ _));refine blk_far ?_ NB410_415.out _;(with_reducible repeat (first|refine blk_drewN ?_ _|refine blk_drew ?_|refine blk_alloc ?_ _));refine blk_far ?_ NB410_415.out _;(with_reducible repeat (first|refine blk_drewN ?_ _|refine blk_drew ?_|refine blk_alloc ?_ _));exact BK410.out) NB410_0.out (by simp));have n1_:=Aside0.mk (KeepBut.blk hk (g':=gb415) (o := .cells #[.int .i64 (wrap64 (t411)), .int .i64 0, .string (⟨#[]⟩ : ByteArray), .int .i64 0, .slice none 0 0] 24 (0,0)) (by (with_reducible repeat (first|refine blk_drewN ?_ _|refine blk_drew ?_|refine blk_alloc ?_ _));refine blk_put (cs:=#[.int .i64 (wrap64 (t411)), .int .i64 0, .string (⟨#[]⟩ : ByteArray), .int .i64 0, .slice none 0 0]) ?_ 4 _ rfl;(with_reducible repeat (first|refine blk_drewN ?_ _|refine blk_drew ?_|refine blk_alloc ?_ _));refine blk_put (cs:=#[.int .i64 (wrap64 (t411)), .int .i64 0, .string (⟨#[]⟩ : ByteArray), .int .i64 0, .slice none 0 0]) ?_ 3 _ rfl;(with_reducible repeat (first|refine blk_drewN ?_ _|refine blk_drew ?_|refine blk_alloc ?_ _));refine blk_put (cs:=#[.int .i64 (wrap64 (t411)), .int .i64 0, .string (⟨#[]⟩ : ByteArray), .int .i64 0, .slice none 0 0]) ?_ 2 _ rfl;(with_reducible repeat (first|refine blk_drewN ?_ _|refine blk_drew ?_|refine blk_alloc ?_ _));refine blk_put (cs:=#[.int .i64 (wrap64 (t411)), .int .i64 0, .string (⟨#[]⟩ : ByteArray), .int .i64 0, .slice none 0 0]) ?_ 1 _ rfl;(with_reducible repeat (first|refine blk_drewN ?_ _|refine blk_drew ?_|refine blk_alloc ?_ _));refine blk_put (cs:=#[.int .i64 0, .int .i64 0, .string (⟨#[]⟩ : ByteArray), .int .i64 0, .slice none 0 0]) ?_ 0 _ rfl;(with_reducible repeat (first|refine blk_drewN ?_ _|refine blk_drew ?_|refine blk_alloc ?_ _));exact BK415.out) NB415_0.out (by simp));have n2_:=Aside0.mk (KeepBut.trans (by repeat (first|(with_reducible first|exact HK.out|apply KeepBut.set_|apply keep_drewN|apply keep_drew|apply keep_alloc|refine keep_far ?_ GW410.out _|refine keep_far ?_ GW415.out _)|exact HK.out)) hk (.inl rfl));have n3_:=Aside0.mk (hb);have n4_:=Aside0.mk (hi);clear BK410;clear BK415;clear HK;clear HB;clear HI0;have BK410:=n0_;have BK415:=n1_;have HK:=n2_;have HB:=n3_;have HI0:=n4_;clear n0_ n1_ n2_ n3_ n4_;(try clear hb);(try clear hb2);(try clear hk);(try clear hi);have hcz51_0 : w50.cell? ⟨gb415,0,none⟩ = some (.int .i64 (wrap64 (t411))):=(blk_cell BK415.out 0).trans rfl;have hcz51_1 : w50.cell? ⟨gb415,1,none⟩ = some (.int .i64 0):=(blk_cell BK415.out 1).trans rfl;have hcz51_2 : w50.cell? ⟨gb415,2,none⟩ = some (.string (⟨#[]⟩ : ByteArray)):=(blk_cell BK415.out 2).trans rfl;have hcz51_3 : w50.cell? ⟨gb415,3,none⟩ = some (.int .i64 0):=(blk_cell BK415.out 3).trans rfl;have hcz51_4 : w50.cell? ⟨gb415,4,none⟩ = some (.slice none 0 0):=(blk_cell BK415.out 4).trans rfl;have hfz51_0:=blk_frozen BK415.out 0;have hfz51_1:=blk_frozen BK415.out 1;have hfz51_2:=blk_frozen BK415.out 2;have hfz51_3:=blk_frozen BK415.out 3;have hfz51_4:=blk_frozen BK415.out 4;obtain ⟨ASz52_0,cSz52_0,HGz52,hgz52,HSz52_0,hlSz52_0⟩:=HI0.out;have hcz52_0:=cellS76_0 HGz52;have hcz52_1:=cellS76_1 HGz52;have hcz52_2:=cellS76_2 HGz52;have hfz52_0:=blk_frozen HGz52 0;have hfz52_1:=blk_frozen HGz52 1;have hfz52_2:=blk_frozen HGz52 2;clear HGz52 hgz52;have hnb53:=NB410_0.out;have hnc53:=NB0_410.out;have hcz54_0 : w50.cell? ⟨gb410,0,none⟩ = some (.int .i64 0):=(blk_cell BK410.out 0).trans rfl;have hcz54_1 : w50.cell? ⟨gb410,1,none⟩ = some (.int .i64 0):=(blk_cell BK410.out 1).trans rfl;have hcz54_2 : w50.cell? ⟨gb410,2,none⟩ = some (.string (⟨#[]⟩ : ByteArray)):=(blk_cell BK410.out 2).trans rfl;have hcz54_3 : w50.cell? ⟨gb410,3,none⟩ = some (.int .i64 0):=(blk_cell BK410.out 3).trans rfl;have hcz54_4 : w50.cell? ⟨gb410,4,none⟩ = some (.slice none 0 0):=(blk_cell BK410.out 4).trans rfl;have hfz54_0:=blk_frozen BK410.out 0;have hfz54_1:=blk_frozen BK410.out 1;have hfz54_2:=blk_frozen BK410.out 2;have hfz54_3:=blk_frozen BK410.out 3;have hfz54_4:=blk_frozen BK410.out 4))
     refine bodyPost_ret (results_cell_row rfl _ _ gb410 24 #[.int .i64 (wrap64 (t411)), .int .i64 (wrap64 (t426)), .string (⟨#[]⟩ : ByteArray), .int .i64 0, .slice none 0 0] (0,0) _ rfl (by (with_reducible repeat (first|refine blk_drewN ?_ _|refine blk_drew ?_|refine blk_alloc ?_ _));refine blk_put (cs:=#[.int .i64 (wrap64 (t411)), .int .i64 (wrap64 (t426)), .string (⟨#[]⟩ : ByteArray), .int .i64 0, .slice none 0 0]) ?_ 4 _ rfl;(with_reducible repeat (first|refine blk_drewN ?_ _|refine blk_drew ?_|refine blk_alloc ?_ _));refine blk_put (cs:=#[.int .i64 (wrap64 (t411)), .int .i64 (wrap64 (t426)), .string (⟨#[]⟩ : ByteArray), .int .i64 0, .slice none 0 0]) ?_ 3 _ rfl;(with_reducible repeat (first|refine blk_drewN ?_ _|refine blk_drew ?_|refine blk_alloc ?_ _));refine blk_put (cs:=#[.int .i64 (wrap64 (t411)), .int .i64 (wrap64 (t426)), .string (⟨#[]⟩ : ByteArray), .int .i64 0, .slice none 0 0]) ?_ 2 _ rfl;(with_reducible repeat (first|refine blk_drewN ?_ _|refine blk_drew ?_|refine blk_alloc ?_ _));refine blk_put (cs:=#[.int .i64 (wrap64 (t411)), .int .i64 0, .string (⟨#[]⟩ : ByteArray), .int .i64 0, .slice none 0 0]) ?_ 1 _ rfl;(with_reducible repeat (first|refine blk_drewN ?_ _|refine blk_drew ?_|refine blk_alloc ?_ _));refine blk_put (cs:=#[.int .i64 0, .int .i64 0, .string (⟨#[]⟩ : ByteArray), .int .i64 0, .slice none 0 0]) ?_ 0 _ rfl;(with_reducible repeat (first|refine blk_drewN ?_ _|refine blk_drew ?_|refine blk_alloc ?_ _));refine blk_far ?_ NB410_0.out _;(with_reducible repeat (first|refine blk_drewN ?_ _|refine blk_drew ?_|refine blk_alloc ?_ _));refine blk_far ?_ NB410_415.out _;(with_reducible repeat (first|refine blk_drewN ?_ _|refine blk_drew ?_|refine blk_alloc ?_ _));exact BK410.out) Try.underlying24 rfl (by kernel_rfl)) rfl ?_
     exact ⟨_,by first|rfl|(simp [errW_none,errW_some] <;> rfl)|(simp [*,errW_none,errW_some] <;> rfl),by first|exact Kd.R_nil _ _ _ _ _|exact Kd.N_nil _ _ _ _ _|exact Kd.V_nil _ _ _ _ _|exact Kd.Q_nil _ _ _ _ _|exact Kd.S_nil _ _ _ _ _,by first|((repeat (first|(with_reducible first|exact HI0.out|apply IsS76.alloc|apply IsS76.drewN|apply IsS76.drew|apply IsS76.set_1|apply IsS76.set_2|refine IsS76.far ?_ NB0_410.out _|(apply IsS76.far;case hne => exact NB0_410.out)|refine IsS76.far ?_ NB0_415.out _|(apply IsS76.far;case hne => exact NB0_415.out))|exact HI0.out));done)|((simp only [*]);(repeat (first|(with_reducible first|exact HI0.out|apply IsS76.alloc|apply IsS76.drewN|apply IsS76.drew|apply IsS76.set_1|apply IsS76.set_2|refine IsS76.far ?_ NB0_410.out _|(apply IsS76.far;case hne => exact NB0_410.out)|refine IsS76.far ?_ NB0_415.out _|(apply IsS76.far;case hne => exact NB0_415.out))|exact HI0.out))),by repeat (first|(with_reducible first|exact HB.out|apply below_alloc|apply pw_below_drewN|apply below_drew1|refine below_set ?_ (IsS76.ge HI0.out)|refine below_set ?_ GE410.out|refine below_set ?_ GE415.out)|exact HB.out),by repeat (first|(with_reducible first|exact HK.out|apply KeepBut.set_|apply keep_drewN|apply keep_drew|apply keep_alloc|refine keep_far ?_ GW410.out _|refine keep_far ?_ GW415.out _)|exact HK.out)⟩
   ·rw [if_neg c30] at H
    have c30b0 : ((wrap64 (t411)) == 3) = false:=beq_eq_false_iff_ne.mpr c30
    have c30b1 : ((wrap64 (t411)) != 3) = true:=bne_iff_ne.mpr c30
    by_cases c55 : (wrap64 (t411)) = 4
    ·rw [if_pos c55] at H
     have c55b0 : ((wrap64 (t411)) == 4) = true:=beq_iff_eq.mpr c55
     have c55b1 : ((wrap64 (t411)) != 4) = false:=bne_eq_false_iff_eq.mpr c55
     clear c55
     have HC56:=Aside0.mk H
     clear H
     go_enter Try.func39,Try.ntmps39
     go_upto_region 14 with (first|((with_reducible refine gate_dst (N:=4) rfl ?_);refine box_event ?hg (N:=4) ?hd (cs:=#[.int .i64 0, .int .i64 0, .string (⟨#[]⟩ : ByteArray), .int .i64 0, .slice none 0 0]) (t:=24) ?hr ?_;(case hd => rfl);(case hg => rfl);(case hr => first|(go_simp;done)|(go_simp;rfl));intro gb410 hg w57 hbox hb;have n0_:=Aside0.mk (IsS76.below (by first|((repeat (first|(with_reducible first|exact HI0.out|apply IsS76.alloc|apply IsS76.drewN|apply IsS76.drew|apply IsS76.set_1|apply IsS76.set_2)|exact HI0.out));done)|((simp only [*]);(repeat (first|(with_reducible first|exact HI0.out|apply IsS76.alloc|apply IsS76.drewN|apply IsS76.drew|apply IsS76.set_1|apply IsS76.set_2)|exact HI0.out)))) hb);have n1_:=Aside0.mk (KeepBut.trans (by repeat (first|(with_reducible first|exact HK.out|apply KeepBut.set_|apply keep_drewN|apply keep_drew|apply keep_alloc)|exact HK.out)) (KeepBut.of_below hb g none) (.inl rfl));have n2_:=Aside0.mk (below_step (by repeat (first|(with_reducible first|exact HB.out|apply below_alloc|apply pw_below_drewN|apply below_drew1|refine below_set ?_ (IsS76.ge HI0.out))|exact HB.out)) hb);have n3_:=Aside0.mk (hbox);have n4_:=Aside0.mk ((by rw [hg];exact (keep_size (w:=w) (g:=g) (row:=none) (by repeat (first|(with_reducible first|exact HK.out|apply KeepBut.set_|apply keep_drewN|apply keep_drew|apply keep_alloc)|exact HK.out))) : w.heap.size ≤ gb410));have n5_:=Aside0.mk ((Nat.le_trans HW0.out (by rw [hg];exact (keep_size (w:=w) (g:=g) (row:=none) (by repeat (first|(with_reducible first|exact HK.out|apply KeepBut.set_|apply keep_drewN|apply keep_drew|apply keep_alloc)|exact HK.out))) : w.heap.size ≤ gb410) : w0.heap.size ≤ gb410));have n6_:=Aside0.mk ((by rw [hg];exact Nat.ne_of_lt (IsS76.lt (show IsS76 w0 _ g s0_0 s0_1 s0_2 from by first|((repeat (first|(with_reducible first|exact HI0.out|apply IsS76.alloc|apply IsS76.drewN|apply IsS76.drew|apply IsS76.set_1|apply IsS76.set_2)|exact HI0.out));done)|((simp only [*]);(repeat (first|(with_reducible first|exact HI0.out|apply IsS76.alloc|apply IsS76.drewN|apply IsS76.drew|apply IsS76.set_1|apply IsS76.set_2)|exact HI0.out))))) : g ≠ gb410));have n7_:=Aside0.mk ((by rw [hg];exact Nat.ne_of_gt (IsS76.lt (show IsS76 w0 _ g s0_0 s0_1 s0_2 from by first|((repeat (first|(with_reducible first|exact HI0.out|apply IsS76.alloc|apply IsS76.drewN|apply IsS76.drew|apply IsS76.set_1|apply IsS76.set_2)|exact HI0.out));done)|((simp only [*]);(repeat (first|(with_reducible first|exact HI0.out|apply IsS76.alloc|apply IsS76.drewN|apply IsS76.drew|apply IsS76.set_1|apply IsS76.set_2)|exact HI0.out))))) : gb410 ≠ g));clear HI0;clear HK;clear HB;have HI0:=n0_;have HK:=n1_;have HB:=n2_;have BK410:=n3_;have GW410:=n4_;have GE410:=n5_;have NB0_410:=n6_;have NB410_0:=n7_;clear n0_ n1_ n2_ n3_ n4_ n5_ n6_ n7_;clear hb hbox hg)|((with_reducible refine gate_callee (f:=46) rfl ?_);refine goesL_ (some 10) rfl rfl Try.func46 (by kernel_rfl) rfl #[.pointer (some ⟨g,0,none⟩)] rfl (by (try simp only [List.map_toArray,List.map_cons,List.map_nil]);first|done|rfl|(simp only [List.length_drop,List.length_take];rfl)|(go_simp;done)|(go_simp;simp;done)) ?_;(with_reducible refine (codec_reader_byte.calls g s0_0 s0_1 s0_2 t411 t412 t413 t414 w0 _ ?side1 ?side2 A3.out).mono ?_);(case side1 => first|((repeat (first|(with_reducible first|exact HI0.out|apply IsS76.alloc|apply IsS76.drewN|apply IsS76.drew|apply IsS76.set_1|apply IsS76.set_2|refine IsS76.far ?_ NB0_410.out _|(apply IsS76.far;case hne => exact NB0_410.out))|exact HI0.out));done)|((simp only [*]);(repeat (first|(with_reducible first|exact HI0.out|apply IsS76.alloc|apply IsS76.drewN|apply IsS76.drew|apply IsS76.set_1|apply IsS76.set_2|refine IsS76.far ?_ NB0_410.out _|(apply IsS76.far;case hne => exact NB0_410.out))|exact HI0.out))));(case side2 => repeat (first|(with_reducible first|exact HB.out|apply below_alloc|apply pw_below_drewN|apply below_drew1|refine below_set ?_ (IsS76.ge HI0.out)|refine below_set ?_ GE410.out)|exact HB.out));rintro e w58 ⟨rfl,hi,hb,hk⟩;refine ⟨_,rfl,?_⟩;have n0_:=Aside0.mk (KeepBut.blk hk (g':=gb410) (o := .cells #[.int .i64 0, .int .i64 0, .string (⟨#[]⟩ : ByteArray), .int .i64 0, .slice none 0 0] 24 (0,0)) (by (with_reducible repeat (first|refine blk_drewN ?_ _|refine blk_drew ?_|refine blk_alloc ?_ _));exact BK410.out) NB410_0.out (by simp));have n1_:=Aside0.mk (KeepBut.trans (by repeat (first|(with_reducible first|exact HK.out|apply KeepBut.set_|apply keep_drewN|apply keep_drew|apply keep_alloc|refine keep_far ?_ GW410.out _)|exact HK.out)) hk (.inl rfl));have n2_:=Aside0.mk (hb);have n3_:=Aside0.mk (hi);clear BK410;clear HK;clear HB;clear HI0;have BK410:=n0_;have HK:=n1_;have HB:=n2_;have HI0:=n3_;clear n0_ n1_ n2_ n3_;(try clear hb);(try clear hb2);(try clear hk);(try clear hi))|((with_reducible refine gate_dst (N:=5) rfl ?_);refine box_event ?hg (N:=5) ?hd (cs:=#[.int .i64 0, .int .i64 0, .string (⟨#[]⟩ : ByteArray), .int .i64 0, .slice none 0 0]) (t:=24) ?hr ?_;(case hd => rfl);(case hg => rfl);(case hr => first|(go_simp;done)|(go_simp;rfl));intro gb415 hg w59 hbox hb;have n0_:=Aside0.mk (IsS76.below (by first|((repeat (first|(with_reducible first|exact HI0.out|apply IsS76.alloc|apply IsS76.drewN|apply IsS76.drew|apply IsS76.set_1|apply IsS76.set_2|refine IsS76.far ?_ NB0_410.out _|(apply IsS76.far;case hne => exact NB0_410.out))|exact HI0.out));done)|((simp only [*]);(repeat (first|(with_reducible first|exact HI0.out|apply IsS76.alloc|apply IsS76.drewN|apply IsS76.drew|apply IsS76.set_1|apply IsS76.set_2|refine IsS76.far ?_ NB0_410.out _|(apply IsS76.far;case hne => exact NB0_410.out))|exact HI0.out)))) hb);have n1_:=Aside0.mk (blk_below (g:=gb410) (o := .cells #[.int .i64 0, .int .i64 0, .string (⟨#[]⟩ : ByteArray), .int .i64 0, .slice none 0 0] 24 (0,0)) (by (with_reducible repeat (first|refine blk_drewN ?_ _|refine blk_drew ?_|refine blk_alloc ?_ _));exact BK410.out) hb);have n2_:=Aside0.mk (KeepBut.trans (by repeat (first|(with_reducible first|exact HK.out|apply KeepBut.set_|apply keep_drewN|apply keep_drew|apply keep_alloc|refine keep_far ?_ GW410.out _)|exact HK.out)) (KeepBut.of_below hb g none) (.inl rfl));have n3_:=Aside0.mk (below_step (by repeat (first|(with_reducible first|exact HB.out|apply below_alloc|apply pw_below_drewN|apply below_drew1|refine below_set ?_ (IsS76.ge HI0.out)|refine below_set ?_ GE410.out)|exact HB.out)) hb);have n4_:=Aside0.mk (hbox);have n5_:=Aside0.mk ((by rw [hg];exact (keep_size (w:=w) (g:=g) (row:=none) (by repeat (first|(with_reducible first|exact HK.out|apply KeepBut.set_|apply keep_drewN|apply keep_drew|apply keep_alloc|refine keep_far ?_ GW410.out _)|exact HK.out))) : w.heap.size ≤ gb415));have n6_:=Aside0.mk ((Nat.le_trans HW0.out (by rw [hg];exact (keep_size (w:=w) (g:=g) (row:=none) (by repeat (first|(with_reducible first|exact HK.out|apply KeepBut.set_|apply keep_drewN|apply keep_drew|apply keep_alloc|refine keep_far ?_ GW410.out _)|exact HK.out))) : w.heap.size ≤ gb415) : w0.heap.size ≤ gb415));have n7_:=Aside0.mk ((by rw [hg];exact Nat.ne_of_lt (blk_lt (g:=gb410) (o := .cells #[.int .i64 0, .int .i64 0, .string (⟨#[]⟩ : ByteArray), .int .i64 0, .slice none 0 0] 24 (0,0)) (by (with_reducible repeat (first|refine blk_drewN ?_ _|refine blk_drew ?_|refine blk_alloc ?_ _));exact BK410.out)) : gb410 ≠ gb415));have n8_:=Aside0.mk ((by rw [hg];exact Nat.ne_of_gt (blk_lt (g:=gb410) (o := .cells #[.int .i64 0, .int .i64 0, .string (⟨#[]⟩ : ByteArray), .int .i64 0, .slice none 0 0] 24 (0,0)) (by (with_reducible repeat (first|refine blk_drewN ?_ _|refine blk_drew ?_|refine blk_alloc ?_ _));exact BK410.out)) : gb415 ≠ gb410));have n9_:=Aside0.mk ((by rw [hg];exact Nat.ne_of_lt (IsS76.lt (show IsS76 w0 _ g t412 t413 t414 from by first|((repeat (first|(with_reducible first|exact HI0.out|apply IsS76.alloc|apply IsS76.drewN|apply IsS76.drew|apply IsS76.set_1|apply IsS76.set_2|refine IsS76.far ?_ NB0_410.out _|(apply IsS76.far;case hne => exact NB0_410.out))|exact HI0.out));done)|((simp only [*]);(repeat (first|(with_reducible first|exact HI0.out|apply IsS76.alloc|apply IsS76.drewN|apply IsS76.drew|apply IsS76.set_1|apply IsS76.set_2|refine IsS76.far ?_ NB0_410.out _|(apply IsS76.far;case hne => exact NB0_410.out))|exact HI0.out))))) : g ≠ gb415));have n10_:=Aside0.mk ((by rw [hg];exact Nat.ne_of_gt (IsS76.lt (show IsS76 w0 _ g t412 t413 t414 from by first|((repeat (first|(with_reducible first|exact HI0.out|apply IsS76.alloc|apply IsS76.drewN|apply IsS76.drew|apply IsS76.set_1|apply IsS76.set_2|refine IsS76.far ?_ NB0_410.out _|(apply IsS76.far;case hne => exact NB0_410.out))|exact HI0.out));done)|((simp only [*]);(repeat (first|(with_reducible first|exact HI0.out|apply IsS76.alloc|apply IsS76.drewN|apply IsS76.drew|apply IsS76.set_1|apply IsS76.set_2|refine IsS76.far ?_ NB0_410.out _|(apply IsS76.far;case hne => exact NB0_410.out))|exact HI0.out))))) : gb415 ≠ g));clear HI0;clear BK410;clear HK;clear HB;have HI0:=n0_;have BK410:=n1_;have HK:=n2_;have HB:=n3_;have BK415:=n4_;have GW415:=n5_;have GE415:=n6_;have NB410_415:=n7_;have NB415_410:=n8_;have NB0_415:=n9_;have NB415_0:=n10_;clear n0_ n1_ n2_ n3_ n4_ n5_ n6_ n7_ n8_ n9_ n10_;clear hb hbox hg;have hnb60:=NB415_410.out;have hnc60:=NB410_415.out;have hnb61:=NB415_0.out;have hnc61:=NB0_415.out;have hcz62_0 : w59.cell? ⟨gb415,0,none⟩ = some (.int .i64 0):=(blk_cell BK415.out 0).trans rfl;have hcz62_1 : w59.cell? ⟨gb415,1,none⟩ = some (.int .i64 0):=(blk_cell BK415.out 1).trans rfl;have hcz62_2 : w59.cell? ⟨gb415,2,none⟩ = some (.string (⟨#[]⟩ : ByteArray)):=(blk_cell BK415.out 2).trans rfl;have hcz62_3 : w59.cell? ⟨gb415,3,none⟩ = some (.int .i64 0):=(blk_cell BK415.out 3).trans rfl;have hcz62_4 : w59.cell? ⟨gb415,4,none⟩ = some (.slice none 0 0):=(blk_cell BK415.out 4).trans rfl;have hfz62_0:=blk_frozen BK415.out 0;have hfz62_1:=blk_frozen BK415.out 1;have hfz62_2:=blk_frozen BK415.out 2;have hfz62_3:=blk_frozen BK415.out 3;have hfz62_4:=blk_frozen BK415.out 4))
     (try simp only [Act.put,List.setIfInBounds_toArray,List.set_cons_zero,List.set_cons_succ])
     go_cut [] (fun wc => ∃ (kq : Nat) (x1002_55 : Bool),Aside0 (codec_reader_value.j0 kq t412 t413 x1002_55 (wrap64 (t411)) 0 (⟨#[]⟩ : ByteArray) 0 = some (r1,r2,r3,r4,r5,r6,r7,r8)) ∧ Aside0 (kq ≤ k) ∧ Aside0 (wc.heap[gb410]? = some (.cells #[.int .i64 0, .int .i64 0, .string (⟨#[]⟩ : ByteArray), .int .i64 0,(.slice none 0 0)] 24 (0,0))) ∧ Aside0 (wc.heap[gb415]? = some (.cells #[.int .i64 (wrap64 (t411)), .int .i64 0, .string (⟨#[]⟩ : ByteArray), .int .i64 0,(.slice none 0 0)] 24 (0,0))) ∧ Aside0 (IsS76 w0 wc g t412 t413 x1002_55) ∧ Aside0 (KeepBut w wc g none) ∧ Aside0 (Below w0.heap.size w0 wc))
     case first =>
      have H:=HC56.out
      clear HC56
      by_cases c63 : t414 = true
      ·subst c63
       have H1 : (codec_reader_value.j0 k t412 t413 true (wrap64 (t411)) 0 (⟨#[]⟩ : ByteArray) 0) = some (r1,r2,r3,r4,r5,r6,r7,r8):=by rw [if_pos rfl] at H;exact H
       clear H
       have H:=H1
       clear H1
       have H':=Aside0.mk H
       clear H
       obtain ⟨ASz64_0,cSz64_0,HGz64,hgz64,HSz64_0,hlSz64_0⟩:=HI0.out
       have hcz64_0:=cellS76_0 HGz64
       have hcz64_1:=cellS76_1 HGz64
       have hcz64_2:=cellS76_2 HGz64
       have hfz64_0:=blk_frozen HGz64 0
       have hfz64_1:=blk_frozen HGz64 1
       have hfz64_2:=blk_frozen HGz64 2
       clear HGz64 hgz64
       go_wp2
       go_meet
       case rel => exact ⟨_,(true),H',⟨by first|omega|exact Nat.le_refl _⟩,⟨by (with_reducible repeat (first|refine blk_drewN ?_ _|refine blk_drew ?_|refine blk_alloc ?_ _));refine blk_far ?_ NB410_0.out _;(with_reducible repeat (first|refine blk_drewN ?_ _|refine blk_drew ?_|refine blk_alloc ?_ _));refine blk_far ?_ NB410_415.out _;(with_reducible repeat (first|refine blk_drewN ?_ _|refine blk_drew ?_|refine blk_alloc ?_ _));refine blk_far ?_ NB410_415.out _;(with_reducible repeat (first|refine blk_drewN ?_ _|refine blk_drew ?_|refine blk_alloc ?_ _));refine blk_far ?_ NB410_415.out _;(with_reducible repeat (first|refine blk_drewN ?_ _|refine blk_drew ?_|refine blk_alloc ?_ _));refine blk_far ?_ NB410_415.out _;(with_reducible repeat (first|refine blk_drewN ?_ _|refine blk_drew ?_|refine blk_alloc ?_ _));refine blk_far ?_ NB410_415.out _;(with_reducible repeat (first|refine blk_drewN ?_ _|refine blk_drew ?_|refine blk_alloc ?_ _));exact BK410.out⟩,⟨by (with_reducible repeat (first|refine blk_drewN ?_ _|refine blk_drew ?_|refine blk_alloc ?_ _));refine blk_far ?_ NB415_0.out _;(with_reducible repeat (first|refine blk_drewN ?_ _|refine blk_drew ?_|refine blk_alloc ?_ _));refine blk_put (cs:=#[.int .i64 (wrap64 (t411)), .int .i64 0, .string (⟨#[]⟩ : ByteArray), .int .i64 0, .slice none 0 0]) ?_ 4 _ rfl;(with_reducible repeat (first|refine blk_drewN ?_ _|refine blk_drew ?_|refine blk_alloc ?_ _));refine blk_put (cs:=#[.int .i64 (wrap64 (t411)), .int .i64 0, .string (⟨#[]⟩ : ByteArray), .int .i64 0, .slice none 0 0]) ?_ 3 _ rfl;(with_reducible repeat (first|refine blk_drewN ?_ _|refine blk_drew ?_|refine blk_alloc ?_ _));refine blk_put (cs:=#[.int .i64 (wrap64 (t411)), .int .i64 0, .string (⟨#[]⟩ : ByteArray), .int .i64 0, .slice none 0 0]) ?_ 2 _ rfl;(with_reducible repeat (first|refine blk_drewN ?_ _|refine blk_drew ?_|refine blk_alloc ?_ _));refine blk_put (cs:=#[.int .i64 (wrap64 (t411)), .int .i64 0, .string (⟨#[]⟩ : ByteArray), .int .i64 0, .slice none 0 0]) ?_ 1 _ rfl;(with_reducible repeat (first|refine blk_drewN ?_ _|refine blk_drew ?_|refine blk_alloc ?_ _));refine blk_put (cs:=#[.int .i64 0, .int .i64 0, .string (⟨#[]⟩ : ByteArray), .int .i64 0, .slice none 0 0]) ?_ 0 _ rfl;(with_reducible repeat (first|refine blk_drewN ?_ _|refine blk_drew ?_|refine blk_alloc ?_ _));exact BK415.out⟩,⟨by first|((repeat (first|(with_reducible first|exact HI0.out|apply IsS76.alloc|apply IsS76.drewN|apply IsS76.drew|apply IsS76.set_1|apply IsS76.set_2|refine IsS76.far ?_ NB0_410.out _|(apply IsS76.far;case hne => exact NB0_410.out)|refine IsS76.far ?_ NB0_415.out _|(apply IsS76.far;case hne => exact NB0_415.out))|exact HI0.out));done)|((simp only [*]);(repeat (first|(with_reducible first|exact HI0.out|apply IsS76.alloc|apply IsS76.drewN|apply IsS76.drew|apply IsS76.set_1|apply IsS76.set_2|refine IsS76.far ?_ NB0_410.out _|(apply IsS76.far;case hne => exact NB0_410.out)|refine IsS76.far ?_ NB0_415.out _|(apply IsS76.far;case hne => exact NB0_415.out))|exact HI0.out)))⟩,⟨by repeat (first|(with_reducible first|exact HK.out|apply KeepBut.set_|apply keep_drewN|apply keep_drew|apply keep_alloc|refine keep_far ?_ GW410.out _|refine keep_far ?_ GW415.out _)|exact HK.out)⟩,⟨by repeat (first|(with_reducible first|exact HB.out|apply below_alloc|apply pw_below_drewN|apply below_drew1|refine below_set ?_ (IsS76.ge HI0.out)|refine below_set ?_ GE410.out|refine below_set ?_ GE415.out)|exact HB.out)⟩⟩
      ·replace c63:=Bool.eq_false_iff.mpr c63
       subst c63
       have H1 : (codec_reader_value.j0 k t412 t413 a1 (wrap64 (t411)) 0 (⟨#[]⟩ : ByteArray) 0) = some (r1,r2,r3,r4,r5,r6,r7,r8):=by rw [if_neg (show ¬ (false = true) by decide)] at H;exact H
       clear H
       have H:=H1
       clear H1
       have H':=Aside0.mk H
       clear H
       obtain ⟨ASz65_0,cSz65_0,HGz65,hgz65,HSz65_0,hlSz65_0⟩:=HI0.out
       have hcz65_0:=cellS76_0 HGz65
       have hcz65_1:=cellS76_1 HGz65
       have hcz65_2:=cellS76_2 HGz65
       have hfz65_0:=blk_frozen HGz65 0
       have hfz65_1:=blk_frozen HGz65 1
       have hfz65_2:=blk_frozen HGz65 2
       clear HGz65 hgz65
       go_wp2
       go_meet
       case rel => exact ⟨_,(a1),H',⟨by first|omega|exact Nat.le_refl _⟩,⟨by (with_reducible repeat (first|refine blk_drewN ?_ _|refine blk_drew ?_|refine blk_alloc ?_ _));refine blk_far ?_ NB410_0.out _;(with_reducible repeat (first|refine blk_drewN ?_ _|refine blk_drew ?_|refine blk_alloc ?_ _));refine blk_far ?_ NB410_415.out _;(with_reducible repeat (first|refine blk_drewN ?_ _|refine blk_drew ?_|refine blk_alloc ?_ _));refine blk_far ?_ NB410_415.out _;(with_reducible repeat (first|refine blk_drewN ?_ _|refine blk_drew ?_|refine blk_alloc ?_ _));refine blk_far ?_ NB410_415.out _;(with_reducible repeat (first|refine blk_drewN ?_ _|refine blk_drew ?_|refine blk_alloc ?_ _));refine blk_far ?_ NB410_415.out _;(with_reducible repeat (first|refine blk_drewN ?_ _|refine blk_drew ?_|refine blk_alloc ?_ _));refine blk_far ?_ NB410_415.out _;(with_reducible repeat (first|refine blk_drewN ?_ _|refine blk_drew ?_|refine blk_alloc ?_ _));exact BK410.out⟩,⟨by (with_reducible repeat (first|refine blk_drewN ?_ _|refine blk_drew ?_|refine blk_alloc ?_ _));refine blk_far ?_ NB415_0.out _;(with_reducible repeat (first|refine blk_drewN ?_ _|refine blk_drew ?_|refine blk_alloc ?_ _));refine blk_put (cs:=#[.int .i64 (wrap64 (t411)), .int .i64 0, .string (⟨#[]⟩ : ByteArray), .int .i64 0, .slice none 0 0]) ?_ 4 _ rfl;(with_reducible repeat (first|refine blk_drewN ?_ _|refine blk_drew ?_|refine blk_alloc ?_ _));refine blk_put (cs:=#[.int .i64 (wrap64 (t411)), .int .i64 0, .string (⟨#[]⟩ : ByteArray), .int .i64 0, .slice none 0 0]) ?_ 3 _ rfl;(with_reducible repeat (first|refine blk_drewN ?_ _|refine blk_drew ?_|refine blk_alloc ?_ _));refine blk_put (cs:=#[.int .i64 (wrap64 (t411)), .int .i64 0, .string (⟨#[]⟩ : ByteArray), .int .i64 0, .slice none 0 0]) ?_ 2 _ rfl;(with_reducible repeat (first|refine blk_drewN ?_ _|refine blk_drew ?_|refine blk_alloc ?_ _));refine blk_put (cs:=#[.int .i64 (wrap64 (t411)), .int .i64 0, .string (⟨#[]⟩ : ByteArray), .int .i64 0, .slice none 0 0]) ?_ 1 _ rfl;(with_reducible repeat (first|refine blk_drewN ?_ _|refine blk_drew ?_|refine blk_alloc ?_ _));refine blk_put (cs:=#[.int .i64 0, .int .i64 0, .string (⟨#[]⟩ : ByteArray), .int .i64 0, .slice none 0 0]) ?_ 0 _ rfl;(with_reducible repeat (first|refine blk_drewN ?_ _|refine blk_drew ?_|refine blk_alloc ?_ _));exact BK415.out⟩,⟨by first|((repeat (first|(with_reducible first|exact HI0.out|apply IsS76.alloc|apply IsS76.drewN|apply IsS76.drew|apply IsS76.set_1|apply IsS76.set_2|refine IsS76.far ?_ NB0_410.out _|(apply IsS76.far;case hne => exact NB0_410.out)|refine IsS76.far ?_ NB0_415.out _|(apply IsS76.far;case hne => exact NB0_415.out))|exact HI0.out));done)|((simp only [*]);(repeat (first|(with_reducible first|exact HI0.out|apply IsS76.alloc|apply IsS76.drewN|apply IsS76.drew|apply IsS76.set_1|apply IsS76.set_2|refine IsS76.far ?_ NB0_410.out _|(apply IsS76.far;case hne => exact NB0_410.out)|refine IsS76.far ?_ NB0_415.out _|(apply IsS76.far;case hne => exact NB0_415.out))|exact HI0.out)))⟩,⟨by repeat (first|(with_reducible first|exact HK.out|apply KeepBut.set_|apply keep_drewN|apply keep_drew|apply keep_alloc|refine keep_far ?_ GW410.out _|refine keep_far ?_ GW415.out _)|exact HK.out)⟩,⟨by repeat (first|(with_reducible first|exact HB.out|apply below_alloc|apply pw_below_drewN|apply below_drew1|refine below_set ?_ (IsS76.ge HI0.out)|refine below_set ?_ GE410.out|refine below_set ?_ GE415.out)|exact HB.out)⟩⟩
     case rest =>
      clear HC56
      try clear c1
      try clear c2
      try clear p2
      try clear c3
      try clear c4
      try clear c4b0
      try clear c4b1
      try clear c5
      try clear c6
      try clear p6
      try clear c10
      try clear c11
      try clear c16
      try clear c18
      try clear c18b0
      try clear c18b1
      try clear c23
      try clear c24
      try clear c28
      try clear c30
      try clear c30b0
      try clear c30b1
      try clear c32
      try clear c36
      try clear c37
      try clear c39
      try clear c42
      try clear c43
      try clear c46
      try clear c47
      try clear c48
      try clear c53
      try clear c55
      try clear c55b0
      try clear c55b1
      try clear c60
      try clear c61
      try clear c63
      try clear p64
      try clear hcz12_0
      try clear hcz12_1
      try clear hcz12_2
      try clear hcz12_3
      try clear hcz12_4
      try clear hcz13_0
      try clear hcz13_1
      try clear hcz13_2
      try clear hcz15_0
      try clear hcz15_1
      try clear hcz15_2
      try clear hcz15_3
      try clear hcz15_4
      try clear hcz17_0
      try clear hcz17_1
      try clear hcz17_2
      try clear hcz17_3
      try clear hcz17_4
      try clear hcz25_0
      try clear hcz25_1
      try clear hcz25_2
      try clear hcz25_3
      try clear hcz25_4
      try clear hcz27_0
      try clear hcz27_1
      try clear hcz27_2
      try clear hcz27_3
      try clear hcz27_4
      try clear hcz29_0
      try clear hcz29_1
      try clear hcz29_2
      try clear hcz29_3
      try clear hcz29_4
      try clear hcz38_0
      try clear hcz38_1
      try clear hcz38_2
      try clear hcz38_3
      try clear hcz38_4
      try clear hcz40_0
      try clear hcz40_1
      try clear hcz40_2
      try clear hcz40_3
      try clear hcz40_4
      try clear hcz41_0
      try clear hcz41_1
      try clear hcz41_2
      try clear hcz43_0
      try clear hcz43_1
      try clear hcz43_2
      try clear hcz43_3
      try clear hcz43_4
      try clear hcz49_0
      try clear hcz49_1
      try clear hcz49_2
      try clear hcz49_3
      try clear hcz49_4
      try clear hcz51_0
      try clear hcz51_1
      try clear hcz51_2
      try clear hcz51_3
      try clear hcz51_4
      try clear hcz52_0
      try clear hcz52_1
      try clear hcz52_2
      try clear hcz54_0
      try clear hcz54_1
      try clear hcz54_2
      try clear hcz54_3
      try clear hcz54_4
      try clear hcz62_0
      try clear hcz62_1
      try clear hcz62_2
      try clear hcz62_3
      try clear hcz62_4
      try clear hcz64_0
      try clear hcz64_1
      try clear hcz64_2
      try clear hcz65_0
      try clear hcz65_1
      try clear hcz65_2
      try clear hfz12_0
      try clear hfz12_1
      try clear hfz12_2
      try clear hfz12_3
      try clear hfz12_4
      try clear hfz13_0
      try clear hfz13_1
      try clear hfz13_2
      try clear hfz15_0
      try clear hfz15_1
      try clear hfz15_2
      try clear hfz15_3
      try clear hfz15_4
      try clear hfz17_0
      try clear hfz17_1
      try clear hfz17_2
      try clear hfz17_3
      try clear hfz17_4
      try clear hfz25_0
      try clear hfz25_1
      try clear hfz25_2
      try clear hfz25_3
      try clear hfz25_4
      try clear hfz27_0
      try clear hfz27_1
      try clear hfz27_2
      try clear hfz27_3
      try clear hfz27_4
      try clear hfz29_0
      try clear hfz29_1
      try clear hfz29_2
      try clear hfz29_3
      try clear hfz29_4
      try clear hfz38_0
      try clear hfz38_1
      try clear hfz38_2
      try clear hfz38_3
      try clear hfz38_4
      try clear hfz40_0
      try clear hfz40_1
      try clear hfz40_2
      try clear hfz40_3
      try clear hfz40_4
      try clear hfz41_0
      try clear hfz41_1
      try clear hfz41_2
      try clear hfz43_0
      try clear hfz43_1
      try clear hfz43_2
      try clear hfz43_3
      try clear hfz43_4
      try clear hfz49_0
      try clear hfz49_1
      try clear hfz49_2
      try clear hfz49_3
      try clear hfz49_4
      try clear hfz51_0
      try clear hfz51_1
      try clear hfz51_2
      try clear hfz51_3
      try clear hfz51_4
      try clear hfz52_0
      try clear hfz52_1
      try clear hfz52_2
      try clear hfz54_0
      try clear hfz54_1
      try clear hfz54_2
      try clear hfz54_3
      try clear hfz54_4
      try clear hfz62_0
      try clear hfz62_1
      try clear hfz62_2
      try clear hfz62_3
      try clear hfz62_4
      try clear hfz64_0
      try clear hfz64_1
      try clear hfz64_2
      try clear hfz65_0
      try clear hfz65_1
      try clear hfz65_2
      obtain ⟨kq,x1002_55,HA,HJ55,BK410,BK415,HI0,HK,HB⟩:=hcut
      cases kq with
      | zero => exact absurd HA.out (by simp [codec_reader_value.j0])
      | succ kj55 =>
       have H:=HA.out
       clear HA
       simp only [codec_reader_value.j0] at H
       replace H:=Option.bind_eq_some_iff.mp H
       obtain ⟨⟨t430,t431,t432,t433⟩,A660,H⟩:=H
       replace H : ((codec_reader_count.f kj55 t431 t432 t433 12).bind fun bt434 => (codec_reader_value.l0 kj55 bt434.1 0 bt434.2.1 bt434.2.2.1 bt434.2.2.2 (wrap64 (t411)) 0 (⟨#[]⟩ : ByteArray) t430 ([] : List (S24)))) = some (r1,r2,r3,r4,r5,r6,r7,r8):=H
       have A66:=Aside0.mk A660
       clear A660
       replace H:=Option.bind_eq_some_iff.mp H
       obtain ⟨⟨t434,t435,t436,t437⟩,A670,H⟩:=H
       replace H : (codec_reader_value.l0 kj55 t434 0 t435 t436 t437 (wrap64 (t411)) 0 (⟨#[]⟩ : ByteArray) t430 ([] : List (S24))) = some (r1,r2,r3,r4,r5,r6,r7,r8):=H
       have A67:=Aside0.mk A670
       clear A670
       have H':=Aside0.mk H
       clear H
       go_wp2_with (first|((with_reducible refine gate_callee (f:=44) rfl ?_);refine goesL_ (some 71) rfl rfl Try.func44 (by kernel_rfl) rfl #[.pointer (some ⟨g,0,none⟩), .int .u64 15] rfl (by (try simp only [List.map_toArray,List.map_cons,List.map_nil]);first|done|rfl|(simp only [List.length_drop,List.length_take];rfl)|(go_simp;done)|(go_simp;simp;done)) ?_;(with_reducible refine (codec_reader_count.calls kj55 g t412 t413 x1002_55 15 t430 t431 t432 t433 w0 _ ?side1 ?side2 A66.out).mono ?_);(case side1 => first|((repeat (first|(with_reducible first|exact HI0.out|apply IsS76.alloc|apply IsS76.drewN|apply IsS76.drew|apply IsS76.set_1|apply IsS76.set_2|refine IsS76.far ?_ NB0_410.out _|(apply IsS76.far;case hne => exact NB0_410.out)|refine IsS76.far ?_ NB0_415.out _|(apply IsS76.far;case hne => exact NB0_415.out))|exact HI0.out));done)|((simp only [*]);(repeat (first|(with_reducible first|exact HI0.out|apply IsS76.alloc|apply IsS76.drewN|apply IsS76.drew|apply IsS76.set_1|apply IsS76.set_2|refine IsS76.far ?_ NB0_410.out _|(apply IsS76.far;case hne => exact NB0_410.out)|refine IsS76.far ?_ NB0_415.out _|(apply IsS76.far;case hne => exact NB0_415.out))|exact HI0.out))));(case side2 => repeat (first|(with_reducible first|exact HB.out|apply below_alloc|apply pw_below_drewN|apply below_drew1|refine below_set ?_ (IsS76.ge HI0.out)|refine below_set ?_ GE410.out|refine below_set ?_ GE415.out)|exact HB.out));rintro e w68 ⟨rfl,hi,hb,hk⟩;refine ⟨_,rfl,?_⟩;have n0_:=Aside0.mk (KeepBut.blk hk (g':=gb410) (o := .cells #[.int .i64 0, .int .i64 0, .string (⟨#[]⟩ : ByteArray), .int .i64 0, .slice none 0 0] 24 (0,0)) (by (with_reducible repeat (first|refine blk_drewN ?_ _|refine blk_drew ?_|refine blk_alloc ?_ _));exact BK410.out) NB410_0.out (by simp));have n1_:=Aside0.mk (KeepBut.blk hk (g':=gb415) (o := .cells #[.int .i64 (wrap64 (t411)), .int .i64 0, .string (⟨#[]⟩ : ByteArray), .int .i64 0, .slice none 0 0] 24 (0,0)) (by (with_reducible repeat (first|refine blk_drewN ?_ _|refine blk_drew ?_|refine blk_alloc ?_ _));exact BK415.out) NB415_0.out (by simp));have n2_:=Aside0.mk (KeepBut.trans (by repeat (first|(with_reducible first|exact HK.out|apply KeepBut.set_|apply keep_drewN|apply keep_drew|apply keep_alloc|refine keep_far ?_ GW410.out _|refine keep_far ?_ GW415.out _)|exact HK.out)) hk (.inl rfl));have n3_:=Aside0.mk (hb);have n4_:=Aside0.mk (hi);clear BK410;clear BK415;clear HK;clear HB;clear HI0;have BK410:=n0_;have BK415:=n1_;have HK:=n2_;have HB:=n3_;have HI0:=n4_;clear n0_ n1_ n2_ n3_ n4_;(try clear hb);(try clear hb2);(try clear hk);(try clear hi);have hnb69:=NB415_410.out;have hnc69:=NB410_415.out;have hnb70:=NB415_0.out;have hnc70:=NB0_415.out;have hcz71_0 : w68.cell? ⟨gb415,0,none⟩ = some (.int .i64 (wrap64 (t411))):=(blk_cell BK415.out 0).trans rfl;have hcz71_1 : w68.cell? ⟨gb415,1,none⟩ = some (.int .i64 0):=(blk_cell BK415.out 1).trans rfl;have hcz71_2 : w68.cell? ⟨gb415,2,none⟩ = some (.string (⟨#[]⟩ : ByteArray)):=(blk_cell BK415.out 2).trans rfl;have hcz71_3 : w68.cell? ⟨gb415,3,none⟩ = some (.int .i64 0):=(blk_cell BK415.out 3).trans rfl;have hcz71_4 : w68.cell? ⟨gb415,4,none⟩ = some (.slice none 0 0):=(blk_cell BK415.out 4).trans rfl;have hfz71_0:=blk_frozen BK415.out 0;have hfz71_1:=blk_frozen BK415.out 1;have hfz71_2:=blk_frozen BK415.out 2;have hfz71_3:=blk_frozen BK415.out 3;have hfz71_4:=blk_frozen BK415.out 4)|((with_reducible refine gate_callee (f:=44) rfl ?_);refine goesL_ (some 74) rfl rfl Try.func44 (by kernel_rfl) rfl #[.pointer (some ⟨g,0,none⟩), .int .u64 12] rfl (by (try simp only [List.map_toArray,List.map_cons,List.map_nil]);first|done|rfl|(simp only [List.length_drop,List.length_take];rfl)|(go_simp;done)|(go_simp;simp;done)) ?_;(with_reducible refine (codec_reader_count.calls kj55 g t431 t432 t433 12 t434 t435 t436 t437 w0 _ ?side1 ?side2 A67.out).mono ?_);(case side1 => first|((repeat (first|(with_reducible first|exact HI0.out|apply IsS76.alloc|apply IsS76.drewN|apply IsS76.drew|apply IsS76.set_1|apply IsS76.set_2|refine IsS76.far ?_ NB0_410.out _|(apply IsS76.far;case hne => exact NB0_410.out)|refine IsS76.far ?_ NB0_415.out _|(apply IsS76.far;case hne => exact NB0_415.out))|exact HI0.out));done)|((simp only [*]);(repeat (first|(with_reducible first|exact HI0.out|apply IsS76.alloc|apply IsS76.drewN|apply IsS76.drew|apply IsS76.set_1|apply IsS76.set_2|refine IsS76.far ?_ NB0_410.out _|(apply IsS76.far;case hne => exact NB0_410.out)|refine IsS76.far ?_ NB0_415.out _|(apply IsS76.far;case hne => exact NB0_415.out))|exact HI0.out))));(case side2 => repeat (first|(with_reducible first|exact HB.out|apply below_alloc|apply pw_below_drewN|apply below_drew1|refine below_set ?_ (IsS76.ge HI0.out)|refine below_set ?_ GE410.out|refine below_set ?_ GE415.out)|exact HB.out));rintro e w72 ⟨rfl,hi,hb,hk⟩;refine ⟨_,rfl,?_⟩;have n0_:=Aside0.mk (KeepBut.blk hk (g':=gb410) (o := .cells #[.int .i64 0, .int .i64 0, .string (⟨#[]⟩ : ByteArray), .int .i64 0, .slice none 0 0] 24 (0,0)) (by (with_reducible repeat (first|refine blk_drewN ?_ _|refine blk_drew ?_|refine blk_alloc ?_ _));refine blk_far ?_ NB410_415.out _;(with_reducible repeat (first|refine blk_drewN ?_ _|refine blk_drew ?_|refine blk_alloc ?_ _));exact BK410.out) NB410_0.out (by simp));have n1_:=Aside0.mk (KeepBut.blk hk (g':=gb415) (o := .cells #[.int .i64 (wrap64 (t411)), .int .i64 0, .string (⟨#[]⟩ : ByteArray), .int .i64 t430, .slice none 0 0] 24 (0,0)) (by (with_reducible repeat (first|refine blk_drewN ?_ _|refine blk_drew ?_|refine blk_alloc ?_ _));refine blk_put (cs:=#[.int .i64 (wrap64 (t411)), .int .i64 0, .string (⟨#[]⟩ : ByteArray), .int .i64 0, .slice none 0 0]) ?_ 3 _ rfl;(with_reducible repeat (first|refine blk_drewN ?_ _|refine blk_drew ?_|refine blk_alloc ?_ _));exact BK415.out) NB415_0.out (by simp));have n2_:=Aside0.mk (KeepBut.trans (by repeat (first|(with_reducible first|exact HK.out|apply KeepBut.set_|apply keep_drewN|apply keep_drew|apply keep_alloc|refine keep_far ?_ GW410.out _|refine keep_far ?_ GW415.out _)|exact HK.out)) hk (.inl rfl));have n3_:=Aside0.mk (hb);have n4_:=Aside0.mk (hi);clear BK410;clear BK415;clear HK;clear HB;clear HI0;have BK410:=n0_;have BK415:=n1_;have HK:=n2_;have HB:=n3_;have HI0:=n4_;clear n0_ n1_ n2_ n3_ n4_;(try clear hb);(try clear hb2);(try clear hk);(try clear hi)))
       go_loopg [75] kj55 (fun kq v75 w' => ∃ (x75_2 : Int) (x1000_2 : List Int) (x1001_2 : Int) (x1002_2 : Bool) (x416004_2 : List (S24)) (u416004 : Value),v75 = .int .i64 x75_2 ∧ Aside0 (codec_reader_value.l0 kq t434 x75_2 x1000_2 x1001_2 x1002_2 (wrap64 (t411)) 0 (⟨#[]⟩ : ByteArray) t430 x416004_2 = some (r1,r2,r3,r4,r5,r6,r7,r8)) ∧ Aside0 (kq ≤ kj55) ∧ Aside0 (Kd.R k24 24 w' w.heap.size (fun k_ => k_ ≠ gb410 ∧ k_ ≠ gb415) u416004 x416004_2) ∧ Aside0 (w'.heap[gb410]? = some (.cells #[.int .i64 0, .int .i64 0, .string (⟨#[]⟩ : ByteArray), .int .i64 0,(.slice none 0 0)] 24 (0,0))) ∧ Aside0 (w'.heap[gb415]? = some (.cells #[.int .i64 (wrap64 (t411)), .int .i64 0, .string (⟨#[]⟩ : ByteArray), .int .i64 t430,u416004] 24 (0,0))) ∧ Aside0 (IsS76 w0 w' g x1000_2 x1001_2 x1002_2) ∧ Aside0 (KeepBut w w' g none) ∧ Aside0 (Below w0.heap.size w0 w'))
       case atStart => exact ⟨(0),(t435),(t436),(t437),(([] : List (S24))),(.slice none 0 0),(by first|rfl|(simp;done)|(simp [*];done)),H',⟨Nat.le_refl _⟩,⟨by first|exact Kd.R_nil _ _ _ _ _|exact Kd.N_nil _ _ _ _ _|exact Kd.V_nil _ _ _ _ _|exact Kd.Q_nil _ _ _ _ _|exact Kd.S_nil _ _ _ _ _⟩,⟨by (with_reducible repeat (first|refine blk_drewN ?_ _|refine blk_drew ?_|refine blk_alloc ?_ _));exact BK410.out⟩,⟨by (with_reducible repeat (first|refine blk_drewN ?_ _|refine blk_drew ?_|refine blk_alloc ?_ _));exact BK415.out⟩,⟨by first|((repeat (first|(with_reducible first|exact HI0.out|apply IsS76.alloc|apply IsS76.drewN|apply IsS76.drew|apply IsS76.set_1|apply IsS76.set_2|refine IsS76.far ?_ NB0_410.out _|(apply IsS76.far;case hne => exact NB0_410.out)|refine IsS76.far ?_ NB0_415.out _|(apply IsS76.far;case hne => exact NB0_415.out))|exact HI0.out));done)|((simp only [*]);(repeat (first|(with_reducible first|exact HI0.out|apply IsS76.alloc|apply IsS76.drewN|apply IsS76.drew|apply IsS76.set_1|apply IsS76.set_2|refine IsS76.far ?_ NB0_410.out _|(apply IsS76.far;case hne => exact NB0_410.out)|refine IsS76.far ?_ NB0_415.out _|(apply IsS76.far;case hne => exact NB0_415.out))|exact HI0.out)))⟩,⟨by repeat (first|(with_reducible first|exact HK.out|apply KeepBut.set_|apply keep_drewN|apply keep_drew|apply keep_alloc|refine keep_far ?_ GW410.out _|refine keep_far ?_ GW415.out _)|exact HK.out)⟩,⟨by repeat (first|(with_reducible first|exact HB.out|apply below_alloc|apply pw_below_drewN|apply below_drew1|refine below_set ?_ (IsS76.ge HI0.out)|refine below_set ?_ GE410.out|refine below_set ?_ GE415.out)|exact HB.out)⟩⟩
       case round =>
        clear H'
        try clear c1
        try clear c2
        try clear p2
        try clear c3
        try clear c4
        try clear c4b0
        try clear c4b1
        try clear c5
        try clear c6
        try clear p6
        try clear c7
        try clear c10
        try clear c11
        try clear c16
        try clear c18
        try clear c18b0
        try clear c18b1
        try clear c23
        try clear c24
        try clear c28
        try clear c30
        try clear c30b0
        try clear c30b1
        try clear c32
        try clear c36
        try clear c37
        try clear c39
        try clear c42
        try clear c43
        try clear c44
        try clear c46
        try clear c47
        try clear c48
        try clear c53
        try clear c55
        try clear c55b0
        try clear c55b1
        try clear c60
        try clear c61
        try clear c63
        try clear p64
        try clear c69
        try clear c70
        try clear hcz12_0
        try clear hcz12_1
        try clear hcz12_2
        try clear hcz12_3
        try clear hcz12_4
        try clear hcz13_0
        try clear hcz13_1
        try clear hcz13_2
        try clear hcz15_0
        try clear hcz15_1
        try clear hcz15_2
        try clear hcz15_3
        try clear hcz15_4
        try clear hcz17_0
        try clear hcz17_1
        try clear hcz17_2
        try clear hcz17_3
        try clear hcz17_4
        try clear hcz25_0
        try clear hcz25_1
        try clear hcz25_2
        try clear hcz25_3
        try clear hcz25_4
        try clear hcz27_0
        try clear hcz27_1
        try clear hcz27_2
        try clear hcz27_3
        try clear hcz27_4
        try clear hcz29_0
        try clear hcz29_1
        try clear hcz29_2
        try clear hcz29_3
        try clear hcz29_4
        try clear hcz38_0
        try clear hcz38_1
        try clear hcz38_2
        try clear hcz38_3
        try clear hcz38_4
        try clear hcz40_0
        try clear hcz40_1
        try clear hcz40_2
        try clear hcz40_3
        try clear hcz40_4
        try clear hcz41_0
        try clear hcz41_1
        try clear hcz41_2
        try clear hcz43_0
        try clear hcz43_1
        try clear hcz43_2
        try clear hcz43_3
        try clear hcz43_4
        try clear hcz49_0
        try clear hcz49_1
        try clear hcz49_2
        try clear hcz49_3
        try clear hcz49_4
        try clear hcz51_0
        try clear hcz51_1
        try clear hcz51_2
        try clear hcz51_3
        try clear hcz51_4
        try clear hcz52_0
        try clear hcz52_1
        try clear hcz52_2
        try clear hcz54_0
        try clear hcz54_1
        try clear hcz54_2
        try clear hcz54_3
        try clear hcz54_4
        try clear hcz62_0
        try clear hcz62_1
        try clear hcz62_2
        try clear hcz62_3
        try clear hcz62_4
        try clear hcz64_0
        try clear hcz64_1
        try clear hcz64_2
        try clear hcz65_0
        try clear hcz65_1
        try clear hcz65_2
        try clear hcz71_0
        try clear hcz71_1
        try clear hcz71_2
        try clear hcz71_3
        try clear hcz71_4
        try clear hfz12_0
        try clear hfz12_1
        try clear hfz12_2
        try clear hfz12_3
        try clear hfz12_4
        try clear hfz13_0
        try clear hfz13_1
        try clear hfz13_2
        try clear hfz15_0
        try clear hfz15_1
        try clear hfz15_2
        try clear hfz15_3
        try clear hfz15_4
        try clear hfz17_0
        try clear hfz17_1
        try clear hfz17_2
        try clear hfz17_3
        try clear hfz17_4
        try clear hfz25_0
        try clear hfz25_1
        try clear hfz25_2
        try clear hfz25_3
        try clear hfz25_4
        try clear hfz27_0
        try clear hfz27_1
        try clear hfz27_2
        try clear hfz27_3
        try clear hfz27_4
        try clear hfz29_0
        try clear hfz29_1
        try clear hfz29_2
        try clear hfz29_3
        try clear hfz29_4
        try clear hfz38_0
        try clear hfz38_1
        try clear hfz38_2
        try clear hfz38_3
        try clear hfz38_4
        try clear hfz40_0
        try clear hfz40_1
        try clear hfz40_2
        try clear hfz40_3
        try clear hfz40_4
        try clear hfz41_0
        try clear hfz41_1
        try clear hfz41_2
        try clear hfz43_0
        try clear hfz43_1
        try clear hfz43_2
        try clear hfz43_3
        try clear hfz43_4
        try clear hfz49_0
        try clear hfz49_1
        try clear hfz49_2
        try clear hfz49_3
        try clear hfz49_4
        try clear hfz51_0
        try clear hfz51_1
        try clear hfz51_2
        try clear hfz51_3
        try clear hfz51_4
        try clear hfz52_0
        try clear hfz52_1
        try clear hfz52_2
        try clear hfz54_0
        try clear hfz54_1
        try clear hfz54_2
        try clear hfz54_3
        try clear hfz54_4
        try clear hfz62_0
        try clear hfz62_1
        try clear hfz62_2
        try clear hfz62_3
        try clear hfz62_4
        try clear hfz64_0
        try clear hfz64_1
        try clear hfz64_2
        try clear hfz65_0
        try clear hfz65_1
        try clear hfz65_2
        try clear hfz71_0
        try clear hfz71_1
        try clear hfz71_2
        try clear hfz71_3
        try clear hfz71_4
        try clear p2
        try clear p6
        try clear p64
        obtain ⟨x75_2,x1000_2,x1001_2,x1002_2,x416004_2,u416004,rfl,HA,HK2,HO_416004,BK410,BK415,HI0,HK,HB⟩:=hrel
        cases gk with
        | zero => exact absurd HA.out (by simp [codec_reader_value.l0])
        | succ k2 =>
         have H:=HA.out
         clear HA
         simp only [codec_reader_value.l0] at H
         by_cases c73 : x75_2 < t434
         ·rw [if_pos c73] at H
          have c73b0 : decide (x75_2 < t434) = true:=decide_eq_true c73
          clear c73
          replace H:=Option.bind_eq_some_iff.mp H
          obtain ⟨⟨t438,t439,t440,t441,t442,t445,t446,t447⟩,A740,H⟩:=H
          replace H : (if x416004_2.length < 2199023255552 then (codec_reader_value.l0 k2 t434 (wrap64 (x75_2 + 1)) t445 t446 t447 (wrap64 (t411)) 0 (⟨#[]⟩ : ByteArray) t430 (x416004_2 ++ [(⟨t438,t439,t440,t441,t442⟩ : S24)])) else (none)) = some (r1,r2,r3,r4,r5,r6,r7,r8):=H
          have A74:=Aside0.mk A740
          clear A740
          by_cases c75 : x416004_2.length < 2199023255552
          ·rw [if_pos c75] at H
           have LMc75:=Aside0.mk c75
           clear c75
           obtain ⟨y448,hy448⟩ : ∃ y_ : List (S24),y_ = (x416004_2 ++ [(⟨t438,t439,t440,t441,t442⟩ : S24)]):=⟨_,rfl⟩
           replace H : (codec_reader_value.l0 k2 t434 (wrap64 (x75_2 + 1)) t445 t446 t447 (wrap64 (t411)) 0 (⟨#[]⟩ : ByteArray) t430 y448) = some (r1,r2,r3,r4,r5,r6,r7,r8):=by first|(rw [hy448];with_reducible exact H)|(have H2_:=(Option.bind_some _ _).symm.trans H;rw [hy448];with_reducible exact H2_)|(have H2_:=(Option.bind_some _ _).symm.trans H;with_reducible exact H2_)|with_reducible exact H|(rw [hy448];exact H)|exact H
           have Ny448:=Aside0.mk hy448
           clear hy448
           have H':=Aside0.mk H
           clear H
           try go_wp2
           have n0_:=Aside0.mk (Kd.R_drew HO_416004.out)
           have n1_:=Aside0.mk (blk_drew BK410.out)
           have n2_:=Aside0.mk (blk_drew BK415.out)
           have n3_:=Aside0.mk (IsS76.drew HI0.out)
           have n4_:=Aside0.mk (keep_drew HK.out)
           have n5_:=Aside0.mk (below_drew1 HB.out)
           clear HO_416004
           clear BK410
           clear BK415
           clear HI0
           clear HK
           clear HB
           have HO_416004:=n0_
           have BK410:=n1_
           have BK415:=n2_
           have HI0:=n3_
           have HK:=n4_
           have HB:=n5_
           clear n0_ n1_ n2_ n3_ n4_ n5_
           refine start_ (n:=8) (S:=fun w' => w'.cell? ⟨gb415,0,none⟩ = some (.int .i64 (wrap64 (t411))) ∧ w'.cell? ⟨gb415,1,none⟩ = some (.int .i64 0) ∧ w'.cell? ⟨gb415,2,none⟩ = some (.string (⟨#[]⟩ : ByteArray)) ∧ w'.cell? ⟨gb415,3,none⟩ = some (.int .i64 t430) ∧ w'.cell? ⟨gb415,4,none⟩ = some (u416004)) (ds:=[7]) #[false,false,false,false,false,false,false,false] (by kernel_rfl) rfl rfl ⟨(blk_cell BK415.out 0).trans rfl,(blk_cell BK415.out 1).trans rfl,(blk_cell BK415.out 2).trans rfl,(blk_cell BK415.out 3).trans rfl,(blk_cell BK415.out 4).trans rfl⟩ (fun hHeld => ?_);refine with_tabW codec_reader_value.tab18 codec_reader_value.bits18 (fun HT_ HW_ => ?_)
           generalize wr.drew = w76 at HO_416004 BK410 BK415 HI0 HK HB hHeld ⊢
           refine pure_ (i:=0) (N:=some 77) (v:=?_) (a':=?_) #[true,false,false,false,false,false,false,false] rfl rfl (any_of HT_.out (by kernel_rfl)) (fun _ _ _ h => h) (Or.inl ⟨by rfl,?_⟩) ?_ ?_
           rotate_left
           ·intro w'
            go_simp
            with_reducible rfl
           rotate_left
           ·simp only [Act.put,List.setIfInBounds_toArray,List.set_cons_zero,List.set_cons_succ,i64_w,i32_w]
            rfl
           refine pure_ (i:=2) (N:=some 79) (v:=?_) (a':=?_) #[true,false,true,false,false,false,false,false] rfl rfl (any_of HT_.out (by kernel_rfl)) (fun _ _ _ h => h) (Or.inl ⟨by rfl,?_⟩) ?_ ?_
           rotate_left
           ·intro w'
            go_simp
            with_reducible rfl
           rotate_left
           ·simp only [Act.put,List.setIfInBounds_toArray,List.set_cons_zero,List.set_cons_succ,i64_w,i32_w]
            rfl
           refine take_ (i:=1) (N:=some 78) (v:=?_) (a':=?_) #[true,true,true,false,false,false,false,false] rfl rfl (take_ofW HT_.out HW_.out (by kernel_rfl)) (fun _ _ _ h => h) (Or.inl ⟨by rfl,?_⟩) hHeld ?_ ?_
           rotate_left
           ·rintro w' ⟨s0,s1,s2,s3,s4⟩
            go_simp
            with_reducible rfl
           rotate_left
           ·simp only [Act.put,List.setIfInBounds_toArray,List.set_cons_zero,List.set_cons_succ,i64_w,i32_w]
            rfl
           refine one_ (i:=3) (N:=some 80) #[true,true,true,true,false,false,false,false] rfl rfl (one_of HT_.out (by kernel_rfl)) (by decide) (fun K hK => ?_)
           refine goes_ Try.func39 (by kernel_rfl) rfl #[.pointer (some ⟨g,0,none⟩), .bool true] (by rfl) rfl rfl (by (try simp only [List.map_toArray,List.map_cons,List.map_nil]);first|done|rfl|(simp only [List.length_drop,List.length_take];rfl)|(go_simp;done)|(go_simp;simp;done)) ?_
           with_reducible refine (ih k2 (by have:=HJ55.out;have:=HK2.out;omega) g x1000_2 x1001_2 x1002_2 true t438 t439 t440 t441 t442 t445 t446 t447 w0 _ ?side1 ?side2 A74.out).mono ?_
           (case side1 => first|((repeat (first|(with_reducible first|exact HI0.out|apply IsS76.alloc|apply IsS76.drewN|apply IsS76.drew|apply IsS76.set_1|apply IsS76.set_2|refine IsS76.far ?_ NB0_410.out _|(apply IsS76.far;case hne => exact NB0_410.out)|refine IsS76.far ?_ NB0_415.out _|(apply IsS76.far;case hne => exact NB0_415.out))|exact HI0.out));done)|((simp only [*]);(repeat (first|(with_reducible first|exact HI0.out|apply IsS76.alloc|apply IsS76.drewN|apply IsS76.drew|apply IsS76.set_1|apply IsS76.set_2|refine IsS76.far ?_ NB0_410.out _|(apply IsS76.far;case hne => exact NB0_410.out)|refine IsS76.far ?_ NB0_415.out _|(apply IsS76.far;case hne => exact NB0_415.out))|exact HI0.out))))
           (case side2 => repeat (first|(with_reducible first|exact HB.out|apply below_alloc|apply pw_below_drewN|apply below_drew1|refine below_set ?_ (IsS76.ge HI0.out)|refine below_set ?_ GE410.out|refine below_set ?_ GE415.out)|exact HB.out))
           rintro e w77 ⟨v443,rfl,ho0,hi,hb,hk⟩
           refine ⟨_,rfl,?_⟩
           have n0_:=Aside0.mk (Kd.R_mono (Kd.R_told (Kd.R_oldK (IsS76.apart (show IsS76 w0 _ g x1000_2 x1001_2 x1002_2 from by first|((repeat (first|(with_reducible first|exact HI0.out|apply IsS76.alloc|apply IsS76.drewN|apply IsS76.drew|apply IsS76.set_1|apply IsS76.set_2|refine IsS76.far ?_ NB0_410.out _|(apply IsS76.far;case hne => exact NB0_410.out)|refine IsS76.far ?_ NB0_415.out _|(apply IsS76.far;case hne => exact NB0_415.out))|exact HI0.out));done)|((simp only [*]);(repeat (first|(with_reducible first|exact HI0.out|apply IsS76.alloc|apply IsS76.drewN|apply IsS76.drew|apply IsS76.set_1|apply IsS76.set_2|refine IsS76.far ?_ NB0_410.out _|(apply IsS76.far;case hne => exact NB0_410.out)|refine IsS76.far ?_ NB0_415.out _|(apply IsS76.far;case hne => exact NB0_415.out))|exact HI0.out)))) (by (with_reducible repeat (first|apply Kd.R_alloc|apply Kd.R_drewN|apply Kd.R_drew));exact HO_416004.out) (by decide)) hk) (Kd.R_base ho0)) (fun _ h_ => h_.1))
           have n1_:=Aside0.mk (KeepBut.blk hk (g':=gb410) (o := .cells #[.int .i64 0, .int .i64 0, .string (⟨#[]⟩ : ByteArray), .int .i64 0, .slice none 0 0] 24 (0,0)) (by (with_reducible repeat (first|refine blk_drewN ?_ _|refine blk_drew ?_|refine blk_alloc ?_ _));exact BK410.out) NB410_0.out (by simp))
           have n2_:=Aside0.mk (KeepBut.blk hk (g':=gb415) (o := .cells #[.int .i64 (wrap64 (t411)), .int .i64 0, .string (⟨#[]⟩ : ByteArray), .int .i64 t430,u416004] 24 (0,0)) (by (with_reducible repeat (first|refine blk_drewN ?_ _|refine blk_drew ?_|refine blk_alloc ?_ _));exact BK415.out) NB415_0.out (by simp))
           have n3_:=Aside0.mk (Kd.R_lower (Kd.R_newB (Kd.R_newB (Kd.R_new' ho0 (Kd.R_lt (by (with_reducible repeat (first|apply Kd.R_alloc|apply Kd.R_drewN|apply Kd.R_drew));exact HO_416004.out))) (g:=gb410) (o := .cells #[.int .i64 0, .int .i64 0, .string (⟨#[]⟩ : ByteArray), .int .i64 0, .slice none 0 0] 24 (0,0)) (by (with_reducible repeat (first|refine blk_drewN ?_ _|refine blk_drew ?_|refine blk_alloc ?_ _));exact BK410.out)) (g:=gb415) (o := .cells #[.int .i64 (wrap64 (t411)), .int .i64 0, .string (⟨#[]⟩ : ByteArray), .int .i64 t430,u416004] 24 (0,0)) (by (with_reducible repeat (first|refine blk_drewN ?_ _|refine blk_drew ?_|refine blk_alloc ?_ _));exact BK415.out)) (keep_size (w:=w) (g:=g) (row:=none) (by repeat (first|(with_reducible first|exact HK.out|apply KeepBut.set_|apply keep_drewN|apply keep_drew|apply keep_alloc|refine keep_far ?_ GW410.out _|refine keep_far ?_ GW415.out _)|exact HK.out))))
           have n4_:=Aside0.mk (KeepBut.trans (by repeat (first|(with_reducible first|exact HK.out|apply KeepBut.set_|apply keep_drewN|apply keep_drew|apply keep_alloc|refine keep_far ?_ GW410.out _|refine keep_far ?_ GW415.out _)|exact HK.out)) hk (.inl rfl))
           have n5_:=Aside0.mk (hb)
           have n6_:=Aside0.mk (hi)
           clear HO_416004
           clear BK410
           clear BK415
           clear HK
           clear HB
           clear HI0
           have HO_416004:=n0_
           have BK410:=n1_
           have BK415:=n2_
           have HO444:=n3_
           have HK:=n4_
           have HB:=n5_
           have HI0:=n6_
           clear n0_ n1_ n2_ n3_ n4_ n5_ n6_
           (try clear hb)
           (try clear hb2)
           (try clear hk)
           (try clear hi)
           (try clear ho0)
           obtain ⟨Ao79,co79,eo79⟩:=Kd.R_slice HO444.out
           (first|subst eo79|(injection eo79 with f1_ f2_ f3_;have f4_:=f1_.symm;have f5_:=f3_.symm;clear f1_ f2_ f3_;subst f4_;subst f5_))
           refine hK.out _ _ ⟨(blk_cell BK415.out 0).trans rfl,(blk_cell BK415.out 1).trans rfl,(blk_cell BK415.out 2).trans rfl,(blk_cell BK415.out 3).trans rfl,(blk_cell BK415.out 4).trans rfl⟩ (fun hHeld => ?_)
           clear hK K
           refine norm_ (a':=?_) ?_ ?_
           rotate_left
           ·show Act.put _ (some 80) _ = _
            simp only [Act.put,List.setIfInBounds_toArray,List.set_cons_zero,List.set_cons_succ,i64_w,i32_w]
            rfl
           refine one_ (i:=4) (N:=some 81) #[true,true,true,true,true,false,false,false] rfl rfl (one_of HT_.out (by kernel_rfl)) (by decide) (fun K hK => ?_)
           refine value_ (w1:=?_) (v:=?_) (by rfl) rfl ?_ ?_
           rotate_left 2
           ·go_simp
            constructor
            ·rfl
            ·rfl
           refine hK.out _ _ ⟨(blk_cell (blk_alloc BK415.out _) 0).trans rfl,(blk_cell (blk_alloc BK415.out _) 1).trans rfl,(blk_cell (blk_alloc BK415.out _) 2).trans rfl,(blk_cell (blk_alloc BK415.out _) 3).trans rfl,(blk_cell (blk_alloc BK415.out _) 4).trans rfl⟩ (fun hHeld => ?_)
           clear hK K
           refine norm_ (a':=?_) ?_ ?_
           rotate_left
           ·show Act.put _ (some 81) _ = _
            simp only [Act.put,List.setIfInBounds_toArray,List.set_cons_zero,List.set_cons_succ,i64_w,i32_w]
            rfl
           refine one_ (i:=5) (N:=some 82) #[true,true,true,true,true,true,false,false] rfl rfl (one_of HT_.out (by kernel_rfl)) (by decide) (fun K hK => ?_)
           refine Kd.R_append_step k24 w.heap.size (by rfl) (.tmp 78) (.tmp 81) 22 24 (.agg #[(.int .i64 0),(.int .i64 0),(.string ⟨#[]⟩),(.int .i64 0),(.slice none 0 0)]) 64 rfl Try.underlying22 info24 rfl (by decide) (by omega) u416004 x416004_2 (⟨t438,t439,t440,t441,t442⟩ : S24) [.int .i64 t438, .int .i64 t439, .string t440, .int .i64 t441, .slice Ao79 t442.length co79] (fun k_ => k_ ≠ gb410 ∧ k_ ≠ gb415) (fun k_ => ((fun k_ => k_ ≠ gb410 ∧ k_ ≠ gb415)) k_ ∧ some k_ ≠ (u416004 : Value).ownBlock) rfl rfl ?aP (fun _ hk => hk) ?aF ?aO (Below.refl _ _) ?aS ?aL ?_
           (case aP => exact k24_mkM _ _ _ (⟨t438,t439,t440,t441,t442⟩ : S24) (Kd.R_mono (HO444.out) (fun k_ hk => ⟨⟨hk.1.2,hk.2⟩,hk.1.1.2⟩)))
           (case aF => exact (fun k_ hk => ⟨Kd.freshB (g:=gb410) (o := .cells #[.int .i64 0, .int .i64 0, .string (⟨#[]⟩ : ByteArray), .int .i64 0, .slice none 0 0] 24 (0,0)) (by (with_reducible repeat (first|refine blk_drewN ?_ _|refine blk_drew ?_|refine blk_alloc ?_ _));exact BK410.out) k_ hk,Kd.freshB (g:=gb415) (o := .cells #[.int .i64 (wrap64 (t411)), .int .i64 0, .string (⟨#[]⟩ : ByteArray), .int .i64 t430,u416004] 24 (0,0)) (by (with_reducible repeat (first|refine blk_drewN ?_ _|refine blk_drew ?_|refine blk_alloc ?_ _));exact BK415.out) k_ hk⟩))
           (case aO => exact (by (with_reducible repeat (first|apply Kd.R_alloc|apply Kd.R_drewN|apply Kd.R_drew));exact Kd.R_mono HO_416004.out (fun _ hk => ⟨hk.1.1,hk.1.2⟩)))
           (case aS => exact (keep_size (w:=w) (g:=g) (row:=none) (by repeat (first|(with_reducible first|exact HK.out|apply KeepBut.set_|apply keep_drewN|apply keep_drew|apply keep_alloc|refine keep_far ?_ GW410.out _|refine keep_far ?_ GW415.out _)|exact HK.out))))
           (case aL => have:=LMc75.out;omega)
           intro v449 w78 ho hb hg hat
           rw [← Ny448.out] at ho
           have n0_:=Aside0.mk (blk_grown (g:=gb410) (o := .cells #[.int .i64 0, .int .i64 0, .string (⟨#[]⟩ : ByteArray), .int .i64 0, .slice none 0 0] 24 (0,0)) (by (with_reducible repeat (first|refine blk_drewN ?_ _|refine blk_drew ?_|refine blk_alloc ?_ _));exact BK410.out) hg (Kd.R_away HO_416004.out (fun _ hk => hk.1.1)))
           have n1_:=Aside0.mk (blk_grown (g:=gb415) (o := .cells #[.int .i64 (wrap64 (t411)), .int .i64 0, .string (⟨#[]⟩ : ByteArray), .int .i64 t430,u416004] 24 (0,0)) (by (with_reducible repeat (first|refine blk_drewN ?_ _|refine blk_drew ?_|refine blk_alloc ?_ _));exact BK415.out) hg (Kd.R_away HO_416004.out (fun _ hk => hk.1.2)))
           have n2_:=Aside0.mk (IsS76.grown (by first|((repeat (first|(with_reducible first|exact HI0.out|apply IsS76.alloc|apply IsS76.drewN|apply IsS76.drew|apply IsS76.set_1|apply IsS76.set_2|refine IsS76.far ?_ NB0_410.out _|(apply IsS76.far;case hne => exact NB0_410.out)|refine IsS76.far ?_ NB0_415.out _|(apply IsS76.far;case hne => exact NB0_415.out))|exact HI0.out));done)|((simp only [*]);(repeat (first|(with_reducible first|exact HI0.out|apply IsS76.alloc|apply IsS76.drewN|apply IsS76.drew|apply IsS76.set_1|apply IsS76.set_2|refine IsS76.far ?_ NB0_410.out _|(apply IsS76.far;case hne => exact NB0_410.out)|refine IsS76.far ?_ NB0_415.out _|(apply IsS76.far;case hne => exact NB0_415.out))|exact HI0.out)))) hg (IsS76.own_ne HI0.out HO_416004.out (by decide)))
           have n3_:=Aside0.mk (below_weaken (by repeat (first|(with_reducible first|exact HB.out|apply below_alloc|apply pw_below_drewN|apply below_drew1|refine below_set ?_ (IsS76.ge HI0.out)|refine below_set ?_ GE410.out|refine below_set ?_ GE415.out)|exact HB.out)) HL.out hb)
           have n4_:=Aside0.mk (KeepBut.trans (by repeat (first|(with_reducible first|exact HK.out|apply KeepBut.set_|apply keep_drewN|apply keep_drew|apply keep_alloc|refine keep_far ?_ GW410.out _|refine keep_far ?_ GW415.out _)|exact HK.out)) (KeepBut.of_grown hg g) (Kd.R_base2 HO_416004.out))
           have n5_:=Aside0.mk (ho)
           clear BK410
           clear BK415
           clear HI0
           clear HB
           clear HK
           clear HO_416004
           clear HO444
           have BK410:=n0_
           have BK415:=n1_
           have HI0:=n2_
           have HB:=n3_
           have HK:=n4_
           have HO450:=n5_
           clear n0_ n1_ n2_ n3_ n4_ n5_
           clear ho hb hg hat
           obtain ⟨Ao80,co80,eo80⟩:=Kd.R_slice HO450.out
           (first|subst eo80|(injection eo80 with f1_ f2_ f3_;have f4_:=f1_.symm;have f5_:=f3_.symm;clear f1_ f2_ f3_;subst f4_;subst f5_))
           refine hK.out _ _ ⟨(blk_cell BK415.out 0).trans rfl,(blk_cell BK415.out 1).trans rfl,(blk_cell BK415.out 2).trans rfl,(blk_cell BK415.out 3).trans rfl,(blk_cell BK415.out 4).trans rfl⟩ (fun hHeld => ?_)
           clear hK K
           refine norm_ (a':=?_) ?_ ?_
           rotate_left
           ·show Act.put _ (some 82) _ = _
            simp only [Act.put,List.setIfInBounds_toArray,List.set_cons_zero,List.set_cons_succ,i64_w,i32_w]
            rfl
           refine pure_ (i:=6) (N:=some 83) (v:=?_) (a':=?_) #[true,true,true,true,true,true,true,false] rfl rfl (any_of HT_.out (by kernel_rfl)) (fun _ _ _ h => h) (Or.inl ⟨by rfl,?_⟩) ?_ ?_
           rotate_left
           ·intro w'
            go_simp
            with_reducible rfl
           rotate_left
           ·simp only [Act.put,List.setIfInBounds_toArray,List.set_cons_zero,List.set_cons_succ,i64_w,i32_w]
            rfl
           refine last_ (i:=7) (N:=none) #[true,true,true,true,true,true,true,true] rfl rfl (one_of HT_.out (by kernel_rfl)) (by decide) (fun K hK => ?_)
           have hs81 : w78.cell? ⟨gb415,4,none⟩ = some (u416004):=(blk_cell BK415.out 4).trans rfl
           have hfs81:=blk_frozen BK415.out 4
           have hns81_0:=NB410_415.out
           have hms81_0:=NB415_410.out
           refine skip_ (w1:=?_) (by rfl) rfl ?_ ?_
           rotate_left
           ·go_simp
            rfl
           refine hK.out _ _ ?_
           clear hK K
           refine done_ (done_of HT_.out (by kernel_rfl)) ?_
           try go_wp2
           go_roundg k2
           case measure => have:=HJ55.out;have:=HK2.out;omega
           case rel => exact ⟨(wrap64 (x75_2 + 1)),(t445),(t446),(t447),(y448),(.slice Ao80 y448.length co80),(by first|rfl|(simp;done)|(simp [*];done)),H',⟨by have:=HJ55.out;have:=HK2.out;omega⟩,⟨by (with_reducible repeat (first|apply Kd.R_alloc|apply Kd.R_drewN|apply Kd.R_drew));exact Kd.R_mono (Kd.R_far (p:=⟨gb415,4,none⟩) (Kd.R_mono HO450.out (fun k_ hk => (⟨hk,hk.2⟩ : _ ∧ k_ ≠ gb415))) (fun _ hk => hk.2) (.slice Ao80 y448.length co80)) (fun _ hk => ⟨hk.1.1,hk.1.2⟩)⟩,⟨by (with_reducible repeat (first|refine blk_drewN ?_ _|refine blk_drew ?_|refine blk_alloc ?_ _));refine blk_far ?_ NB410_415.out _;(with_reducible repeat (first|refine blk_drewN ?_ _|refine blk_drew ?_|refine blk_alloc ?_ _));exact BK410.out⟩,⟨by (with_reducible repeat (first|refine blk_drewN ?_ _|refine blk_drew ?_|refine blk_alloc ?_ _));refine blk_put (cs:=#[.int .i64 (wrap64 (t411)), .int .i64 0, .string (⟨#[]⟩ : ByteArray), .int .i64 t430,u416004]) ?_ 4 _ rfl;(with_reducible repeat (first|refine blk_drewN ?_ _|refine blk_drew ?_|refine blk_alloc ?_ _));exact BK415.out⟩,⟨by first|((repeat (first|(with_reducible first|exact HI0.out|apply IsS76.alloc|apply IsS76.drewN|apply IsS76.drew|apply IsS76.set_1|apply IsS76.set_2|refine IsS76.far ?_ NB0_410.out _|(apply IsS76.far;case hne => exact NB0_410.out)|refine IsS76.far ?_ NB0_415.out _|(apply IsS76.far;case hne => exact NB0_415.out))|exact HI0.out));done)|((simp only [*]);(repeat (first|(with_reducible first|exact HI0.out|apply IsS76.alloc|apply IsS76.drewN|apply IsS76.drew|apply IsS76.set_1|apply IsS76.set_2|refine IsS76.far ?_ NB0_410.out _|(apply IsS76.far;case hne => exact NB0_410.out)|refine IsS76.far ?_ NB0_415.out _|(apply IsS76.far;case hne => exact NB0_415.out))|exact HI0.out)))⟩,⟨by repeat (first|(with_reducible first|exact HK.out|apply KeepBut.set_|apply keep_drewN|apply keep_drew|apply keep_alloc|refine keep_far ?_ GW410.out _|refine keep_far ?_ GW415.out _)|exact HK.out)⟩,⟨by repeat (first|(with_reducible first|exact HB.out|apply below_alloc|apply pw_below_drewN|apply below_drew1|refine below_set ?_ (IsS76.ge HI0.out)|refine below_set ?_ GE410.out|refine below_set ?_ GE415.out)|exact HB.out)⟩⟩
          ·rw [if_neg c75] at H
           exact absurd H (by simp)
         ·rw [if_neg c73] at H
          have c73b0 : decide (x75_2 < t434) = false:=decide_eq_false c73
          clear c73
          simp only [Option.some.injEq,Prod.mk.injEq] at H
          obtain ⟨rfl,rfl,rfl,rfl,rfl,rfl,rfl,rfl⟩:=H
          have hnb82:=NB415_410.out
          have hnc82:=NB410_415.out
          have hnb83:=NB415_0.out
          have hnc83:=NB0_415.out
          have hcz84_0 : wr.cell? ⟨gb415,0,none⟩ = some (.int .i64 (wrap64 (t411))):=(blk_cell BK415.out 0).trans rfl
          have hcz84_1 : wr.cell? ⟨gb415,1,none⟩ = some (.int .i64 0):=(blk_cell BK415.out 1).trans rfl
          have hcz84_2 : wr.cell? ⟨gb415,2,none⟩ = some (.string (⟨#[]⟩ : ByteArray)):=(blk_cell BK415.out 2).trans rfl
          have hcz84_3 : wr.cell? ⟨gb415,3,none⟩ = some (.int .i64 t430):=(blk_cell BK415.out 3).trans rfl
          have hcz84_4 : wr.cell? ⟨gb415,4,none⟩ = some (u416004):=(blk_cell BK415.out 4).trans rfl
          have hfz84_0:=blk_frozen BK415.out 0
          have hfz84_1:=blk_frozen BK415.out 1
          have hfz84_2:=blk_frozen BK415.out 2
          have hfz84_3:=blk_frozen BK415.out 3
          have hfz84_4:=blk_frozen BK415.out 4
          have hnb85:=NB410_0.out
          have hnc85:=NB0_410.out
          have hcz86_0 : wr.cell? ⟨gb410,0,none⟩ = some (.int .i64 0):=(blk_cell BK410.out 0).trans rfl
          have hcz86_1 : wr.cell? ⟨gb410,1,none⟩ = some (.int .i64 0):=(blk_cell BK410.out 1).trans rfl
          have hcz86_2 : wr.cell? ⟨gb410,2,none⟩ = some (.string (⟨#[]⟩ : ByteArray)):=(blk_cell BK410.out 2).trans rfl
          have hcz86_3 : wr.cell? ⟨gb410,3,none⟩ = some (.int .i64 0):=(blk_cell BK410.out 3).trans rfl
          have hcz86_4 : wr.cell? ⟨gb410,4,none⟩ = some (.slice none 0 0):=(blk_cell BK410.out 4).trans rfl
          have hfz86_0:=blk_frozen BK410.out 0
          have hfz86_1:=blk_frozen BK410.out 1
          have hfz86_2:=blk_frozen BK410.out 2
          have hfz86_3:=blk_frozen BK410.out 3
          have hfz86_4:=blk_frozen BK410.out 4
          obtain ⟨Ao87,co87,eo87⟩:=Kd.R_slice HO_416004.out
          subst eo87
          go_wp2
          refine bodyPost_ret (results_cell_row rfl _ _ gb410 24 #[.int .i64 (wrap64 (t411)), .int .i64 0, .string (⟨#[]⟩ : ByteArray), .int .i64 t430, .slice Ao87 x416004_2.length co87] (0,0) _ rfl (by (with_reducible repeat (first|refine blk_drewN ?_ _|refine blk_drew ?_|refine blk_alloc ?_ _));refine blk_put (cs:=#[.int .i64 (wrap64 (t411)), .int .i64 0, .string (⟨#[]⟩ : ByteArray), .int .i64 t430, .slice none 0 0]) ?_ 4 _ rfl;(with_reducible repeat (first|refine blk_drewN ?_ _|refine blk_drew ?_|refine blk_alloc ?_ _));refine blk_put (cs:=#[.int .i64 (wrap64 (t411)), .int .i64 0, .string (⟨#[]⟩ : ByteArray), .int .i64 0, .slice none 0 0]) ?_ 3 _ rfl;(with_reducible repeat (first|refine blk_drewN ?_ _|refine blk_drew ?_|refine blk_alloc ?_ _));refine blk_put (cs:=#[.int .i64 (wrap64 (t411)), .int .i64 0, .string (⟨#[]⟩ : ByteArray), .int .i64 0, .slice none 0 0]) ?_ 2 _ rfl;(with_reducible repeat (first|refine blk_drewN ?_ _|refine blk_drew ?_|refine blk_alloc ?_ _));refine blk_put (cs:=#[.int .i64 (wrap64 (t411)), .int .i64 0, .string (⟨#[]⟩ : ByteArray), .int .i64 0, .slice none 0 0]) ?_ 1 _ rfl;(with_reducible repeat (first|refine blk_drewN ?_ _|refine blk_drew ?_|refine blk_alloc ?_ _));refine blk_put (cs:=#[.int .i64 0, .int .i64 0, .string (⟨#[]⟩ : ByteArray), .int .i64 0, .slice none 0 0]) ?_ 0 _ rfl;(with_reducible repeat (first|refine blk_drewN ?_ _|refine blk_drew ?_|refine blk_alloc ?_ _));exact BK410.out) Try.underlying24 rfl (by kernel_rfl)) rfl ?_
          exact ⟨_,by first|rfl|(simp [errW_none,errW_some] <;> rfl)|(simp [*,errW_none,errW_some] <;> rfl),by (with_reducible repeat (first|apply Kd.R_alloc|apply Kd.R_drewN|apply Kd.R_drew));exact Kd.R_mono (Kd.R_far (p:=⟨gb410,4,none⟩) (Kd.R_far (p:=⟨gb410,3,none⟩) (Kd.R_far (p:=⟨gb410,2,none⟩) (Kd.R_far (p:=⟨gb410,1,none⟩) (Kd.R_far (p:=⟨gb410,0,none⟩) (Kd.R_mono HO_416004.out (fun k_ hk => (⟨hk,hk.1⟩ : _ ∧ k_ ≠ gb410))) (fun _ hk => hk.2) (.int .i64 (wrap64 (t411)))) (fun _ hk => hk.2) (.int .i64 0)) (fun _ hk => hk.2) (.string (⟨#[]⟩ : ByteArray))) (fun _ hk => hk.2) (.int .i64 t430)) (fun _ hk => hk.2) (.slice Ao87 x416004_2.length co87)) (fun _ hk => trivial),by first|((repeat (first|(with_reducible first|exact HI0.out|apply IsS76.alloc|apply IsS76.drewN|apply IsS76.drew|apply IsS76.set_1|apply IsS76.set_2|refine IsS76.far ?_ NB0_410.out _|(apply IsS76.far;case hne => exact NB0_410.out)|refine IsS76.far ?_ NB0_415.out _|(apply IsS76.far;case hne => exact NB0_415.out))|exact HI0.out));done)|((simp only [*]);(repeat (first|(with_reducible first|exact HI0.out|apply IsS76.alloc|apply IsS76.drewN|apply IsS76.drew|apply IsS76.set_1|apply IsS76.set_2|refine IsS76.far ?_ NB0_410.out _|(apply IsS76.far;case hne => exact NB0_410.out)|refine IsS76.far ?_ NB0_415.out _|(apply IsS76.far;case hne => exact NB0_415.out))|exact HI0.out))),by repeat (first|(with_reducible first|exact HB.out|apply below_alloc|apply pw_below_drewN|apply below_drew1|refine below_set ?_ (IsS76.ge HI0.out)|refine below_set ?_ GE410.out|refine below_set ?_ GE415.out)|exact HB.out),by repeat (first|(with_reducible first|exact HK.out|apply KeepBut.set_|apply keep_drewN|apply keep_drew|apply keep_alloc|refine keep_far ?_ GW410.out _|refine keep_far ?_ GW415.out _)|exact HK.out)⟩
    ·rw [if_neg c55] at H
     have c55b0 : ((wrap64 (t411)) == 4) = false:=beq_eq_false_iff_ne.mpr c55
     have c55b1 : ((wrap64 (t411)) != 4) = true:=bne_iff_ne.mpr c55
     simp only [Option.some.injEq,Prod.mk.injEq] at H
     obtain ⟨rfl,rfl,rfl,rfl,rfl,rfl,rfl,rfl⟩:=H
     go_enter Try.func39,Try.ntmps39
     go_wp2_with (first|((with_reducible refine gate_dst (N:=4) rfl ?_);refine box_event ?hg (N:=4) ?hd (cs:=#[.int .i64 0, .int .i64 0, .string (⟨#[]⟩ : ByteArray), .int .i64 0, .slice none 0 0]) (t:=24) ?hr ?_;(case hd => rfl);(case hg => rfl);(case hr => first|(go_simp;done)|(go_simp;rfl));intro gb410 hg w88 hbox hb;have n0_:=Aside0.mk (IsS76.below (by first|((repeat (first|(with_reducible first|exact HI0.out|apply IsS76.alloc|apply IsS76.drewN|apply IsS76.drew|apply IsS76.set_1|apply IsS76.set_2)|exact HI0.out));done)|((simp only [*]);(repeat (first|(with_reducible first|exact HI0.out|apply IsS76.alloc|apply IsS76.drewN|apply IsS76.drew|apply IsS76.set_1|apply IsS76.set_2)|exact HI0.out)))) hb);have n1_:=Aside0.mk (KeepBut.trans (by repeat (first|(with_reducible first|exact HK.out|apply KeepBut.set_|apply keep_drewN|apply keep_drew|apply keep_alloc)|exact HK.out)) (KeepBut.of_below hb g none) (.inl rfl));have n2_:=Aside0.mk (below_step (by repeat (first|(with_reducible first|exact HB.out|apply below_alloc|apply pw_below_drewN|apply below_drew1|refine below_set ?_ (IsS76.ge HI0.out))|exact HB.out)) hb);have n3_:=Aside0.mk (hbox);have n4_:=Aside0.mk ((by rw [hg];exact (keep_size (w:=w) (g:=g) (row:=none) (by repeat (first|(with_reducible first|exact HK.out|apply KeepBut.set_|apply keep_drewN|apply keep_drew|apply keep_alloc)|exact HK.out))) : w.heap.size ≤ gb410));have n5_:=Aside0.mk ((Nat.le_trans HW0.out (by rw [hg];exact (keep_size (w:=w) (g:=g) (row:=none) (by repeat (first|(with_reducible first|exact HK.out|apply KeepBut.set_|apply keep_drewN|apply keep_drew|apply keep_alloc)|exact HK.out))) : w.heap.size ≤ gb410) : w0.heap.size ≤ gb410));have n6_:=Aside0.mk ((by rw [hg];exact Nat.ne_of_lt (IsS76.lt (show IsS76 w0 _ g s0_0 s0_1 s0_2 from by first|((repeat (first|(with_reducible first|exact HI0.out|apply IsS76.alloc|apply IsS76.drewN|apply IsS76.drew|apply IsS76.set_1|apply IsS76.set_2)|exact HI0.out));done)|((simp only [*]);(repeat (first|(with_reducible first|exact HI0.out|apply IsS76.alloc|apply IsS76.drewN|apply IsS76.drew|apply IsS76.set_1|apply IsS76.set_2)|exact HI0.out))))) : g ≠ gb410));have n7_:=Aside0.mk ((by rw [hg];exact Nat.ne_of_gt (IsS76.lt (show IsS76 w0 _ g s0_0 s0_1 s0_2 from by first|((repeat (first|(with_reducible first|exact HI0.out|apply IsS76.alloc|apply IsS76.drewN|apply IsS76.drew|apply IsS76.set_1|apply IsS76.set_2)|exact HI0.out));done)|((simp only [*]);(repeat (first|(with_reducible first|exact HI0.out|apply IsS76.alloc|apply IsS76.drewN|apply IsS76.drew|apply IsS76.set_1|apply IsS76.set_2)|exact HI0.out))))) : gb410 ≠ g));clear HI0;clear HK;clear HB;have HI0:=n0_;have HK:=n1_;have HB:=n2_;have BK410:=n3_;have GW410:=n4_;have GE410:=n5_;have NB0_410:=n6_;have NB410_0:=n7_;clear n0_ n1_ n2_ n3_ n4_ n5_ n6_ n7_;clear hb hbox hg)|((with_reducible refine gate_callee (f:=46) rfl ?_);refine goesL_ (some 10) rfl rfl Try.func46 (by kernel_rfl) rfl #[.pointer (some ⟨g,0,none⟩)] rfl (by (try simp only [List.map_toArray,List.map_cons,List.map_nil]);first|done|rfl|(simp only [List.length_drop,List.length_take];rfl)|(go_simp;done)|(go_simp;simp;done)) ?_;(with_reducible refine (codec_reader_byte.calls g s0_0 s0_1 s0_2 t411 t412 t413 t414 w0 _ ?side1 ?side2 A3.out).mono ?_);(case side1 => first|((repeat (first|(with_reducible first|exact HI0.out|apply IsS76.alloc|apply IsS76.drewN|apply IsS76.drew|apply IsS76.set_1|apply IsS76.set_2|refine IsS76.far ?_ NB0_410.out _|(apply IsS76.far;case hne => exact NB0_410.out))|exact HI0.out));done)|((simp only [*]);(repeat (first|(with_reducible first|exact HI0.out|apply IsS76.alloc|apply IsS76.drewN|apply IsS76.drew|apply IsS76.set_1|apply IsS76.set_2|refine IsS76.far ?_ NB0_410.out _|(apply IsS76.far;case hne => exact NB0_410.out))|exact HI0.out))));(case side2 => repeat (first|(with_reducible first|exact HB.out|apply below_alloc|apply pw_below_drewN|apply below_drew1|refine below_set ?_ (IsS76.ge HI0.out)|refine below_set ?_ GE410.out)|exact HB.out));rintro e w89 ⟨rfl,hi,hb,hk⟩;refine ⟨_,rfl,?_⟩;have n0_:=Aside0.mk (KeepBut.blk hk (g':=gb410) (o := .cells #[.int .i64 0, .int .i64 0, .string (⟨#[]⟩ : ByteArray), .int .i64 0, .slice none 0 0] 24 (0,0)) (by (with_reducible repeat (first|refine blk_drewN ?_ _|refine blk_drew ?_|refine blk_alloc ?_ _));exact BK410.out) NB410_0.out (by simp));have n1_:=Aside0.mk (KeepBut.trans (by repeat (first|(with_reducible first|exact HK.out|apply KeepBut.set_|apply keep_drewN|apply keep_drew|apply keep_alloc|refine keep_far ?_ GW410.out _)|exact HK.out)) hk (.inl rfl));have n2_:=Aside0.mk (hb);have n3_:=Aside0.mk (hi);clear BK410;clear HK;clear HB;clear HI0;have BK410:=n0_;have HK:=n1_;have HB:=n2_;have HI0:=n3_;clear n0_ n1_ n2_ n3_;(try clear hb);(try clear hb2);(try clear hk);(try clear hi))|((with_reducible refine gate_dst (N:=5) rfl ?_);refine box_event ?hg (N:=5) ?hd (cs:=#[.int .i64 0, .int .i64 0, .string (⟨#[]⟩ : ByteArray), .int .i64 0, .slice none 0 0]) (t:=24) ?hr ?_;(case hd => rfl);(case hg => rfl);(case hr => first|(go_simp;done)|(go_simp;rfl));intro gb415 hg w90 hbox hb;have n0_:=Aside0.mk (IsS76.below (by first|((repeat (first|(with_reducible first|exact HI0.out|apply IsS76.alloc|apply IsS76.drewN|apply IsS76.drew|apply IsS76.set_1|apply IsS76.set_2|refine IsS76.far ?_ NB0_410.out _|(apply IsS76.far;case hne => exact NB0_410.out))|exact HI0.out));done)|((simp only [*]);(repeat (first|(with_reducible first|exact HI0.out|apply IsS76.alloc|apply IsS76.drewN|apply IsS76.drew|apply IsS76.set_1|apply IsS76.set_2|refine IsS76.far ?_ NB0_410.out _|(apply IsS76.far;case hne => exact NB0_410.out))|exact HI0.out)))) hb);have n1_:=Aside0.mk (blk_below (g:=gb410) (o := .cells #[.int .i64 0, .int .i64 0, .string (⟨#[]⟩ : ByteArray), .int .i64 0, .slice none 0 0] 24 (0,0)) (by (with_reducible repeat (first|refine blk_drewN ?_ _|refine blk_drew ?_|refine blk_alloc ?_ _));exact BK410.out) hb);have n2_:=Aside0.mk (KeepBut.trans (by repeat (first|(with_reducible first|exact HK.out|apply KeepBut.set_|apply keep_drewN|apply keep_drew|apply keep_alloc|refine keep_far ?_ GW410.out _)|exact HK.out)) (KeepBut.of_below hb g none) (.inl rfl));have n3_:=Aside0.mk (below_step (by repeat (first|(with_reducible first|exact HB.out|apply below_alloc|apply pw_below_drewN|apply below_drew1|refine below_set ?_ (IsS76.ge HI0.out)|refine below_set ?_ GE410.out)|exact HB.out)) hb);have n4_:=Aside0.mk (hbox);have n5_:=Aside0.mk ((by rw [hg];exact (keep_size (w:=w) (g:=g) (row:=none) (by repeat (first|(with_reducible first|exact HK.out|apply KeepBut.set_|apply keep_drewN|apply keep_drew|apply keep_alloc|refine keep_far ?_ GW410.out _)|exact HK.out))) : w.heap.size ≤ gb415));have n6_:=Aside0.mk ((Nat.le_trans HW0.out (by rw [hg];exact (keep_size (w:=w) (g:=g) (row:=none) (by repeat (first|(with_reducible first|exact HK.out|apply KeepBut.set_|apply keep_drewN|apply keep_drew|apply keep_alloc|refine keep_far ?_ GW410.out _)|exact HK.out))) : w.heap.size ≤ gb415) : w0.heap.size ≤ gb415));have n7_:=Aside0.mk ((by rw [hg];exact Nat.ne_of_lt (blk_lt (g:=gb410) (o := .cells #[.int .i64 0, .int .i64 0, .string (⟨#[]⟩ : ByteArray), .int .i64 0, .slice none 0 0] 24 (0,0)) (by (with_reducible repeat (first|refine blk_drewN ?_ _|refine blk_drew ?_|refine blk_alloc ?_ _));exact BK410.out)) : gb410 ≠ gb415));have n8_:=Aside0.mk ((by rw [hg];exact Nat.ne_of_gt (blk_lt (g:=gb410) (o := .cells #[.int .i64 0, .int .i64 0, .string (⟨#[]⟩ : ByteArray), .int .i64 0, .slice none 0 0] 24 (0,0)) (by (with_reducible repeat (first|refine blk_drewN ?_ _|refine blk_drew ?_|refine blk_alloc ?_ _));exact BK410.out)) : gb415 ≠ gb410));have n9_:=Aside0.mk ((by rw [hg];exact Nat.ne_of_lt (IsS76.lt (show IsS76 w0 _ g t412 t413 t414 from by first|((repeat (first|(with_reducible first|exact HI0.out|apply IsS76.alloc|apply IsS76.drewN|apply IsS76.drew|apply IsS76.set_1|apply IsS76.set_2|refine IsS76.far ?_ NB0_410.out _|(apply IsS76.far;case hne => exact NB0_410.out))|exact HI0.out));done)|((simp only [*]);(repeat (first|(with_reducible first|exact HI0.out|apply IsS76.alloc|apply IsS76.drewN|apply IsS76.drew|apply IsS76.set_1|apply IsS76.set_2|refine IsS76.far ?_ NB0_410.out _|(apply IsS76.far;case hne => exact NB0_410.out))|exact HI0.out))))) : g ≠ gb415));have n10_:=Aside0.mk ((by rw [hg];exact Nat.ne_of_gt (IsS76.lt (show IsS76 w0 _ g t412 t413 t414 from by first|((repeat (first|(with_reducible first|exact HI0.out|apply IsS76.alloc|apply IsS76.drewN|apply IsS76.drew|apply IsS76.set_1|apply IsS76.set_2|refine IsS76.far ?_ NB0_410.out _|(apply IsS76.far;case hne => exact NB0_410.out))|exact HI0.out));done)|((simp only [*]);(repeat (first|(with_reducible first|exact HI0.out|apply IsS76.alloc|apply IsS76.drewN|apply IsS76.drew|apply IsS76.set_1|apply IsS76.set_2|refine IsS76.far ?_ NB0_410.out _|(apply IsS76.far;case hne => exact NB0_410.out))|exact HI0.out))))) : gb415 ≠ g));clear HI0;clear BK410;clear HK;clear HB;have HI0:=n0_;have BK410:=n1_;have HK:=n2_;have HB:=n3_;have BK415:=n4_;have GW415:=n5_;have GE415:=n6_;have NB410_415:=n7_;have NB415_410:=n8_;have NB0_415:=n9_;have NB415_0:=n10_;clear n0_ n1_ n2_ n3_ n4_ n5_ n6_ n7_ n8_ n9_ n10_;clear hb hbox hg;have hnb91:=NB415_410.out;have hnc91:=NB410_415.out;have hnb92:=NB415_0.out;have hnc92:=NB0_415.out;have hcz93_0 : w90.cell? ⟨gb415,0,none⟩ = some (.int .i64 0):=(blk_cell BK415.out 0).trans rfl;have hcz93_1 : w90.cell? ⟨gb415,1,none⟩ = some (.int .i64 0):=(blk_cell BK415.out 1).trans rfl;have hcz93_2 : w90.cell? ⟨gb415,2,none⟩ = some (.string (⟨#[]⟩ : ByteArray)):=(blk_cell BK415.out 2).trans rfl;have hcz93_3 : w90.cell? ⟨gb415,3,none⟩ = some (.int .i64 0):=(blk_cell BK415.out 3).trans rfl;have hcz93_4 : w90.cell? ⟨gb415,4,none⟩ = some (.slice none 0 0):=(blk_cell BK415.out 4).trans rfl;have hfz93_0:=blk_frozen BK415.out 0;have hfz93_1:=blk_frozen BK415.out 1;have hfz93_2:=blk_frozen BK415.out 2;have hfz93_3:=blk_frozen BK415.out 3;have hfz93_4:=blk_frozen BK415.out 4;obtain ⟨ASz94_0,cSz94_0,HGz94,hgz94,HSz94_0,hlSz94_0⟩:=HI0.out;have hcz94_0:=cellS76_0 HGz94;have hcz94_1:=cellS76_1 HGz94;have hcz94_2:=cellS76_2 HGz94;have hfz94_0:=blk_frozen HGz94 0;have hfz94_1:=blk_frozen HGz94 1;have hfz94_2:=blk_frozen HGz94 2;clear HGz94 hgz94;have hnb95:=NB410_0.out;have hnc95:=NB0_410.out;have hcz96_0 : w90.cell? ⟨gb410,0,none⟩ = some (.int .i64 0):=(blk_cell BK410.out 0).trans rfl;have hcz96_1 : w90.cell? ⟨gb410,1,none⟩ = some (.int .i64 0):=(blk_cell BK410.out 1).trans rfl;have hcz96_2 : w90.cell? ⟨gb410,2,none⟩ = some (.string (⟨#[]⟩ : ByteArray)):=(blk_cell BK410.out 2).trans rfl;have hcz96_3 : w90.cell? ⟨gb410,3,none⟩ = some (.int .i64 0):=(blk_cell BK410.out 3).trans rfl;have hcz96_4 : w90.cell? ⟨gb410,4,none⟩ = some (.slice none 0 0):=(blk_cell BK410.out 4).trans rfl;have hfz96_0:=blk_frozen BK410.out 0;have hfz96_1:=blk_frozen BK410.out 1;have hfz96_2:=blk_frozen BK410.out 2;have hfz96_3:=blk_frozen BK410.out 3;have hfz96_4:=blk_frozen BK410.out 4))
     refine bodyPost_ret (results_cell_row rfl _ _ gb410 24 #[.int .i64 (wrap64 (t411)), .int .i64 0, .string (⟨#[]⟩ : ByteArray), .int .i64 0, .slice none 0 0] (0,0) _ rfl (by (with_reducible repeat (first|refine blk_drewN ?_ _|refine blk_drew ?_|refine blk_alloc ?_ _));refine blk_put (cs:=#[.int .i64 (wrap64 (t411)), .int .i64 0, .string (⟨#[]⟩ : ByteArray), .int .i64 0, .slice none 0 0]) ?_ 4 _ rfl;(with_reducible repeat (first|refine blk_drewN ?_ _|refine blk_drew ?_|refine blk_alloc ?_ _));refine blk_put (cs:=#[.int .i64 (wrap64 (t411)), .int .i64 0, .string (⟨#[]⟩ : ByteArray), .int .i64 0, .slice none 0 0]) ?_ 3 _ rfl;(with_reducible repeat (first|refine blk_drewN ?_ _|refine blk_drew ?_|refine blk_alloc ?_ _));refine blk_put (cs:=#[.int .i64 (wrap64 (t411)), .int .i64 0, .string (⟨#[]⟩ : ByteArray), .int .i64 0, .slice none 0 0]) ?_ 2 _ rfl;(with_reducible repeat (first|refine blk_drewN ?_ _|refine blk_drew ?_|refine blk_alloc ?_ _));refine blk_put (cs:=#[.int .i64 (wrap64 (t411)), .int .i64 0, .string (⟨#[]⟩ : ByteArray), .int .i64 0, .slice none 0 0]) ?_ 1 _ rfl;(with_reducible repeat (first|refine blk_drewN ?_ _|refine blk_drew ?_|refine blk_alloc ?_ _));refine blk_put (cs:=#[.int .i64 0, .int .i64 0, .string (⟨#[]⟩ : ByteArray), .int .i64 0, .slice none 0 0]) ?_ 0 _ rfl;(with_reducible repeat (first|refine blk_drewN ?_ _|refine blk_drew ?_|refine blk_alloc ?_ _));refine blk_far ?_ NB410_0.out _;(with_reducible repeat (first|refine blk_drewN ?_ _|refine blk_drew ?_|refine blk_alloc ?_ _));refine blk_far ?_ NB410_415.out _;(with_reducible repeat (first|refine blk_drewN ?_ _|refine blk_drew ?_|refine blk_alloc ?_ _));refine blk_far ?_ NB410_415.out _;(with_reducible repeat (first|refine blk_drewN ?_ _|refine blk_drew ?_|refine blk_alloc ?_ _));refine blk_far ?_ NB410_415.out _;(with_reducible repeat (first|refine blk_drewN ?_ _|refine blk_drew ?_|refine blk_alloc ?_ _));refine blk_far ?_ NB410_415.out _;(with_reducible repeat (first|refine blk_drewN ?_ _|refine blk_drew ?_|refine blk_alloc ?_ _));refine blk_far ?_ NB410_415.out _;(with_reducible repeat (first|refine blk_drewN ?_ _|refine blk_drew ?_|refine blk_alloc ?_ _));exact BK410.out) Try.underlying24 rfl (by kernel_rfl)) rfl ?_
     exact ⟨_,by first|rfl|(simp [errW_none,errW_some] <;> rfl)|(simp [*,errW_none,errW_some] <;> rfl),by first|exact Kd.R_nil _ _ _ _ _|exact Kd.N_nil _ _ _ _ _|exact Kd.V_nil _ _ _ _ _|exact Kd.Q_nil _ _ _ _ _|exact Kd.S_nil _ _ _ _ _,by first|((repeat (first|(with_reducible first|exact HI0.out|apply IsS76.alloc|apply IsS76.drewN|apply IsS76.drew|apply IsS76.set_1|apply IsS76.set_2|refine IsS76.far ?_ NB0_410.out _|(apply IsS76.far;case hne => exact NB0_410.out)|refine IsS76.far ?_ NB0_415.out _|(apply IsS76.far;case hne => exact NB0_415.out))|exact HI0.out));done)|((simp only [*]);(repeat (first|(with_reducible first|exact HI0.out|apply IsS76.alloc|apply IsS76.drewN|apply IsS76.drew|apply IsS76.set_1|apply IsS76.set_2|refine IsS76.far ?_ NB0_410.out _|(apply IsS76.far;case hne => exact NB0_410.out)|refine IsS76.far ?_ NB0_415.out _|(apply IsS76.far;case hne => exact NB0_415.out))|exact HI0.out))),by repeat (first|(with_reducible first|exact HB.out|apply below_alloc|apply pw_below_drewN|apply below_drew1|refine below_set ?_ (IsS76.ge HI0.out)|refine below_set ?_ GE410.out|refine below_set ?_ GE415.out)|exact HB.out),by repeat (first|(with_reducible first|exact HK.out|apply KeepBut.set_|apply keep_drewN|apply keep_drew|apply keep_alloc|refine keep_far ?_ GW410.out _|refine keep_far ?_ GW415.out _)|exact HK.out)⟩

end Go.Proofs.Ythbnblmnamckmaa.PAll
-- Laid by a program of this seat (wip/xprint.py over the kit's print).
namespace Go.Proofs.Ythbnblmnamckmaa.PAll
open Go.RowKit Go.Proofs.YthbnblmnamckmaaW.PrintWords Go.Proofs.YthbnblmnamckmaaW.PrintLast Go.Proofs.YthbnblmnamckmaaW.PrintMore
attribute [local go_sem] max2_int min2_int max_two min_two max_three min_three max_four min_four   -- for this text's walks alone
set_option linter.unusedVariables false
set_option linter.unusedSimpArgs false

/-! ### codec_Value: function 26 -/
def codec_Value.f (k : Nat) (l0 : List Int) : Option (Int × Int × ByteArray × Int × (List (S24)) × Int × Int):=(codec_reader_value.f k l0 0 false false).bind fun bt453 => (if bt453.2.2.2.2.2.2.2 = true then (some (0,0,(⟨#[]⟩ : ByteArray),0,([] : List (S24)),0,20)) else (some (bt453.1,bt453.2.1,bt453.2.2.1,bt453.2.2.2.1,bt453.2.2.2.2.1,bt453.2.2.2.2.2.2.1,0)))
theorem codec_Value.mono : ∀ a0 k,LeO (codec_Value.f k a0) (codec_Value.f (k + 1) a0):=by
 intro a0 k
 unfold codec_Value.f
 repeat' first
   | (with_reducible exact codec_reader_value.mono _ _ _ _ _)
   | (with_reducible exact LeO.refl _)
   | (with_reducible exact LeO.none _)
   | (with_reducible refine LeO.ite ?_ ?_)
   | (with_reducible refine LeO.bind ?_ (fun _ => ?_))
   | exact codec_reader_value.mono _ _ _ _ _
   | exact LeO.none _
   | refine LeO.ite ?_ ?_
   | refine LeO.bind ?_ (fun _ => ?_)
def codec_Value.T5 : Bool × List (List Nat × List Nat):=(true,[([],[]),([],[]),([1],[1]),([2],[2]),([3],[3]),([0,0],[0]),([4,5,0,1,2,3,4,5],[4]),([6,0,1,2,3,4,5,6],[])])
def codec_Value.B5 : List Nat:=[0,0,2,6,14,1,63,127]
theorem codec_Value.tab5 : rtab .any (opsOf Try.f26 5) = codec_Value.T5:=by kernel_rfl
theorem codec_Value.bits5 : waitsOk codec_Value.T5.2 codec_Value.B5 = true:=by kernel_rfl
set_option maxHeartbeats 8000000 in
set_option maxRecDepth 100000 in
theorem codec_Value.calls (k : Nat) (A0 : Option Addr) (c0 : Nat) (l0 : List Int) (r1 : Int) (r2 : Int) (r3 : ByteArray) (r4 : Int) (r5 : List (S24)) (r6 : Int) (r7 : Int) (w : World) (hr0 : Kd.C (Kd.int .u8) w A0 l0.length l0) (hc0 : l0.length ≤ c0) (h : codec_Value.f k l0 = some (r1,r2,r3,r4,r5,r6,r7)) :
  Calls Try.prog 26 #[.slice A0 l0.length c0] w fun e w' => ∃ v4_ : Value,e = .returned (.tuple #[.agg #[.int .i64 r1, .int .i64 r2, .string r3, .int .i64 r4,v4_], .int .i64 r6, .int .i64 r7]) ∧ Kd.R k24 24 w' w.heap.size (fun _ => True) v4_ r5 ∧ Below w.heap.size w w':=by
 have hu24:=Try.underlying24
 have hu76:=Try.underlying76
 have HR0:=Aside0.mk hr0
 have HC0:=Aside0.mk hc0
 clear hr0 hc0
 have HB:=Aside0.mk (Below.refl w.heap.size w)
 have H : ((codec_reader_value.f k l0 0 false false).bind fun bt453 => (if bt453.2.2.2.2.2.2.2 = true then (some (0,0,(⟨#[]⟩ : ByteArray),0,([] : List (S24)),0,20)) else (some (bt453.1,bt453.2.1,bt453.2.2.1,bt453.2.2.2.1,bt453.2.2.2.2.1,bt453.2.2.2.2.2.2.1,0)))) = some (r1,r2,r3,r4,r5,r6,r7):=h
 clear h
 replace H:=Option.bind_eq_some_iff.mp H
 obtain ⟨⟨t453,t454,t455,t456,t457,t460,t461,t462⟩,A20,H⟩:=H
 replace H : (if t462 = true then (some (0,0,(⟨#[]⟩ : ByteArray),0,([] : List (S24)),0,20)) else (some (t453,t454,t455,t456,t457,t461,0))) = some (r1,r2,r3,r4,r5,r6,r7):=H
 have A2:=Aside0.mk A20
 clear A20
 by_cases c3 : t462 = true
 ·subst c3
  have H1 : (some (0,0,(⟨#[]⟩ : ByteArray),0,([] : List (S24)),0,20)) = some (r1,r2,r3,r4,r5,r6,r7):=by rw [if_pos rfl] at H;exact H
  clear H
  have H:=H1
  clear H1
  simp only [Option.some.injEq,Prod.mk.injEq] at H
  obtain ⟨rfl,rfl,rfl,rfl,rfl,rfl,rfl⟩:=H
  go_enter Try.func26,Try.ntmps26
  go_wp2_with (first|((with_reducible refine gate_dst (N:=2) rfl ?_);refine box_event ?hg (N:=2) ?hd (cs:=#[.int .i64 0, .int .i64 0, .string (⟨#[]⟩ : ByteArray), .int .i64 0, .slice none 0 0]) (t:=24) ?hr ?_;(case hd => rfl);(case hg => rfl);(case hr => first|(go_simp;done)|(go_simp;rfl));intro gb451 hg w4 hbox hb;have n0_:=Aside0.mk (below_step (by repeat (first|(with_reducible first|exact HB.out|apply below_alloc|apply pw_below_drewN|apply below_drew1)|exact HB.out)) hb);have n1_:=Aside0.mk (hbox);have n2_:=Aside0.mk ((by rw [hg];exact (below_size (by repeat (first|(with_reducible first|exact HB.out|apply below_alloc|apply pw_below_drewN|apply below_drew1)|exact HB.out))) : w.heap.size ≤ gb451));have n3_:=Aside0.mk ((by rw [hg];exact (below_size (by repeat (first|(with_reducible first|exact HB.out|apply below_alloc|apply pw_below_drewN|apply below_drew1)|exact HB.out))) : w.heap.size ≤ gb451));clear HB;have HB:=n0_;have BK451:=n1_;have GW451:=n2_;have GE451:=n3_;clear n0_ n1_ n2_ n3_;clear hb hbox hg)|((with_reducible refine gate_dst (N:=9) rfl ?_);refine box_event ?hg (N:=9) ?hd (cs:=#[.slice A0 l0.length c0, .int .i64 0, .bool false]) (t:=76) ?hr ?_;(case hd => rfl);(case hg => rfl);(case hr => first|(go_simp;done)|(go_simp;rfl));intro gb452 hg w5 hbox hb;have n0_:=Aside0.mk (blk_below (g:=gb451) (o := .cells #[.int .i64 0, .int .i64 0, .string (⟨#[]⟩ : ByteArray), .int .i64 0, .slice none 0 0] 24 (0,0)) (by (with_reducible repeat (first|refine blk_drewN ?_ _|refine blk_drew ?_|refine blk_alloc ?_ _));exact BK451.out) hb);have n1_:=Aside0.mk (below_step (by repeat (first|(with_reducible first|exact HB.out|apply below_alloc|apply pw_below_drewN|apply below_drew1|refine below_set ?_ GE451.out)|exact HB.out)) hb);have n2_:=Aside0.mk (hbox);have n3_:=Aside0.mk ((by rw [hg];exact (below_size (by repeat (first|(with_reducible first|exact HB.out|apply below_alloc|apply pw_below_drewN|apply below_drew1|refine below_set ?_ GE451.out)|exact HB.out))) : w.heap.size ≤ gb452));have n4_:=Aside0.mk ((by rw [hg];exact (below_size (by repeat (first|(with_reducible first|exact HB.out|apply below_alloc|apply pw_below_drewN|apply below_drew1|refine below_set ?_ GE451.out)|exact HB.out))) : w.heap.size ≤ gb452));have n5_:=Aside0.mk ((by rw [hg];exact Nat.ne_of_lt (blk_lt (g:=gb451) (o := .cells #[.int .i64 0, .int .i64 0, .string (⟨#[]⟩ : ByteArray), .int .i64 0, .slice none 0 0] 24 (0,0)) (by (with_reducible repeat (first|refine blk_drewN ?_ _|refine blk_drew ?_|refine blk_alloc ?_ _));exact BK451.out)) : gb451 ≠ gb452));have n6_:=Aside0.mk ((by rw [hg];exact Nat.ne_of_gt (blk_lt (g:=gb451) (o := .cells #[.int .i64 0, .int .i64 0, .string (⟨#[]⟩ : ByteArray), .int .i64 0, .slice none 0 0] 24 (0,0)) (by (with_reducible repeat (first|refine blk_drewN ?_ _|refine blk_drew ?_|refine blk_alloc ?_ _));exact BK451.out)) : gb452 ≠ gb451));clear BK451;clear HB;have BK451:=n0_;have HB:=n1_;have BK452:=n2_;have GW452:=n3_;have GE452:=n4_;have NB451_452:=n5_;have NB452_451:=n6_;clear n0_ n1_ n2_ n3_ n4_ n5_ n6_;clear hb hbox hg;have HI452:=Aside0.mk (show IsS76 w _ gb452 l0 0 false from ⟨_,_,BK452.out,GE452.out,HR0.out,HC0.out⟩);clear BK452)|((with_reducible refine gate_callee (f:=39) rfl ?_);refine goesL_ (some 11) rfl rfl Try.func39 (by kernel_rfl) rfl #[.pointer (some ⟨gb452,0,none⟩), .bool false] rfl (by (try simp only [List.map_toArray,List.map_cons,List.map_nil]);first|done|rfl|(simp only [List.length_drop,List.length_take];rfl)|(go_simp;done)|(go_simp;simp;done)) ?_;(with_reducible refine (codec_reader_value.calls k gb452 l0 0 false false t453 t454 t455 t456 t457 t460 t461 true w _ ?side1 ?side2 A2.out).mono ?_);(case side1 => first|((repeat (first|(with_reducible first|exact HI452.out|apply IsS76.alloc|apply IsS76.drewN|apply IsS76.drew|apply IsS76.set_1|apply IsS76.set_2|refine IsS76.far ?_ NB452_451.out _|(apply IsS76.far;case hne => exact NB452_451.out))|exact HI452.out));done)|((simp only [*]);(repeat (first|(with_reducible first|exact HI452.out|apply IsS76.alloc|apply IsS76.drewN|apply IsS76.drew|apply IsS76.set_1|apply IsS76.set_2|refine IsS76.far ?_ NB452_451.out _|(apply IsS76.far;case hne => exact NB452_451.out))|exact HI452.out))));(case side2 => repeat (first|(with_reducible first|exact HB.out|apply below_alloc|apply pw_below_drewN|apply below_drew1|refine below_set ?_ (IsS76.ge HI452.out)|refine below_set ?_ GE451.out)|exact HB.out));rintro e w6 ⟨v458,rfl,ho0,hi,hb,hk⟩;refine ⟨_,rfl,?_⟩;have n0_:=Aside0.mk (KeepBut.blk hk (g':=gb451) (o := .cells #[.int .i64 0, .int .i64 0, .string (⟨#[]⟩ : ByteArray), .int .i64 0, .slice none 0 0] 24 (0,0)) (by (with_reducible repeat (first|refine blk_drewN ?_ _|refine blk_drew ?_|refine blk_alloc ?_ _));exact BK451.out) NB451_452.out (by simp));have n1_:=Aside0.mk (Kd.R_lower (Kd.R_newB ho0 (g:=gb451) (o := .cells #[.int .i64 0, .int .i64 0, .string (⟨#[]⟩ : ByteArray), .int .i64 0, .slice none 0 0] 24 (0,0)) (by (with_reducible repeat (first|refine blk_drewN ?_ _|refine blk_drew ?_|refine blk_alloc ?_ _));exact BK451.out)) (below_size (by repeat (first|(with_reducible first|exact HB.out|apply below_alloc|apply pw_below_drewN|apply below_drew1|refine below_set ?_ (IsS76.ge HI452.out)|refine below_set ?_ GE451.out)|exact HB.out))));have n2_:=Aside0.mk (hb);have n3_:=Aside0.mk (hi);clear BK451;clear HB;clear HI452;have BK451:=n0_;have HO459:=n1_;have HB:=n2_;have HI452:=n3_;clear n0_ n1_ n2_ n3_;(try clear hb);(try clear hb2);(try clear hk);(try clear hi);(try clear ho0))|((with_reducible refine gate_dst (N:=6) rfl ?_);refine box_event ?hg (N:=6) ?hd (cs:=#[.int .i64 0, .int .i64 0, .string (⟨#[]⟩ : ByteArray), .int .i64 0, .slice none 0 0]) (t:=24) ?hr ?_;(case hd => rfl);(case hg => rfl);(case hr => first|(go_simp;done)|(go_simp;rfl));intro gb463 hg w7 hbox hb;have n0_:=Aside0.mk (Kd.R_below (Kd.R_elderB (by (with_reducible repeat (first|apply Kd.R_alloc|apply Kd.R_drewN|apply Kd.R_drew));exact HO459.out) gb463 (Nat.le_of_eq hg.symm)) hb);have n1_:=Aside0.mk (blk_below (g:=gb451) (o := .cells #[.int .i64 0, .int .i64 0, .string (⟨#[]⟩ : ByteArray), .int .i64 0, .slice none 0 0] 24 (0,0)) (by (with_reducible repeat (first|refine blk_drewN ?_ _|refine blk_drew ?_|refine blk_alloc ?_ _));exact BK451.out) hb);have n2_:=Aside0.mk (IsS76.below (by first|((repeat (first|(with_reducible first|exact HI452.out|apply IsS76.alloc|apply IsS76.drewN|apply IsS76.drew|apply IsS76.set_1|apply IsS76.set_2|refine IsS76.far ?_ NB452_451.out _|(apply IsS76.far;case hne => exact NB452_451.out))|exact HI452.out));done)|((simp only [*]);(repeat (first|(with_reducible first|exact HI452.out|apply IsS76.alloc|apply IsS76.drewN|apply IsS76.drew|apply IsS76.set_1|apply IsS76.set_2|refine IsS76.far ?_ NB452_451.out _|(apply IsS76.far;case hne => exact NB452_451.out))|exact HI452.out)))) hb);have n3_:=Aside0.mk (below_step (by repeat (first|(with_reducible first|exact HB.out|apply below_alloc|apply pw_below_drewN|apply below_drew1|refine below_set ?_ (IsS76.ge HI452.out)|refine below_set ?_ GE451.out)|exact HB.out)) hb);have n4_:=Aside0.mk (hbox);have n5_:=Aside0.mk ((by rw [hg];exact (below_size (by repeat (first|(with_reducible first|exact HB.out|apply below_alloc|apply pw_below_drewN|apply below_drew1|refine below_set ?_ (IsS76.ge HI452.out)|refine below_set ?_ GE451.out)|exact HB.out))) : w.heap.size ≤ gb463));have n6_:=Aside0.mk ((by rw [hg];exact (below_size (by repeat (first|(with_reducible first|exact HB.out|apply below_alloc|apply pw_below_drewN|apply below_drew1|refine below_set ?_ (IsS76.ge HI452.out)|refine below_set ?_ GE451.out)|exact HB.out))) : w.heap.size ≤ gb463));have n7_:=Aside0.mk ((by rw [hg];exact Nat.ne_of_lt (blk_lt (g:=gb451) (o := .cells #[.int .i64 0, .int .i64 0, .string (⟨#[]⟩ : ByteArray), .int .i64 0, .slice none 0 0] 24 (0,0)) (by (with_reducible repeat (first|refine blk_drewN ?_ _|refine blk_drew ?_|refine blk_alloc ?_ _));exact BK451.out)) : gb451 ≠ gb463));have n8_:=Aside0.mk ((by rw [hg];exact Nat.ne_of_gt (blk_lt (g:=gb451) (o := .cells #[.int .i64 0, .int .i64 0, .string (⟨#[]⟩ : ByteArray), .int .i64 0, .slice none 0 0] 24 (0,0)) (by (with_reducible repeat (first|refine blk_drewN ?_ _|refine blk_drew ?_|refine blk_alloc ?_ _));exact BK451.out)) : gb463 ≠ gb451));have n9_:=Aside0.mk ((by rw [hg];exact Nat.ne_of_lt (IsS76.lt (show IsS76 w _ gb452 t460 t461 true from by first|((repeat (first|(with_reducible first|exact HI452.out|apply IsS76.alloc|apply IsS76.drewN|apply IsS76.drew|apply IsS76.set_1|apply IsS76.set_2|refine IsS76.far ?_ NB452_451.out _|(apply IsS76.far;case hne => exact NB452_451.out))|exact HI452.out));done)|((simp only [*]);(repeat (first|(with_reducible first|exact HI452.out|apply IsS76.alloc|apply IsS76.drewN|apply IsS76.drew|apply IsS76.set_1|apply IsS76.set_2|refine IsS76.far ?_ NB452_451.out _|(apply IsS76.far;case hne => exact NB452_451.out))|exact HI452.out))))) : gb452 ≠ gb463));have n10_:=Aside0.mk ((by rw [hg];exact Nat.ne_of_gt (IsS76.lt (show IsS76 w _ gb452 t460 t461 true from by first|((repeat (first|(with_reducible first|exact HI452.out|apply IsS76.alloc|apply IsS76.drewN|apply IsS76.drew|apply IsS76.set_1|apply IsS76.set_2|refine IsS76.far ?_ NB452_451.out _|(apply IsS76.far;case hne => exact NB452_451.out))|exact HI452.out));done)|((simp only [*]);(repeat (first|(with_reducible first|exact HI452.out|apply IsS76.alloc|apply IsS76.drewN|apply IsS76.drew|apply IsS76.set_1|apply IsS76.set_2|refine IsS76.far ?_ NB452_451.out _|(apply IsS76.far;case hne => exact NB452_451.out))|exact HI452.out))))) : gb463 ≠ gb452));clear HO459;clear BK451;clear HI452;clear HB;have HO459:=n0_;have BK451:=n1_;have HI452:=n2_;have HB:=n3_;have BK463:=n4_;have GW463:=n5_;have GE463:=n6_;have NB451_463:=n7_;have NB463_451:=n8_;have NB452_463:=n9_;have NB463_452:=n10_;clear n0_ n1_ n2_ n3_ n4_ n5_ n6_ n7_ n8_ n9_ n10_;clear hb hbox hg;have hnb8:=NB463_451.out;have hnc8:=NB451_463.out;have hnb9:=NB463_452.out;have hnc9:=NB452_463.out;have hcz10_0 : w7.cell? ⟨gb463,0,none⟩ = some (.int .i64 0):=(blk_cell BK463.out 0).trans rfl;have hcz10_1 : w7.cell? ⟨gb463,1,none⟩ = some (.int .i64 0):=(blk_cell BK463.out 1).trans rfl;have hcz10_2 : w7.cell? ⟨gb463,2,none⟩ = some (.string (⟨#[]⟩ : ByteArray)):=(blk_cell BK463.out 2).trans rfl;have hcz10_3 : w7.cell? ⟨gb463,3,none⟩ = some (.int .i64 0):=(blk_cell BK463.out 3).trans rfl;have hcz10_4 : w7.cell? ⟨gb463,4,none⟩ = some (.slice none 0 0):=(blk_cell BK463.out 4).trans rfl;have hfz10_0:=blk_frozen BK463.out 0;have hfz10_1:=blk_frozen BK463.out 1;have hfz10_2:=blk_frozen BK463.out 2;have hfz10_3:=blk_frozen BK463.out 3;have hfz10_4:=blk_frozen BK463.out 4;obtain ⟨Ao11,co11,eo11⟩:=Kd.R_slice HO459.out;subst eo11;obtain ⟨ASz12_0,cSz12_0,HGz12,hgz12,HSz12_0,hlSz12_0⟩:=HI452.out;have hcz12_0:=cellS76_0 HGz12;have hcz12_1:=cellS76_1 HGz12;have hcz12_2:=cellS76_2 HGz12;have hfz12_0:=blk_frozen HGz12 0;have hfz12_1:=blk_frozen HGz12 1;have hfz12_2:=blk_frozen HGz12 2;clear HGz12 hgz12;have hnb13:=NB451_452.out;have hnc13:=NB452_451.out;have hcz14_0 : w7.cell? ⟨gb451,0,none⟩ = some (.int .i64 0):=(blk_cell BK451.out 0).trans rfl;have hcz14_1 : w7.cell? ⟨gb451,1,none⟩ = some (.int .i64 0):=(blk_cell BK451.out 1).trans rfl;have hcz14_2 : w7.cell? ⟨gb451,2,none⟩ = some (.string (⟨#[]⟩ : ByteArray)):=(blk_cell BK451.out 2).trans rfl;have hcz14_3 : w7.cell? ⟨gb451,3,none⟩ = some (.int .i64 0):=(blk_cell BK451.out 3).trans rfl;have hcz14_4 : w7.cell? ⟨gb451,4,none⟩ = some (.slice none 0 0):=(blk_cell BK451.out 4).trans rfl;have hfz14_0:=blk_frozen BK451.out 0;have hfz14_1:=blk_frozen BK451.out 1;have hfz14_2:=blk_frozen BK451.out 2;have hfz14_3:=blk_frozen BK451.out 3;have hfz14_4:=blk_frozen BK451.out 4))
  refine bodyPost_ret (results_ctt rfl _ _ gb451 24 #[.int .i64 0, .int .i64 0, .string (⟨#[]⟩ : ByteArray), .int .i64 0, .slice none 0 0] (0,0) _ rfl (by (with_reducible repeat (first|refine blk_drewN ?_ _|refine blk_drew ?_|refine blk_alloc ?_ _));refine blk_put (cs:=#[.int .i64 0, .int .i64 0, .string (⟨#[]⟩ : ByteArray), .int .i64 0, .slice none 0 0]) ?_ 4 _ rfl;(with_reducible repeat (first|refine blk_drewN ?_ _|refine blk_drew ?_|refine blk_alloc ?_ _));refine blk_put (cs:=#[.int .i64 0, .int .i64 0, .string (⟨#[]⟩ : ByteArray), .int .i64 0, .slice none 0 0]) ?_ 3 _ rfl;(with_reducible repeat (first|refine blk_drewN ?_ _|refine blk_drew ?_|refine blk_alloc ?_ _));refine blk_put (cs:=#[.int .i64 0, .int .i64 0, .string (⟨#[]⟩ : ByteArray), .int .i64 0, .slice none 0 0]) ?_ 2 _ rfl;(with_reducible repeat (first|refine blk_drewN ?_ _|refine blk_drew ?_|refine blk_alloc ?_ _));refine blk_put (cs:=#[.int .i64 0, .int .i64 0, .string (⟨#[]⟩ : ByteArray), .int .i64 0, .slice none 0 0]) ?_ 1 _ rfl;(with_reducible repeat (first|refine blk_drewN ?_ _|refine blk_drew ?_|refine blk_alloc ?_ _));refine blk_put (cs:=#[.int .i64 0, .int .i64 0, .string (⟨#[]⟩ : ByteArray), .int .i64 0, .slice none 0 0]) ?_ 0 _ rfl;(with_reducible repeat (first|refine blk_drewN ?_ _|refine blk_drew ?_|refine blk_alloc ?_ _));refine blk_far ?_ NB451_463.out _;(with_reducible repeat (first|refine blk_drewN ?_ _|refine blk_drew ?_|refine blk_alloc ?_ _));refine blk_far ?_ NB451_463.out _;(with_reducible repeat (first|refine blk_drewN ?_ _|refine blk_drew ?_|refine blk_alloc ?_ _));refine blk_far ?_ NB451_463.out _;(with_reducible repeat (first|refine blk_drewN ?_ _|refine blk_drew ?_|refine blk_alloc ?_ _));refine blk_far ?_ NB451_463.out _;(with_reducible repeat (first|refine blk_drewN ?_ _|refine blk_drew ?_|refine blk_alloc ?_ _));refine blk_far ?_ NB451_463.out _;(with_reducible repeat (first|refine blk_drewN ?_ _|refine blk_drew ?_|refine blk_alloc ?_ _));exact BK451.out) Try.underlying24 rfl (by kernel_rfl)) rfl ?_
  exact ⟨_,by first|rfl|(simp [errW_none,errW_some] <;> rfl)|(simp [*,errW_none,errW_some] <;> rfl),by first|exact Kd.R_nil _ _ _ _ _|exact Kd.N_nil _ _ _ _ _|exact Kd.V_nil _ _ _ _ _|exact Kd.Q_nil _ _ _ _ _|exact Kd.S_nil _ _ _ _ _,by repeat (first|(with_reducible first|exact HB.out|apply below_alloc|apply pw_below_drewN|apply below_drew1|refine below_set ?_ (IsS76.ge HI452.out)|refine below_set ?_ GE451.out|refine below_set ?_ GE463.out)|exact HB.out)⟩
 ·replace c3:=Bool.eq_false_iff.mpr c3
  subst c3
  have H1 : (some (t453,t454,t455,t456,t457,t461,0)) = some (r1,r2,r3,r4,r5,r6,r7):=by rw [if_neg (show ¬ (false = true) by decide)] at H;exact H
  clear H
  have H:=H1
  clear H1
  simp only [Option.some.injEq,Prod.mk.injEq] at H
  obtain ⟨rfl,rfl,rfl,rfl,rfl,rfl,rfl⟩:=H
  go_enter Try.func26,Try.ntmps26
  try go_wp2_with (first|((with_reducible refine gate_dst (N:=2) rfl ?_);refine box_event ?hg (N:=2) ?hd (cs:=#[.int .i64 0, .int .i64 0, .string (⟨#[]⟩ : ByteArray), .int .i64 0, .slice none 0 0]) (t:=24) ?hr ?_;(case hd => rfl);(case hg => rfl);(case hr => first|(go_simp;done)|(go_simp;rfl));intro gb451 hg w15 hbox hb;have n0_:=Aside0.mk (below_step (by repeat (first|(with_reducible first|exact HB.out|apply below_alloc|apply pw_below_drewN|apply below_drew1)|exact HB.out)) hb);have n1_:=Aside0.mk (hbox);have n2_:=Aside0.mk ((by rw [hg];exact (below_size (by repeat (first|(with_reducible first|exact HB.out|apply below_alloc|apply pw_below_drewN|apply below_drew1)|exact HB.out))) : w.heap.size ≤ gb451));have n3_:=Aside0.mk ((by rw [hg];exact (below_size (by repeat (first|(with_reducible first|exact HB.out|apply below_alloc|apply pw_below_drewN|apply below_drew1)|exact HB.out))) : w.heap.size ≤ gb451));clear HB;have HB:=n0_;have BK451:=n1_;have GW451:=n2_;have GE451:=n3_;clear n0_ n1_ n2_ n3_;clear hb hbox hg)|((with_reducible refine gate_dst (N:=9) rfl ?_);refine box_event ?hg (N:=9) ?hd (cs:=#[.slice A0 l0.length c0, .int .i64 0, .bool false]) (t:=76) ?hr ?_;(case hd => rfl);(case hg => rfl);(case hr => first|(go_simp;done)|(go_simp;rfl));intro gb452 hg w16 hbox hb;have n0_:=Aside0.mk (blk_below (g:=gb451) (o := .cells #[.int .i64 0, .int .i64 0, .string (⟨#[]⟩ : ByteArray), .int .i64 0, .slice none 0 0] 24 (0,0)) (by (with_reducible repeat (first|refine blk_drewN ?_ _|refine blk_drew ?_|refine blk_alloc ?_ _));exact BK451.out) hb);have n1_:=Aside0.mk (below_step (by repeat (first|(with_reducible first|exact HB.out|apply below_alloc|apply pw_below_drewN|apply below_drew1|refine below_set ?_ GE451.out)|exact HB.out)) hb);have n2_:=Aside0.mk (hbox);have n3_:=Aside0.mk ((by rw [hg];exact (below_size (by repeat (first|(with_reducible first|exact HB.out|apply below_alloc|apply pw_below_drewN|apply below_drew1|refine below_set ?_ GE451.out)|exact HB.out))) : w.heap.size ≤ gb452));have n4_:=Aside0.mk ((by rw [hg];exact (below_size (by repeat (first|(with_reducible first|exact HB.out|apply below_alloc|apply pw_below_drewN|apply below_drew1|refine below_set ?_ GE451.out)|exact HB.out))) : w.heap.size ≤ gb452));have n5_:=Aside0.mk ((by rw [hg];exact Nat.ne_of_lt (blk_lt (g:=gb451) (o := .cells #[.int .i64 0, .int .i64 0, .string (⟨#[]⟩ : ByteArray), .int .i64 0, .slice none 0 0] 24 (0,0)) (by (with_reducible repeat (first|refine blk_drewN ?_ _|refine blk_drew ?_|refine blk_alloc ?_ _));exact BK451.out)) : gb451 ≠ gb452));have n6_:=Aside0.mk ((by rw [hg];exact Nat.ne_of_gt (blk_lt (g:=gb451) (o := .cells #[.int .i64 0, .int .i64 0, .string (⟨#[]⟩ : ByteArray), .int .i64 0, .slice none 0 0] 24 (0,0)) (by (with_reducible repeat (first|refine blk_drewN ?_ _|refine blk_drew ?_|refine blk_alloc ?_ _));exact BK451.out)) : gb452 ≠ gb451));clear BK451;clear HB;have BK451:=n0_;have HB:=n1_;have BK452:=n2_;have GW452:=n3_;have GE452:=n4_;have NB451_452:=n5_;have NB452_451:=n6_;clear n0_ n1_ n2_ n3_ n4_ n5_ n6_;clear hb hbox hg;have HI452:=Aside0.mk (show IsS76 w _ gb452 l0 0 false from ⟨_,_,BK452.out,GE452.out,HR0.out,HC0.out⟩);clear BK452)|((with_reducible refine gate_callee (f:=39) rfl ?_);refine goesL_ (some 11) rfl rfl Try.func39 (by kernel_rfl) rfl #[.pointer (some ⟨gb452,0,none⟩), .bool false] rfl (by (try simp only [List.map_toArray,List.map_cons,List.map_nil]);first|done|rfl|(simp only [List.length_drop,List.length_take];rfl)|(go_simp;done)|(go_simp;simp;done)) ?_;(with_reducible refine (codec_reader_value.calls k gb452 l0 0 false false t453 t454 t455 t456 t457 t460 t461 false w _ ?side1 ?side2 A2.out).mono ?_);(case side1 => first|((repeat (first|(with_reducible first|exact HI452.out|apply IsS76.alloc|apply IsS76.drewN|apply IsS76.drew|apply IsS76.set_1|apply IsS76.set_2|refine IsS76.far ?_ NB452_451.out _|(apply IsS76.far;case hne => exact NB452_451.out))|exact HI452.out));done)|((simp only [*]);(repeat (first|(with_reducible first|exact HI452.out|apply IsS76.alloc|apply IsS76.drewN|apply IsS76.drew|apply IsS76.set_1|apply IsS76.set_2|refine IsS76.far ?_ NB452_451.out _|(apply IsS76.far;case hne => exact NB452_451.out))|exact HI452.out))));(case side2 => repeat (first|(with_reducible first|exact HB.out|apply below_alloc|apply pw_below_drewN|apply below_drew1|refine below_set ?_ (IsS76.ge HI452.out)|refine below_set ?_ GE451.out)|exact HB.out));rintro e w17 ⟨v458,rfl,ho0,hi,hb,hk⟩;refine ⟨_,rfl,?_⟩;have n0_:=Aside0.mk (KeepBut.blk hk (g':=gb451) (o := .cells #[.int .i64 0, .int .i64 0, .string (⟨#[]⟩ : ByteArray), .int .i64 0, .slice none 0 0] 24 (0,0)) (by (with_reducible repeat (first|refine blk_drewN ?_ _|refine blk_drew ?_|refine blk_alloc ?_ _));exact BK451.out) NB451_452.out (by simp));have n1_:=Aside0.mk (Kd.R_lower (Kd.R_newB ho0 (g:=gb451) (o := .cells #[.int .i64 0, .int .i64 0, .string (⟨#[]⟩ : ByteArray), .int .i64 0, .slice none 0 0] 24 (0,0)) (by (with_reducible repeat (first|refine blk_drewN ?_ _|refine blk_drew ?_|refine blk_alloc ?_ _));exact BK451.out)) (below_size (by repeat (first|(with_reducible first|exact HB.out|apply below_alloc|apply pw_below_drewN|apply below_drew1|refine below_set ?_ (IsS76.ge HI452.out)|refine below_set ?_ GE451.out)|exact HB.out))));have n2_:=Aside0.mk (hb);have n3_:=Aside0.mk (hi);clear BK451;clear HB;clear HI452;have BK451:=n0_;have HO459:=n1_;have HB:=n2_;have HI452:=n3_;clear n0_ n1_ n2_ n3_;(try clear hb);(try clear hb2);(try clear hk);(try clear hi);(try clear ho0))|((with_reducible refine gate_dst (N:=6) rfl ?_);refine box_event ?hg (N:=6) ?hd (cs:=#[.int .i64 0, .int .i64 0, .string (⟨#[]⟩ : ByteArray), .int .i64 0, .slice none 0 0]) (t:=24) ?hr ?_;(case hd => rfl);(case hg => rfl);(case hr => first|(go_simp;done)|(go_simp;rfl));intro gb463 hg w18 hbox hb;have n0_:=Aside0.mk (Kd.R_below (Kd.R_elderB (by (with_reducible repeat (first|apply Kd.R_alloc|apply Kd.R_drewN|apply Kd.R_drew));exact HO459.out) gb463 (Nat.le_of_eq hg.symm)) hb);have n1_:=Aside0.mk (blk_below (g:=gb451) (o := .cells #[.int .i64 0, .int .i64 0, .string (⟨#[]⟩ : ByteArray), .int .i64 0, .slice none 0 0] 24 (0,0)) (by (with_reducible repeat (first|refine blk_drewN ?_ _|refine blk_drew ?_|refine blk_alloc ?_ _));exact BK451.out) hb);have n2_:=Aside0.mk (IsS76.below (by first|((repeat (first|(with_reducible first|exact HI452.out|apply IsS76.alloc|apply IsS76.drewN|apply IsS76.drew|apply IsS76.set_1|apply IsS76.set_2|refine IsS76.far ?_ NB452_451.out _|(apply IsS76.far;case hne => exact NB452_451.out))|exact HI452.out));done)|((simp only [*]);(repeat (first|(with_reducible first|exact HI452.out|apply IsS76.alloc|apply IsS76.drewN|apply IsS76.drew|apply IsS76.set_1|apply IsS76.set_2|refine IsS76.far ?_ NB452_451.out _|(apply IsS76.far;case hne => exact NB452_451.out))|exact HI452.out)))) hb);have n3_:=Aside0.mk (below_step (by repeat (first|(with_reducible first|exact HB.out|apply below_alloc|apply pw_below_drewN|apply below_drew1|refine below_set ?_ (IsS76.ge HI452.out)|refine below_set ?_ GE451.out)|exact HB.out)) hb);have n4_:=Aside0.mk (hbox);have n5_:=Aside0.mk ((by rw [hg];exact (below_size (by repeat (first|(with_reducible first|exact HB.out|apply below_alloc|apply pw_below_drewN|apply below_drew1|refine below_set ?_ (IsS76.ge HI452.out)|refine below_set ?_ GE451.out)|exact HB.out))) : w.heap.size ≤ gb463));have n6_:=Aside0.mk ((by rw [hg];exact (below_size (by repeat (first|(with_reducible first|exact HB.out|apply below_alloc|apply pw_below_drewN|apply below_drew1|refine below_set ?_ (IsS76.ge HI452.out)|refine below_set ?_ GE451.out)|exact HB.out))) : w.heap.size ≤ gb463));have n7_:=Aside0.mk ((by rw [hg];exact Nat.ne_of_lt (blk_lt (g:=gb451) (o := .cells #[.int .i64 0, .int .i64 0, .string (⟨#[]⟩ : ByteArray), .int .i64 0, .slice none 0 0] 24 (0,0)) (by (with_reducible repeat (first|refine blk_drewN ?_ _|refine blk_drew ?_|refine blk_alloc ?_ _));exact BK451.out)) : gb451 ≠ gb463));have n8_:=Aside0.mk ((by rw [hg];exact Nat.ne_of_gt (blk_lt (g:=gb451) (o := .cells #[.int .i64 0, .int .i64 0, .string (⟨#[]⟩ : ByteArray), .int .i64 0, .slice none 0 0] 24 (0,0)) (by (with_reducible repeat (first|refine blk_drewN ?_ _|refine blk_drew ?_|refine blk_alloc ?_ _));exact BK451.out)) : gb463 ≠ gb451));have n9_:=Aside0.mk ((by rw [hg];exact Nat.ne_of_lt (IsS76.lt (show IsS76 w _ gb452 t460 t461 false from by first|((repeat (first|(with_reducible first|exact HI452.out|apply IsS76.alloc|apply IsS76.drewN|apply IsS76.drew|apply IsS76.set_1|apply IsS76.set_2|refine IsS76.far ?_ NB452_451.out _|(apply IsS76.far;case hne => exact NB452_451.out))|exact HI452.out));done)|((simp only [*]);(repeat (first|(with_reducible first|exact HI452.out|apply IsS76.alloc|apply IsS76.drewN|apply IsS76.drew|apply IsS76.set_1|apply IsS76.set_2|refine IsS76.far ?_ NB452_451.out _|(apply IsS76.far;case hne => exact NB452_451.out))|exact HI452.out))))) : gb452 ≠ gb463));have n10_:=Aside0.mk ((by rw [hg];exact Nat.ne_of_gt (IsS76.lt (show IsS76 w _ gb452 t460 t461 false from by first|((repeat (first|(with_reducible first|exact HI452.out|apply IsS76.alloc|apply IsS76.drewN|apply IsS76.drew|apply IsS76.set_1|apply IsS76.set_2|refine IsS76.far ?_ NB452_451.out _|(apply IsS76.far;case hne => exact NB452_451.out))|exact HI452.out));done)|((simp only [*]);(repeat (first|(with_reducible first|exact HI452.out|apply IsS76.alloc|apply IsS76.drewN|apply IsS76.drew|apply IsS76.set_1|apply IsS76.set_2|refine IsS76.far ?_ NB452_451.out _|(apply IsS76.far;case hne => exact NB452_451.out))|exact HI452.out))))) : gb463 ≠ gb452));clear HO459;clear BK451;clear HI452;clear HB;have HO459:=n0_;have BK451:=n1_;have HI452:=n2_;have HB:=n3_;have BK463:=n4_;have GW463:=n5_;have GE463:=n6_;have NB451_463:=n7_;have NB463_451:=n8_;have NB452_463:=n9_;have NB463_452:=n10_;clear n0_ n1_ n2_ n3_ n4_ n5_ n6_ n7_ n8_ n9_ n10_;clear hb hbox hg;have hnb19:=NB463_451.out;have hnc19:=NB451_463.out;have hnb20:=NB463_452.out;have hnc20:=NB452_463.out;have hcz21_0 : w18.cell? ⟨gb463,0,none⟩ = some (.int .i64 0):=(blk_cell BK463.out 0).trans rfl;have hcz21_1 : w18.cell? ⟨gb463,1,none⟩ = some (.int .i64 0):=(blk_cell BK463.out 1).trans rfl;have hcz21_2 : w18.cell? ⟨gb463,2,none⟩ = some (.string (⟨#[]⟩ : ByteArray)):=(blk_cell BK463.out 2).trans rfl;have hcz21_3 : w18.cell? ⟨gb463,3,none⟩ = some (.int .i64 0):=(blk_cell BK463.out 3).trans rfl;have hcz21_4 : w18.cell? ⟨gb463,4,none⟩ = some (.slice none 0 0):=(blk_cell BK463.out 4).trans rfl;have hfz21_0:=blk_frozen BK463.out 0;have hfz21_1:=blk_frozen BK463.out 1;have hfz21_2:=blk_frozen BK463.out 2;have hfz21_3:=blk_frozen BK463.out 3;have hfz21_4:=blk_frozen BK463.out 4;obtain ⟨Ao22,co22,eo22⟩:=Kd.R_slice HO459.out;subst eo22;obtain ⟨ASz23_0,cSz23_0,HGz23,hgz23,HSz23_0,hlSz23_0⟩:=HI452.out;have hcz23_0:=cellS76_0 HGz23;have hcz23_1:=cellS76_1 HGz23;have hcz23_2:=cellS76_2 HGz23;have hfz23_0:=blk_frozen HGz23 0;have hfz23_1:=blk_frozen HGz23 1;have hfz23_2:=blk_frozen HGz23 2;clear HGz23 hgz23))
  have n0_ : Aside0 (Kd.R k24 24 (((((w18.setCell ⟨gb463,0,none⟩ (.int .i64 t453)).setCell ⟨gb463,1,none⟩ (.int .i64 t454)).setCell ⟨gb463,2,none⟩ (.string t455)).setCell ⟨gb463,3,none⟩ (.int .i64 t456)).setCell ⟨gb463,4,none⟩ (.slice Ao22 t457.length co22)) w.heap.size (fun k_ => k_ ≠ gb451 ∧ k_ ≠ gb463) (.slice Ao22 t457.length co22) t457):=⟨by (with_reducible repeat (first|apply Kd.R_alloc|apply Kd.R_drewN|apply Kd.R_drew));exact Kd.R_mono (Kd.R_far (p:=⟨gb463,4,none⟩) (Kd.R_far (p:=⟨gb463,3,none⟩) (Kd.R_far (p:=⟨gb463,2,none⟩) (Kd.R_far (p:=⟨gb463,1,none⟩) (Kd.R_far (p:=⟨gb463,0,none⟩) (Kd.R_mono HO459.out (fun k_ hk => (⟨hk,hk.2⟩ : _ ∧ k_ ≠ gb463))) (fun _ hk => hk.2) (.int .i64 t453)) (fun _ hk => hk.2) (.int .i64 t454)) (fun _ hk => hk.2) (.string t455)) (fun _ hk => hk.2) (.int .i64 t456)) (fun _ hk => hk.2) (.slice Ao22 t457.length co22)) (fun _ hk => ⟨hk.1.1.2,hk.1.2⟩)⟩
  have n1_ : Aside0 ((((((w18.setCell ⟨gb463,0,none⟩ (.int .i64 t453)).setCell ⟨gb463,1,none⟩ (.int .i64 t454)).setCell ⟨gb463,2,none⟩ (.string t455)).setCell ⟨gb463,3,none⟩ (.int .i64 t456)).setCell ⟨gb463,4,none⟩ (.slice Ao22 t457.length co22)).heap[gb451]? = some (.cells #[.int .i64 0, .int .i64 0, .string (⟨#[]⟩ : ByteArray), .int .i64 0, .slice none 0 0] 24 (0,0))):=⟨by (with_reducible repeat (first|refine blk_drewN ?_ _|refine blk_drew ?_|refine blk_alloc ?_ _));refine blk_far ?_ NB451_463.out _;(with_reducible repeat (first|refine blk_drewN ?_ _|refine blk_drew ?_|refine blk_alloc ?_ _));refine blk_far ?_ NB451_463.out _;(with_reducible repeat (first|refine blk_drewN ?_ _|refine blk_drew ?_|refine blk_alloc ?_ _));refine blk_far ?_ NB451_463.out _;(with_reducible repeat (first|refine blk_drewN ?_ _|refine blk_drew ?_|refine blk_alloc ?_ _));refine blk_far ?_ NB451_463.out _;(with_reducible repeat (first|refine blk_drewN ?_ _|refine blk_drew ?_|refine blk_alloc ?_ _));refine blk_far ?_ NB451_463.out _;(with_reducible repeat (first|refine blk_drewN ?_ _|refine blk_drew ?_|refine blk_alloc ?_ _));exact BK451.out⟩
  have n2_ : Aside0 ((((((w18.setCell ⟨gb463,0,none⟩ (.int .i64 t453)).setCell ⟨gb463,1,none⟩ (.int .i64 t454)).setCell ⟨gb463,2,none⟩ (.string t455)).setCell ⟨gb463,3,none⟩ (.int .i64 t456)).setCell ⟨gb463,4,none⟩ (.slice Ao22 t457.length co22)).heap[gb463]? = some (.cells #[.int .i64 t453, .int .i64 t454, .string t455, .int .i64 t456, .slice Ao22 t457.length co22] 24 (0,0))):=⟨by (with_reducible repeat (first|refine blk_drewN ?_ _|refine blk_drew ?_|refine blk_alloc ?_ _));refine blk_put (cs:=#[.int .i64 t453, .int .i64 t454, .string t455, .int .i64 t456, .slice none 0 0]) ?_ 4 _ rfl;(with_reducible repeat (first|refine blk_drewN ?_ _|refine blk_drew ?_|refine blk_alloc ?_ _));refine blk_put (cs:=#[.int .i64 t453, .int .i64 t454, .string t455, .int .i64 0, .slice none 0 0]) ?_ 3 _ rfl;(with_reducible repeat (first|refine blk_drewN ?_ _|refine blk_drew ?_|refine blk_alloc ?_ _));refine blk_put (cs:=#[.int .i64 t453, .int .i64 t454, .string (⟨#[]⟩ : ByteArray), .int .i64 0, .slice none 0 0]) ?_ 2 _ rfl;(with_reducible repeat (first|refine blk_drewN ?_ _|refine blk_drew ?_|refine blk_alloc ?_ _));refine blk_put (cs:=#[.int .i64 t453, .int .i64 0, .string (⟨#[]⟩ : ByteArray), .int .i64 0, .slice none 0 0]) ?_ 1 _ rfl;(with_reducible repeat (first|refine blk_drewN ?_ _|refine blk_drew ?_|refine blk_alloc ?_ _));refine blk_put (cs:=#[.int .i64 0, .int .i64 0, .string (⟨#[]⟩ : ByteArray), .int .i64 0, .slice none 0 0]) ?_ 0 _ rfl;(with_reducible repeat (first|refine blk_drewN ?_ _|refine blk_drew ?_|refine blk_alloc ?_ _));exact BK463.out⟩
  have n3_ : Aside0 (IsS76 w (((((w18.setCell ⟨gb463,0,none⟩ (.int .i64 t453)).setCell ⟨gb463,1,none⟩ (.int .i64 t454)).setCell ⟨gb463,2,none⟩ (.string t455)).setCell ⟨gb463,3,none⟩ (.int .i64 t456)).setCell ⟨gb463,4,none⟩ (.slice Ao22 t457.length co22)) gb452 t460 t461 false):=⟨by first|((repeat (first|(with_reducible first|exact HI452.out|apply IsS76.alloc|apply IsS76.drewN|apply IsS76.drew|apply IsS76.set_1|apply IsS76.set_2|refine IsS76.far ?_ NB452_451.out _|(apply IsS76.far;case hne => exact NB452_451.out)|refine IsS76.far ?_ NB452_463.out _|(apply IsS76.far;case hne => exact NB452_463.out))|exact HI452.out));done)|((simp only [*]);(repeat (first|(with_reducible first|exact HI452.out|apply IsS76.alloc|apply IsS76.drewN|apply IsS76.drew|apply IsS76.set_1|apply IsS76.set_2|refine IsS76.far ?_ NB452_451.out _|(apply IsS76.far;case hne => exact NB452_451.out)|refine IsS76.far ?_ NB452_463.out _|(apply IsS76.far;case hne => exact NB452_463.out))|exact HI452.out)))⟩
  have n4_ : Aside0 (Below w.heap.size w (((((w18.setCell ⟨gb463,0,none⟩ (.int .i64 t453)).setCell ⟨gb463,1,none⟩ (.int .i64 t454)).setCell ⟨gb463,2,none⟩ (.string t455)).setCell ⟨gb463,3,none⟩ (.int .i64 t456)).setCell ⟨gb463,4,none⟩ (.slice Ao22 t457.length co22))):=⟨by repeat (first|(with_reducible first|exact HB.out|apply below_alloc|apply pw_below_drewN|apply below_drew1|refine below_set ?_ (IsS76.ge HI452.out)|refine below_set ?_ GE451.out|refine below_set ?_ GE463.out)|exact HB.out)⟩
  (try clear HO459)
  (try clear BK451)
  (try clear BK463)
  (try clear HI452)
  (try clear HB)
  generalize (((((w18.setCell ⟨gb463,0,none⟩ (.int .i64 t453)).setCell ⟨gb463,1,none⟩ (.int .i64 t454)).setCell ⟨gb463,2,none⟩ (.string t455)).setCell ⟨gb463,3,none⟩ (.int .i64 t456)).setCell ⟨gb463,4,none⟩ (.slice Ao22 t457.length co22)) = w24 at n0_ n1_ n2_ n3_ n4_ ⊢
  have HO459:=n0_
  have BK451:=n1_
  have BK463:=n2_
  have HI452:=n3_
  have HB:=n4_
  clear n0_ n1_ n2_ n3_ n4_
  obtain ⟨AT452_0,cT452_0,HGT_,hgT_,hrT_0,hlT_0⟩:=HI452.out
  have BK452:=Aside0.mk HGT_
  clear HGT_ hgT_ HI452
  have n0_:=Aside0.mk (Kd.R_drew HO459.out)
  have n1_:=Aside0.mk (blk_drew BK451.out)
  have n2_:=Aside0.mk (blk_drew BK452.out)
  have n3_:=Aside0.mk (blk_drew BK463.out)
  have n4_:=Aside0.mk (below_drew1 HB.out)
  clear HO459
  clear BK451
  clear BK452
  clear BK463
  clear HB
  have HO459:=n0_
  have BK451:=n1_
  have BK452:=n2_
  have BK463:=n3_
  have HB:=n4_
  clear n0_ n1_ n2_ n3_ n4_
  refine start_ (n:=8) (S:=fun w' => w'.cell? ⟨gb463,0,none⟩ = some (.int .i64 t453) ∧ w'.cell? ⟨gb463,1,none⟩ = some (.int .i64 t454) ∧ w'.cell? ⟨gb463,2,none⟩ = some (.string t455) ∧ w'.cell? ⟨gb463,3,none⟩ = some (.int .i64 t456) ∧ w'.cell? ⟨gb463,4,none⟩ = some (.slice Ao22 t457.length co22) ∧ w'.cell? ⟨gb452,0,none⟩ = some (.slice AT452_0 t460.length cT452_0) ∧ w'.cell? ⟨gb452,1,none⟩ = some (.int .i64 t461) ∧ w'.cell? ⟨gb452,2,none⟩ = some (.bool false)) (ds:=[]) #[false,false,false,false,false,false,false,false] (by kernel_rfl) rfl rfl ⟨(blk_cell BK463.out 0).trans rfl,(blk_cell BK463.out 1).trans rfl,(blk_cell BK463.out 2).trans rfl,(blk_cell BK463.out 3).trans rfl,(blk_cell BK463.out 4).trans rfl,(blk_cell BK452.out 0).trans rfl,(blk_cell BK452.out 1).trans rfl,(blk_cell BK452.out 2).trans rfl⟩ (fun hHeld => ?_);refine with_tabW codec_Value.tab5 codec_Value.bits5 (fun HT_ HW_ => ?_)
  generalize w24.drew = w25 at HO459 BK451 BK452 BK463 HB hHeld ⊢
  refine pure_ (i:=1) (N:=some 18) (v:=?_) (a':=?_) #[false,true,false,false,false,false,false,false] rfl rfl (any_of HT_.out (by kernel_rfl)) (fun _ _ _ h => h) (Or.inl ⟨by rfl,?_⟩) ?_ ?_
  rotate_left
  ·intro w'
   go_simp
   with_reducible rfl
  rotate_left
  ·simp only [Act.put,List.setIfInBounds_toArray,List.set_cons_zero,List.set_cons_succ,i64_w,i32_w]
   rfl
  refine pure_ (i:=2) (N:=some 19) (v:=?_) (a':=?_) #[false,true,true,false,false,false,false,false] rfl rfl (any_of HT_.out (by kernel_rfl)) (fun _ _ _ h => h) (Or.inl ⟨by rfl,?_⟩) ?_ ?_
  rotate_left
  ·intro w'
   go_simp
   with_reducible rfl
  rotate_left
  ·simp only [Act.put,List.setIfInBounds_toArray,List.set_cons_zero,List.set_cons_succ,i64_w,i32_w]
   rfl
  refine pure_ (i:=3) (N:=some 20) (v:=?_) (a':=?_) #[false,true,true,true,false,false,false,false] rfl rfl (any_of HT_.out (by kernel_rfl)) (fun _ _ _ h => h) (Or.inl ⟨by rfl,?_⟩) ?_ ?_
  rotate_left
  ·intro w'
   go_simp
   with_reducible rfl
  rotate_left
  ·simp only [Act.put,List.setIfInBounds_toArray,List.set_cons_zero,List.set_cons_succ,i64_w,i32_w]
   rfl
  refine take_ (i:=0) (N:=some 17) (v:=?_) (a':=?_) #[true,true,true,true,false,false,false,false] rfl rfl (take_ofW HT_.out HW_.out (by kernel_rfl)) (fun _ _ _ h => h) (Or.inl ⟨by rfl,?_⟩) hHeld ?_ ?_
  rotate_left
  ·rintro w' ⟨s0,s1,s2,s3,s4,s5,s6,s7⟩
   go_simp
   with_reducible rfl
  rotate_left
  ·simp only [Act.put,List.setIfInBounds_toArray,List.set_cons_zero,List.set_cons_succ,i64_w,i32_w]
   rfl
  refine take_ (i:=4) (N:=some 21) (v:=?_) (a':=?_) #[true,true,true,true,true,false,false,false] rfl rfl (take_ofW HT_.out HW_.out (by kernel_rfl)) (fun _ _ _ h => h) (Or.inl ⟨by rfl,?_⟩) hHeld ?_ ?_
  rotate_left
  ·rintro w' ⟨s0,s1,s2,s3,s4,s5,s6,s7⟩
   go_simp
   with_reducible rfl
  rotate_left
  ·simp only [Act.put,List.setIfInBounds_toArray,List.set_cons_zero,List.set_cons_succ,i64_w,i32_w]
   rfl
  refine one_ (i:=5) (N:=none) #[true,true,true,true,true,true,false,false] rfl rfl (one_of HT_.out (by kernel_rfl)) (by decide) (fun K hK => ?_)
  have hs26 : w25.cell? ⟨gb451,0,none⟩ = some (.int .i64 0):=(blk_cell BK451.out 0).trans rfl
  have hfs26:=blk_frozen BK451.out 0
  have hns26_1:=NB452_451.out
  have hns26_2:=NB463_451.out
  have hms26_1:=NB451_452.out
  have hms26_2:=NB451_463.out
  have hs27 : w25.cell? ⟨gb451,1,none⟩ = some (.int .i64 0):=(blk_cell BK451.out 1).trans rfl
  have hfs27:=blk_frozen BK451.out 1
  have hns27_1:=NB452_451.out
  have hns27_2:=NB463_451.out
  have hms27_1:=NB451_452.out
  have hms27_2:=NB451_463.out
  have hs28 : w25.cell? ⟨gb451,2,none⟩ = some (.string (⟨#[]⟩ : ByteArray)):=(blk_cell BK451.out 2).trans rfl
  have hfs28:=blk_frozen BK451.out 2
  have hns28_1:=NB452_451.out
  have hns28_2:=NB463_451.out
  have hms28_1:=NB451_452.out
  have hms28_2:=NB451_463.out
  have hs29 : w25.cell? ⟨gb451,3,none⟩ = some (.int .i64 0):=(blk_cell BK451.out 3).trans rfl
  have hfs29:=blk_frozen BK451.out 3
  have hns29_1:=NB452_451.out
  have hns29_2:=NB463_451.out
  have hms29_1:=NB451_452.out
  have hms29_2:=NB451_463.out
  have hs30 : w25.cell? ⟨gb451,4,none⟩ = some (.slice none 0 0):=(blk_cell BK451.out 4).trans rfl
  have hfs30:=blk_frozen BK451.out 4
  have hns30_1:=NB452_451.out
  have hns30_2:=NB463_451.out
  have hms30_1:=NB451_452.out
  have hms30_2:=NB451_463.out
  refine skip_ (w1:=?_) (by rfl) rfl ?_ ?_
  rotate_left
  ·go_simp
   rfl
  refine hK.out _ _ ⟨((cell_far (p:=⟨gb451,_,none⟩) NB463_451.out _).trans (((cell_far (p:=⟨gb451,_,none⟩) NB463_451.out _).trans (((cell_far (p:=⟨gb451,_,none⟩) NB463_451.out _).trans (((cell_far (p:=⟨gb451,_,none⟩) NB463_451.out _).trans (((cell_far (p:=⟨gb451,_,none⟩) NB463_451.out _).trans (hHeld.1)))))))))),((cell_far (p:=⟨gb451,_,none⟩) NB463_451.out _).trans (((cell_far (p:=⟨gb451,_,none⟩) NB463_451.out _).trans (((cell_far (p:=⟨gb451,_,none⟩) NB463_451.out _).trans (((cell_far (p:=⟨gb451,_,none⟩) NB463_451.out _).trans (((cell_far (p:=⟨gb451,_,none⟩) NB463_451.out _).trans (hHeld.2.1)))))))))),((cell_far (p:=⟨gb451,_,none⟩) NB463_451.out _).trans (((cell_far (p:=⟨gb451,_,none⟩) NB463_451.out _).trans (((cell_far (p:=⟨gb451,_,none⟩) NB463_451.out _).trans (((cell_far (p:=⟨gb451,_,none⟩) NB463_451.out _).trans (((cell_far (p:=⟨gb451,_,none⟩) NB463_451.out _).trans (hHeld.2.2.1)))))))))),((cell_far (p:=⟨gb451,_,none⟩) NB463_451.out _).trans (((cell_far (p:=⟨gb451,_,none⟩) NB463_451.out _).trans (((cell_far (p:=⟨gb451,_,none⟩) NB463_451.out _).trans (((cell_far (p:=⟨gb451,_,none⟩) NB463_451.out _).trans (((cell_far (p:=⟨gb451,_,none⟩) NB463_451.out _).trans (hHeld.2.2.2.1)))))))))),((cell_far (p:=⟨gb451,_,none⟩) NB463_451.out _).trans (((cell_far (p:=⟨gb451,_,none⟩) NB463_451.out _).trans (((cell_far (p:=⟨gb451,_,none⟩) NB463_451.out _).trans (((cell_far (p:=⟨gb451,_,none⟩) NB463_451.out _).trans (((cell_far (p:=⟨gb451,_,none⟩) NB463_451.out _).trans (hHeld.2.2.2.2.1)))))))))),((cell_far (p:=⟨gb451,_,none⟩) NB452_451.out _).trans (((cell_far (p:=⟨gb451,_,none⟩) NB452_451.out _).trans (((cell_far (p:=⟨gb451,_,none⟩) NB452_451.out _).trans (((cell_far (p:=⟨gb451,_,none⟩) NB452_451.out _).trans (((cell_far (p:=⟨gb451,_,none⟩) NB452_451.out _).trans (hHeld.2.2.2.2.2.1)))))))))),((cell_far (p:=⟨gb451,_,none⟩) NB452_451.out _).trans (((cell_far (p:=⟨gb451,_,none⟩) NB452_451.out _).trans (((cell_far (p:=⟨gb451,_,none⟩) NB452_451.out _).trans (((cell_far (p:=⟨gb451,_,none⟩) NB452_451.out _).trans (((cell_far (p:=⟨gb451,_,none⟩) NB452_451.out _).trans (hHeld.2.2.2.2.2.2.1)))))))))),((cell_far (p:=⟨gb451,_,none⟩) NB452_451.out _).trans (((cell_far (p:=⟨gb451,_,none⟩) NB452_451.out _).trans (((cell_far (p:=⟨gb451,_,none⟩) NB452_451.out _).trans (((cell_far (p:=⟨gb451,_,none⟩) NB452_451.out _).trans (((cell_far (p:=⟨gb451,_,none⟩) NB452_451.out _).trans (hHeld.2.2.2.2.2.2.2))))))))))⟩ (fun hHeld => ?_)
  clear hK K
  refine pure_ (i:=6) (N:=some 3) (v:=?_) (a':=?_) #[true,true,true,true,true,true,true,false] rfl rfl (any_of HT_.out (by kernel_rfl)) (fun _ _ _ h => h) (Or.inl ⟨by rfl,?_⟩) ?_ ?_
  rotate_left
  ·intro w'
   go_simp
   with_reducible rfl
  rotate_left
  ·simp only [Act.put,List.setIfInBounds_toArray,List.set_cons_zero,List.set_cons_succ,i64_w,i32_w]
   rfl
  refine pure_ (i:=7) (N:=some 4) (v:=?_) (a':=?_) #[true,true,true,true,true,true,true,true] rfl rfl (any_of HT_.out (by kernel_rfl)) (fun _ _ _ h => h) (Or.inl ⟨by rfl,?_⟩) ?_ ?_
  rotate_left
  ·intro w'
   go_simp
   with_reducible rfl
  rotate_left
  ·simp only [Act.put,List.setIfInBounds_toArray,List.set_cons_zero,List.set_cons_succ,i64_w,i32_w]
   rfl
  refine done_ (done_of HT_.out (by kernel_rfl)) ?_
  try go_wp2
  refine bodyPost_ret (results_ctt rfl _ _ gb451 24 #[.int .i64 t453, .int .i64 t454, .string t455, .int .i64 t456, .slice Ao22 t457.length co22] (0,0) _ rfl (by (with_reducible repeat (first|refine blk_drewN ?_ _|refine blk_drew ?_|refine blk_alloc ?_ _));refine blk_put (cs:=#[.int .i64 t453, .int .i64 t454, .string t455, .int .i64 t456, .slice none 0 0]) ?_ 4 _ rfl;(with_reducible repeat (first|refine blk_drewN ?_ _|refine blk_drew ?_|refine blk_alloc ?_ _));refine blk_put (cs:=#[.int .i64 t453, .int .i64 t454, .string t455, .int .i64 0, .slice none 0 0]) ?_ 3 _ rfl;(with_reducible repeat (first|refine blk_drewN ?_ _|refine blk_drew ?_|refine blk_alloc ?_ _));refine blk_put (cs:=#[.int .i64 t453, .int .i64 t454, .string (⟨#[]⟩ : ByteArray), .int .i64 0, .slice none 0 0]) ?_ 2 _ rfl;(with_reducible repeat (first|refine blk_drewN ?_ _|refine blk_drew ?_|refine blk_alloc ?_ _));refine blk_put (cs:=#[.int .i64 t453, .int .i64 0, .string (⟨#[]⟩ : ByteArray), .int .i64 0, .slice none 0 0]) ?_ 1 _ rfl;(with_reducible repeat (first|refine blk_drewN ?_ _|refine blk_drew ?_|refine blk_alloc ?_ _));refine blk_put (cs:=#[.int .i64 0, .int .i64 0, .string (⟨#[]⟩ : ByteArray), .int .i64 0, .slice none 0 0]) ?_ 0 _ rfl;(with_reducible repeat (first|refine blk_drewN ?_ _|refine blk_drew ?_|refine blk_alloc ?_ _));exact BK451.out) Try.underlying24 rfl (by kernel_rfl)) rfl ?_
  exact ⟨_,by first|rfl|(simp [errW_none,errW_some] <;> rfl)|(simp [*,errW_none,errW_some] <;> rfl),by (with_reducible repeat (first|apply Kd.R_alloc|apply Kd.R_drewN|apply Kd.R_drew));exact Kd.R_mono (Kd.R_far (p:=⟨gb451,4,none⟩) (Kd.R_far (p:=⟨gb451,3,none⟩) (Kd.R_far (p:=⟨gb451,2,none⟩) (Kd.R_far (p:=⟨gb451,1,none⟩) (Kd.R_far (p:=⟨gb451,0,none⟩) (Kd.R_mono HO459.out (fun k_ hk => (⟨hk,hk.1⟩ : _ ∧ k_ ≠ gb451))) (fun _ hk => hk.2) (.int .i64 t453)) (fun _ hk => hk.2) (.int .i64 t454)) (fun _ hk => hk.2) (.string t455)) (fun _ hk => hk.2) (.int .i64 t456)) (fun _ hk => hk.2) (.slice Ao22 t457.length co22)) (fun _ hk => trivial),by repeat (first|(with_reducible first|exact HB.out|apply below_alloc|apply pw_below_drewN|apply below_drew1|refine below_set ?_ GE451.out|refine below_set ?_ GE452.out|refine below_set ?_ GE463.out)|exact HB.out)⟩

end Go.Proofs.Ythbnblmnamckmaa.PAll
-- Laid by a program of this seat (wip/xprint.py over the kit's print).
namespace Go.Proofs.Ythbnblmnamckmaa.PAll
open Go.RowKit Go.Proofs.YthbnblmnamckmaaW.PrintWords Go.Proofs.YthbnblmnamckmaaW.PrintLast Go.Proofs.YthbnblmnamckmaaW.PrintMore
attribute [local go_sem] max2_int min2_int max_two min_two max_three min_three max_four min_four   -- for this text's walks alone
set_option linter.unusedVariables false
set_option linter.unusedSimpArgs false

/-! ### windlassref2_Uint: function 27 -/
mutual
def windlassref2_Uint.l0 : Nat → List Int → Int → Int → Option (Int × Int × Int)
  | 0, _, _, _ => none
  | k + 1, x0, x5, x6 => if x6 < (x0.length : Int) then (if 0 ≤ x6 then (if x6 = 10 then (windlassref2_Uint.j1 k x0 x5 x6 (IntKind.u64.wrap (Int.tmod (rd x0 x6) 128)) true) else (if x6 = 9 then (if (IntKind.u64.wrap (Int.tmod (rd x0 x6) 128)) > 1 then (windlassref2_Uint.j1 k x0 x5 x6 (IntKind.u64.wrap (Int.tmod (rd x0 x6) 128)) true) else (if x6 > 0 then (windlassref2_Uint.j1 k x0 x5 x6 (IntKind.u64.wrap (Int.tmod (rd x0 x6) 128)) ((rd x0 x6) == 0)) else (windlassref2_Uint.j1 k x0 x5 x6 (IntKind.u64.wrap (Int.tmod (rd x0 x6) 128)) false))) else (if x6 > 0 then (windlassref2_Uint.j1 k x0 x5 x6 (IntKind.u64.wrap (Int.tmod (rd x0 x6) 128)) ((rd x0 x6) == 0)) else (windlassref2_Uint.j1 k x0 x5 x6 (IntKind.u64.wrap (Int.tmod (rd x0 x6) 128)) false)))) else (none)) else (some (0, 0, 20))
def windlassref2_Uint.j1 : Nat → List Int → Int → Int → Int → Bool → Option (Int × Int × Int)
  | 0, _, _, _, _, _ => none
  | k + 1, x0, x5, x6, x7, x40 => if x40 = true then (some (0, 0, 20)) else (if 0 ≤ (wrap64 (7 * x6)) then (if 0 ≤ x6 then (if x6 < (x0.length : Int) then (if (rd x0 x6) < 128 then (some (Go.bits .or .u64 x5 (shl .u64 x7 (wrap64 (7 * x6))), wrap64 (x6 + 1), 0)) else (windlassref2_Uint.l0 k x0 (Go.bits .or .u64 x5 (shl .u64 x7 (wrap64 (7 * x6)))) (wrap64 (x6 + 1)))) else (none)) else (none)) else (none))
end
def windlassref2_Uint.f (k : Nat) (l0 : List Int) : Option (Int × Int × Int) := windlassref2_Uint.l0 k l0 0 0
theorem windlassref2_Uint.mono_l : ∀ k, (∀ y0 y1 y2, LeO (windlassref2_Uint.l0 k y0 y1 y2) (windlassref2_Uint.l0 (k + 1) y0 y1 y2)) ∧ (∀ y0 y1 y2 y3 y4, LeO (windlassref2_Uint.j1 k y0 y1 y2 y3 y4) (windlassref2_Uint.j1 (k + 1) y0 y1 y2 y3 y4))
  | 0 => ⟨fun _ _ _ r h => by simp [windlassref2_Uint.l0] at h, fun _ _ _ _ _ r h => by simp [windlassref2_Uint.j1] at h⟩
  | k + 1 => by
    obtain ⟨ih0, ih1⟩ := windlassref2_Uint.mono_l k
    refine ⟨?_, ?_⟩
    · intro y0 y1 y2
      unfold windlassref2_Uint.l0
      repeat' first
      | (with_reducible exact ih0 _ _ _)
      | (with_reducible exact ih1 _ _ _ _ _)
      | (with_reducible exact LeO.refl _)
      | (with_reducible exact LeO.none _)
      | (with_reducible refine LeO.ite ?_ ?_)
      | (with_reducible refine LeO.bind ?_ (fun _ => ?_))
      | exact ih0 _ _ _
      | exact ih1 _ _ _ _ _
      | exact LeO.none _
      | refine LeO.ite ?_ ?_
      | refine LeO.bind ?_ (fun _ => ?_)
    · intro y0 y1 y2 y3 y4
      unfold windlassref2_Uint.j1
      repeat' first
      | (with_reducible exact ih0 _ _ _)
      | (with_reducible exact ih1 _ _ _ _ _)
      | (with_reducible exact LeO.refl _)
      | (with_reducible exact LeO.none _)
      | (with_reducible refine LeO.ite ?_ ?_)
      | (with_reducible refine LeO.bind ?_ (fun _ => ?_))
      | exact ih0 _ _ _
      | exact ih1 _ _ _ _ _
      | exact LeO.none _
      | refine LeO.ite ?_ ?_
      | refine LeO.bind ?_ (fun _ => ?_)
theorem windlassref2_Uint.mono : ∀ a0 k, LeO (windlassref2_Uint.f k a0) (windlassref2_Uint.f (k + 1) a0) := by
  intro a0 k
  obtain ⟨ih0, ih1⟩ := windlassref2_Uint.mono_l k
  unfold windlassref2_Uint.f
  repeat' first
      | (with_reducible exact ih0 _ _ _)
      | (with_reducible exact ih1 _ _ _ _ _)
      | (with_reducible exact LeO.refl _)
      | (with_reducible exact LeO.none _)
      | (with_reducible refine LeO.ite ?_ ?_)
      | (with_reducible refine LeO.bind ?_ (fun _ => ?_))
      | exact ih0 _ _ _
      | exact ih1 _ _ _ _ _
      | exact LeO.none _
      | refine LeO.ite ?_ ?_
      | refine LeO.bind ?_ (fun _ => ?_)
set_option maxHeartbeats 8000000 in
set_option maxRecDepth 100000 in
theorem windlassref2_Uint.calls (k : Nat) (A0 : Option Addr) (c0 : Nat) (l0 : List Int) (r1 : Int) (r2 : Int) (r3 : Int) (w : World) (hr0 : Kd.C (Kd.int .u8) w A0 l0.length l0) (hc0 : l0.length ≤ c0) (h : windlassref2_Uint.f k l0 = some (r1, r2, r3)) :
    Calls Try.prog 27 #[.slice A0 l0.length c0] w fun e w' => e = .returned (.tuple #[.int .u64 r1, .int .i64 r2, .int .i64 r3]) ∧ Drawn0 w w' := by
  have HR0 := Aside0.mk hr0
  have HC0 := Aside0.mk hc0
  clear hr0 hc0
  have H : (windlassref2_Uint.l0 k l0 0 0) = some (r1, r2, r3) := h
  clear h
  have H' := Aside0.mk H
  clear H
  go_enter Try.func27, Try.ntmps27
  go_wp2
  go_loopg [5, 6] k (fun kq v5 v6 w' => ∃ (x5_1 : Int) (x6_1 : Int), v5 = .int .u64 x5_1 ∧ v6 = .int .i64 x6_1 ∧ Aside0 (windlassref2_Uint.l0 kq l0 x5_1 x6_1 = some (r1, r2, r3)) ∧ Aside0 (kq ≤ k) ∧ Drawn0 w w')
  case atStart => exact ⟨(0), (0), (by first | rfl | (simp; done) | (simp [*]; done)), (by first | rfl | (simp; done) | (simp [*]; done)), H', ⟨Nat.le_refl _⟩, by repeat (first | exact Drawn0.refl _ | apply Drawn0.step)⟩
  case round =>
    clear H'
    obtain ⟨x5_1, x6_1, rfl, rfl, HA, HK1, ⟨m1, rfl⟩⟩ := hrel
    cases gk with
    | zero => exact absurd HA.out (by simp [windlassref2_Uint.l0])
    | succ k1 =>
      have H := HA.out
      clear HA
      simp only [windlassref2_Uint.l0] at H
      by_cases c2 : x6_1 < (l0.length : Int)
      · rw [if_pos c2] at H
        have c2b0 : decide (x6_1 < (l0.length : Int)) = true := decide_eq_true c2
        clear c2
        by_cases c3 : 0 ≤ x6_1
        · rw [if_pos c3] at H
          have c3b0 : decide (0 ≤ x6_1) = true := decide_eq_true c3
          clear c3
          have HC4 := Aside0.mk H
          clear H
          have p510 : 0 ≤ (x6_1 : Int) := of_decide_eq_true (by first | (with_reducible assumption) | assumption)
          have q510 : x6_1 < (l0.length : Int) := of_decide_eq_true (by first | (with_reducible assumption) | assumption)
          obtain ⟨ad510, e510, hx510_0⟩ := Kd.at_int HR0.out x6_1 p510 q510
          cases e510
          replace p510 := eq_true p510
          replace q510 := eq_true q510
          go_upto_region 6 with (fail)
          go_cut [40] (fun v40 wc => ∃ (kq : Nat) (x40_3 : Bool), v40 = .bool x40_3 ∧ Aside0 (windlassref2_Uint.j1 kq l0 x5_1 x6_1 (IntKind.u64.wrap (Int.tmod (rd l0 x6_1) 128)) x40_3 = some (r1, r2, r3)) ∧ Aside0 (kq ≤ k1) ∧ Drawn0 w wc)
          case first =>
            have H := HC4.out
            clear HC4
            by_cases c5 : x6_1 = 10
            · rw [if_pos c5] at H
              have c5b0 : (x6_1 == 10) = true := beq_iff_eq.mpr c5
              have c5b1 : (x6_1 != 10) = false := bne_eq_false_iff_eq.mpr c5
              clear c5
              (first | rw [c5b0] | (simp only [i64_w, i32_w]; rw [c5b0]) | skip)
              have H' := Aside0.mk H
              clear H
              go_wp2
              go_meet
              case rel => exact ⟨_, (true), (by first | rfl | (simp; done) | (simp [*]; done)), H', ⟨by have := HK1.out; first | omega | exact Nat.le_refl _⟩, by repeat (first | exact Drawn0.refl _ | apply Drawn0.step)⟩
            · rw [if_neg c5] at H
              have c5b0 : (x6_1 == 10) = false := beq_eq_false_iff_ne.mpr c5
              have c5b1 : (x6_1 != 10) = true := bne_iff_ne.mpr c5
              (first | rw [c5b0] | (simp only [i64_w, i32_w]; rw [c5b0]) | skip)
              by_cases c6 : x6_1 = 9
              · rw [if_pos c6] at H
                have c6b0 : (x6_1 == 9) = true := beq_iff_eq.mpr c6
                have c6b1 : (x6_1 != 9) = false := bne_eq_false_iff_eq.mpr c6
                clear c6
                by_cases c7 : (IntKind.u64.wrap (Int.tmod (rd l0 x6_1) 128)) > 1
                · rw [if_pos c7] at H
                  have c7b0 : decide (1 < (IntKind.u64.wrap (Int.tmod (rd l0 x6_1) 128))) = true := decide_eq_true c7
                  clear c7
                  have H' := Aside0.mk H
                  clear H
                  go_wp2
                  go_meet
                  case rel => exact ⟨_, (true), (by first | rfl | (simp; done) | (simp [*]; done)), H', ⟨by have := HK1.out; first | omega | exact Nat.le_refl _⟩, by repeat (first | exact Drawn0.refl _ | apply Drawn0.step)⟩
                · rw [if_neg c7] at H
                  have c7b0 : decide (1 < (IntKind.u64.wrap (Int.tmod (rd l0 x6_1) 128))) = false := decide_eq_false c7
                  clear c7
                  by_cases c8 : x6_1 > 0
                  · rw [if_pos c8] at H
                    have c8b0 : decide (0 < x6_1) = true := decide_eq_true c8
                    clear c8
                    have H' := Aside0.mk H
                    clear H
                    have p511 : 0 ≤ (x6_1 : Int) := of_decide_eq_true (by first | (with_reducible assumption) | assumption)
                    have q511 : x6_1 < (l0.length : Int) := of_decide_eq_true (by first | (with_reducible assumption) | assumption)
                    obtain ⟨ad511, e511, hx511_0⟩ := Kd.at_int HR0.out x6_1 p511 q511
                    obtain rfl : ad510 = ad511 := (by injection e511)
                    replace p511 := eq_true p511
                    replace q511 := eq_true q511
                    go_wp2
                    go_meet
                    case rel => exact ⟨_, (((rd l0 x6_1) == 0)), (by first | rfl | (simp; done) | (simp [*]; done)), H', ⟨by have := HK1.out; first | omega | exact Nat.le_refl _⟩, by repeat (first | exact Drawn0.refl _ | apply Drawn0.step)⟩
                  · rw [if_neg c8] at H
                    have c8b0 : decide (0 < x6_1) = false := decide_eq_false c8
                    clear c8
                    have H' := Aside0.mk H
                    clear H
                    go_wp2
                    go_meet
                    case rel => exact ⟨_, (false), (by first | rfl | (simp; done) | (simp [*]; done)), H', ⟨by have := HK1.out; first | omega | exact Nat.le_refl _⟩, by repeat (first | exact Drawn0.refl _ | apply Drawn0.step)⟩
              · rw [if_neg c6] at H
                have c6b0 : (x6_1 == 9) = false := beq_eq_false_iff_ne.mpr c6
                have c6b1 : (x6_1 != 9) = true := bne_iff_ne.mpr c6
                by_cases c9 : x6_1 > 0
                · rw [if_pos c9] at H
                  have c9b0 : decide (0 < x6_1) = true := decide_eq_true c9
                  clear c9
                  have H' := Aside0.mk H
                  clear H
                  have p512 : 0 ≤ (x6_1 : Int) := of_decide_eq_true (by first | (with_reducible assumption) | assumption)
                  have q512 : x6_1 < (l0.length : Int) := of_decide_eq_true (by first | (with_reducible assumption) | assumption)
                  obtain ⟨ad512, e512, hx512_0⟩ := Kd.at_int HR0.out x6_1 p512 q512
                  obtain rfl : ad510 = ad512 := (by injection e512)
                  replace p512 := eq_true p512
                  replace q512 := eq_true q512
                  go_wp2
                  go_meet
                  case rel => exact ⟨_, (((rd l0 x6_1) == 0)), (by first | rfl | (simp; done) | (simp [*]; done)), H', ⟨by have := HK1.out; first | omega | exact Nat.le_refl _⟩, by repeat (first | exact Drawn0.refl _ | apply Drawn0.step)⟩
                · rw [if_neg c9] at H
                  have c9b0 : decide (0 < x6_1) = false := decide_eq_false c9
                  clear c9
                  have H' := Aside0.mk H
                  clear H
                  go_wp2
                  go_meet
                  case rel => exact ⟨_, (false), (by first | rfl | (simp; done) | (simp [*]; done)), H', ⟨by have := HK1.out; first | omega | exact Nat.le_refl _⟩, by repeat (first | exact Drawn0.refl _ | apply Drawn0.step)⟩
          case rest =>
            clear HC4
            try clear c2
            try clear c2b0
            try clear p2
            try clear c3
            try clear c3b0
            try clear c5
            try clear c5b0
            try clear c5b1
            try clear p5
            try clear q5
            try clear hx5
            try clear c6
            try clear c6b0
            try clear c6b1
            try clear c7
            try clear c7b0
            try clear c8
            try clear c8b0
            try clear c9
            try clear c9b0
            try clear hx510_0
            try clear hx511_0
            try clear hx512_0
            try clear p510
            try clear p511
            try clear p512
            try clear q510
            try clear q511
            try clear q512
            obtain ⟨kq, x40_3, rfl, HA, HJ3, ⟨mc3, rfl⟩⟩ := hcut
            cases kq with
            | zero => exact absurd HA.out (by simp [windlassref2_Uint.j1])
            | succ kj3 =>
              have H := HA.out
              clear HA
              simp only [windlassref2_Uint.j1] at H
              by_cases c10 : x40_3 = true
              · subst c10
                have H1 : (some (0, 0, 20)) = some (r1, r2, r3) := by rw [if_pos rfl] at H; exact H
                clear H
                have H := H1
                clear H1
                simp only [Option.some.injEq, Prod.mk.injEq] at H
                obtain ⟨rfl, rfl, rfl⟩ := H
                go_wp2
                go_ret3
                exact ⟨by first | rfl | (simp; done) | (simp [*]; done), by repeat (first | exact Drawn0.refl _ | apply Drawn0.step)⟩
              · replace c10 := Bool.eq_false_iff.mpr c10
                subst c10
                have H1 : (if 0 ≤ (wrap64 (7 * x6_1)) then (if 0 ≤ x6_1 then (if x6_1 < (l0.length : Int) then (if (rd l0 x6_1) < 128 then (some (Go.bits .or .u64 x5_1 (shl .u64 (IntKind.u64.wrap (Int.tmod (rd l0 x6_1) 128)) (wrap64 (7 * x6_1))), wrap64 (x6_1 + 1), 0)) else (windlassref2_Uint.l0 kj3 l0 (Go.bits .or .u64 x5_1 (shl .u64 (IntKind.u64.wrap (Int.tmod (rd l0 x6_1) 128)) (wrap64 (7 * x6_1)))) (wrap64 (x6_1 + 1)))) else (none)) else (none)) else (none)) = some (r1, r2, r3) := by rw [if_neg (show ¬ (false = true) by decide)] at H; exact H
                clear H
                have H := H1
                clear H1
                obtain ⟨ji11, hji11⟩ : ∃ j_ : Int, (wrap64 (7 * x6_1)) = j_ := ⟨_, rfl⟩
                replace H : (if 0 ≤ (ji11) then (if 0 ≤ x6_1 then (if x6_1 < (l0.length : Int) then (if (rd l0 x6_1) < 128 then (some (Go.bits .or .u64 x5_1 (shl .u64 (IntKind.u64.wrap (Int.tmod (rd l0 x6_1) 128)) (ji11)), wrap64 (x6_1 + 1), 0)) else (windlassref2_Uint.l0 kj3 l0 (Go.bits .or .u64 x5_1 (shl .u64 (IntKind.u64.wrap (Int.tmod (rd l0 x6_1) 128)) (ji11))) (wrap64 (x6_1 + 1)))) else (none)) else (none)) else (none)) = some (r1, r2, r3) := by first | (rw [hji11] at H; exact H) | (simp only [hji11] at H ⊢; exact H)
                have hji11w : (IntKind.i64.wrap (7 * x6_1)) = ji11 := (i64_w _).trans hji11
                by_cases c12 : 0 ≤ (ji11)
                · rw [if_pos c12] at H
                  have c12b0 := eq_true c12
                  have c12b1 : decide (0 ≤ (ji11)) = true := decide_eq_true c12
                  clear c12
                  obtain ⟨ji13, hji13⟩ : ∃ j_ : Int, (shl .u64 (IntKind.u64.wrap (Int.tmod (rd l0 x6_1) 128)) (ji11)) = j_ := ⟨_, rfl⟩
                  replace H : (if 0 ≤ x6_1 then (if x6_1 < (l0.length : Int) then (if (rd l0 x6_1) < 128 then (some (Go.bits .or .u64 x5_1 (ji13), wrap64 (x6_1 + 1), 0)) else (windlassref2_Uint.l0 kj3 l0 (Go.bits .or .u64 x5_1 (ji13)) (wrap64 (x6_1 + 1)))) else (none)) else (none)) = some (r1, r2, r3) := by first | (rw [hji13] at H; exact H) | (simp only [hji13] at H ⊢; exact H)
                  have hji13_ : (IntKind.u64.wrap ((IntKind.u64.wrap (Int.tmod (rd l0 x6_1) 128)) * 2 ^ min (ji11).toNat 64)) = ji13 := hji13
                  have hji13z : (ji11) ≤ 64 → (IntKind.u64.wrap ((IntKind.u64.wrap (Int.tmod (rd l0 x6_1) 128)) * 2 ^ (ji11).toNat)) = ji13 := shl_small hji13
                  by_cases c14 : 0 ≤ x6_1
                  · rw [if_pos c14] at H
                    have c14b0 : decide (0 ≤ x6_1) = true := decide_eq_true c14
                    clear c14
                    by_cases c15 : x6_1 < (l0.length : Int)
                    · rw [if_pos c15] at H
                      have c15b0 : decide (x6_1 < (l0.length : Int)) = true := decide_eq_true c15
                      clear c15
                      by_cases c16 : (rd l0 x6_1) < 128
                      · rw [if_pos c16] at H
                        have c16b0 : decide ((rd l0 x6_1) < 128) = true := decide_eq_true c16
                        clear c16
                        simp only [Option.some.injEq, Prod.mk.injEq] at H
                        obtain ⟨rfl, rfl, rfl⟩ := H
                        have p513 : 0 ≤ (x6_1 : Int) := of_decide_eq_true (by first | (with_reducible assumption) | assumption)
                        have q513 : x6_1 < (l0.length : Int) := of_decide_eq_true (by first | (with_reducible assumption) | assumption)
                        obtain ⟨ad513, e513, hx513_0⟩ := Kd.at_int HR0.out x6_1 p513 q513
                        obtain rfl : ad510 = ad513 := (by injection e513)
                        replace p513 := eq_true p513
                        replace q513 := eq_true q513
                        go_wp2
                        go_ret3
                        exact ⟨by first | rfl | (simp; done) | (simp only [← hji11, ← hji13] <;> (first | rfl | simp)) | (simp [*]; done), by repeat (first | exact Drawn0.refl _ | apply Drawn0.step)⟩
                      · rw [if_neg c16] at H
                        have c16b0 : decide ((rd l0 x6_1) < 128) = false := decide_eq_false c16
                        clear c16
                        have H' := Aside0.mk H
                        clear H
                        have p513 : 0 ≤ (x6_1 : Int) := of_decide_eq_true (by first | (with_reducible assumption) | assumption)
                        have q513 : x6_1 < (l0.length : Int) := of_decide_eq_true (by first | (with_reducible assumption) | assumption)
                        obtain ⟨ad513, e513, hx513_0⟩ := Kd.at_int HR0.out x6_1 p513 q513
                        obtain rfl : ad510 = ad513 := (by injection e513)
                        replace p513 := eq_true p513
                        replace q513 := eq_true q513
                        go_wp2
                        go_roundg kj3
                        case measure => have := HK1.out; have := HJ3.out; omega
                        case rel => exact ⟨(Go.bits .or .u64 x5_1 (ji13)), (wrap64 (x6_1 + 1)), (by first | rfl | (simp; done) | (simp only [← hji13] <;> (first | rfl | simp)) | (simp [*]; done)), (by first | rfl | (simp; done) | (simp [*]; done)), H', ⟨by have := HK1.out; have := HJ3.out; omega⟩, by repeat (first | exact Drawn0.refl _ | apply Drawn0.step)⟩
                    · rw [if_neg c15] at H
                      exact absurd H (by simp)
                  · rw [if_neg c14] at H
                    exact absurd H (by simp)
                · rw [if_neg c12] at H
                  exact absurd H (by simp)
        · rw [if_neg c3] at H
          exact absurd H (by simp)
      · rw [if_neg c2] at H
        have c2b0 : decide (x6_1 < (l0.length : Int)) = false := decide_eq_false c2
        clear c2
        simp only [Option.some.injEq, Prod.mk.injEq] at H
        obtain ⟨rfl, rfl, rfl⟩ := H
        go_wp2
        go_ret3
        exact ⟨by first | rfl | (simp; done) | (simp [*]; done), by repeat (first | exact Drawn0.refl _ | apply Drawn0.step)⟩

end Go.Proofs.Ythbnblmnamckmaa.PAll
-- Laid by a program of this seat (wip/xprint.py over the kit's print).
namespace Go.Proofs.Ythbnblmnamckmaa.PAll
open Go.RowKit Go.Proofs.YthbnblmnamckmaaW.PrintWords Go.Proofs.YthbnblmnamckmaaW.PrintLast Go.Proofs.YthbnblmnamckmaaW.PrintMore
attribute [local go_sem] max2_int min2_int max_two min_two max_three min_three max_four min_four   -- for this text's walks alone
set_option linter.unusedVariables false
set_option linter.unusedSimpArgs false

/-! ### windlassref2_Int: function 28 -/
def windlassref2_Int.f (k : Nat) (l0 : List Int) : Option (Int × Int × Int) := (windlassref2_Uint.f k l0).bind fun bt514 => (if bt514.2.2 = 0 then (if (Int.tmod bt514.1 2) = 1 then (some (wrap64 ((wrap64 (-(wrap64 (IntKind.u64.wrap (Int.tdiv bt514.1 2))))) - 1), bt514.2.1, 0)) else (some (wrap64 (IntKind.u64.wrap (Int.tdiv bt514.1 2)), bt514.2.1, 0))) else (some (0, 0, bt514.2.2)))
theorem windlassref2_Int.mono : ∀ a0 k, LeO (windlassref2_Int.f k a0) (windlassref2_Int.f (k + 1) a0) := by
  intro a0 k
  unfold windlassref2_Int.f
  repeat' first
      | (with_reducible exact windlassref2_Uint.mono _ _)
      | (with_reducible exact LeO.refl _)
      | (with_reducible exact LeO.none _)
      | (with_reducible refine LeO.ite ?_ ?_)
      | (with_reducible refine LeO.bind ?_ (fun _ => ?_))
      | exact windlassref2_Uint.mono _ _
      | exact LeO.none _
      | refine LeO.ite ?_ ?_
      | refine LeO.bind ?_ (fun _ => ?_)
set_option maxHeartbeats 8000000 in
set_option maxRecDepth 100000 in
theorem windlassref2_Int.calls (k : Nat) (A0 : Option Addr) (c0 : Nat) (l0 : List Int) (r1 : Int) (r2 : Int) (r3 : Int) (w : World) (hr0 : Kd.C (Kd.int .u8) w A0 l0.length l0) (hc0 : l0.length ≤ c0) (h : windlassref2_Int.f k l0 = some (r1, r2, r3)) :
    Calls Try.prog 28 #[.slice A0 l0.length c0] w fun e w' => e = .returned (.tuple #[.int .i64 r1, .int .i64 r2, .int .i64 r3]) ∧ Drawn0 w w' := by
  have HR0 := Aside0.mk hr0
  have HC0 := Aside0.mk hc0
  clear hr0 hc0
  have H : ((windlassref2_Uint.f k l0).bind fun bt514 => (if bt514.2.2 = 0 then (if (Int.tmod bt514.1 2) = 1 then (some (wrap64 ((wrap64 (-(wrap64 (IntKind.u64.wrap (Int.tdiv bt514.1 2))))) - 1), bt514.2.1, 0)) else (some (wrap64 (IntKind.u64.wrap (Int.tdiv bt514.1 2)), bt514.2.1, 0))) else (some (0, 0, bt514.2.2)))) = some (r1, r2, r3) := h
  clear h
  replace H := Option.bind_eq_some_iff.mp H
  obtain ⟨⟨t514, t515, t516⟩, A20, H⟩ := H
  replace H : (if t516 = 0 then (if (Int.tmod t514 2) = 1 then (some (wrap64 ((wrap64 (-(wrap64 (IntKind.u64.wrap (Int.tdiv t514 2))))) - 1), t515, 0)) else (some (wrap64 (IntKind.u64.wrap (Int.tdiv t514 2)), t515, 0))) else (some (0, 0, t516))) = some (r1, r2, r3) := H
  have A2 := Aside0.mk A20
  clear A20
  by_cases c3 : t516 = 0
  · rw [if_pos c3] at H
    have c3b0 : (t516 == 0) = true := beq_iff_eq.mpr c3
    have c3b1 : (t516 != 0) = false := bne_eq_false_iff_eq.mpr c3
    clear c3
    by_cases c4 : (Int.tmod t514 2) = 1
    · rw [if_pos c4] at H
      have c4b0 : ((Int.tmod t514 2) == 1) = true := beq_iff_eq.mpr c4
      have c4b1 : ((Int.tmod t514 2) != 1) = false := bne_eq_false_iff_eq.mpr c4
      clear c4
      simp only [Option.some.injEq, Prod.mk.injEq] at H
      obtain ⟨rfl, rfl, rfl⟩ := H
      go_enter Try.func28, Try.ntmps28
      go_wp2_with (first | ((with_reducible refine gate_callee (f := 27) rfl ?_); refine goesL_ (some 10) rfl rfl Try.func27 (by kernel_rfl) rfl #[.slice A0 l0.length c0] rfl (by (try simp only [List.map_toArray, List.map_cons, List.map_nil]); first | done | rfl | (simp only [List.length_drop, List.length_take]; rfl) | (go_simp; done) | (go_simp; simp; done)) ?_; (with_reducible refine (windlassref2_Uint.calls k _ _ l0 t514 t515 t516 _ ?side1 ?side2 A2.out).mono ?_); (case side1 => repeat (first | exact HR0.out | (with_reducible refine Kd.C_alloc ?_ _) | (with_reducible refine Kd.C_drewN ?_ _) | (with_reducible refine Kd.C_drew ?_))); (case side2 => exact HC0.out); rintro e w' ⟨rfl, ⟨nd, rfl⟩⟩; refine ⟨_, rfl, ?_⟩))
      go_ret3
      exact ⟨by first | rfl | (simp; done) | (simp [*]; done), by repeat (first | exact Drawn0.refl _ | apply Drawn0.step)⟩
    · rw [if_neg c4] at H
      have c4b0 : ((Int.tmod t514 2) == 1) = false := beq_eq_false_iff_ne.mpr c4
      have c4b1 : ((Int.tmod t514 2) != 1) = true := bne_iff_ne.mpr c4
      simp only [Option.some.injEq, Prod.mk.injEq] at H
      obtain ⟨rfl, rfl, rfl⟩ := H
      go_enter Try.func28, Try.ntmps28
      go_wp2_with (first | ((with_reducible refine gate_callee (f := 27) rfl ?_); refine goesL_ (some 10) rfl rfl Try.func27 (by kernel_rfl) rfl #[.slice A0 l0.length c0] rfl (by (try simp only [List.map_toArray, List.map_cons, List.map_nil]); first | done | rfl | (simp only [List.length_drop, List.length_take]; rfl) | (go_simp; done) | (go_simp; simp; done)) ?_; (with_reducible refine (windlassref2_Uint.calls k _ _ l0 t514 t515 t516 _ ?side1 ?side2 A2.out).mono ?_); (case side1 => repeat (first | exact HR0.out | (with_reducible refine Kd.C_alloc ?_ _) | (with_reducible refine Kd.C_drewN ?_ _) | (with_reducible refine Kd.C_drew ?_))); (case side2 => exact HC0.out); rintro e w' ⟨rfl, ⟨nd, rfl⟩⟩; refine ⟨_, rfl, ?_⟩))
      go_ret3
      exact ⟨by first | rfl | (simp; done) | (simp [*]; done), by repeat (first | exact Drawn0.refl _ | apply Drawn0.step)⟩
  · rw [if_neg c3] at H
    have c3b0 : (t516 == 0) = false := beq_eq_false_iff_ne.mpr c3
    have c3b1 : (t516 != 0) = true := bne_iff_ne.mpr c3
    simp only [Option.some.injEq, Prod.mk.injEq] at H
    obtain ⟨rfl, rfl, rfl⟩ := H
    go_enter Try.func28, Try.ntmps28
    go_wp2_with (first | ((with_reducible refine gate_callee (f := 27) rfl ?_); refine goesL_ (some 10) rfl rfl Try.func27 (by kernel_rfl) rfl #[.slice A0 l0.length c0] rfl (by (try simp only [List.map_toArray, List.map_cons, List.map_nil]); first | done | rfl | (simp only [List.length_drop, List.length_take]; rfl) | (go_simp; done) | (go_simp; simp; done)) ?_; (with_reducible refine (windlassref2_Uint.calls k _ _ l0 t514 t515 t516 _ ?side1 ?side2 A2.out).mono ?_); (case side1 => repeat (first | exact HR0.out | (with_reducible refine Kd.C_alloc ?_ _) | (with_reducible refine Kd.C_drewN ?_ _) | (with_reducible refine Kd.C_drew ?_))); (case side2 => exact HC0.out); rintro e w' ⟨rfl, ⟨nd, rfl⟩⟩; refine ⟨_, rfl, ?_⟩))
    go_ret3
    exact ⟨by first | rfl | (simp; done) | (simp [*]; done), by repeat (first | exact Drawn0.refl _ | apply Drawn0.step)⟩

end Go.Proofs.Ythbnblmnamckmaa.PAll
-- Laid by a program of this seat (wip/xprint.py over the kit's print).
namespace Go.Proofs.Ythbnblmnamckmaa.PAll
open Go.RowKit Go.Proofs.YthbnblmnamckmaaW.PrintWords Go.Proofs.YthbnblmnamckmaaW.PrintLast Go.Proofs.YthbnblmnamckmaaW.PrintMore
attribute [local go_sem] max2_int min2_int max_two min_two max_three min_three max_four min_four   -- for this text's walks alone
set_option linter.unusedVariables false
set_option linter.unusedSimpArgs false

/-! ### windlassref2_text: function 40 -/
def windlassref2_text.f (k : Nat) (l0 : List Int) (a1 : Int) : Option (ByteArray × Int × Int) := (windlassref2_Uint.f k l0).bind fun bt517 => (if bt517.2.2 = 0 then (if bt517.1 > a1 then (some ((⟨#[]⟩ : ByteArray), 0, 21)) else (if bt517.1 > (IntKind.u64.wrap (wrap64 ((l0.length : Int) - bt517.2.1))) then (some ((⟨#[]⟩ : ByteArray), 0, 20)) else (if 0 ≤ bt517.2.1 then (if bt517.2.1 ≤ (wrap64 (bt517.2.1 + (wrap64 (bt517.1)))) then (if (wrap64 (bt517.2.1 + (wrap64 (bt517.1)))) ≤ (l0.length : Int) then (some (strOfNums ((l0.take ((wrap64 (bt517.2.1 + (wrap64 (bt517.1)))) : Int).toNat).drop (bt517.2.1 : Int).toNat), wrap64 (bt517.2.1 + (wrap64 (bt517.1))), 0)) else (none)) else (none)) else (none)))) else (some ((⟨#[]⟩ : ByteArray), 0, bt517.2.2)))
theorem windlassref2_text.mono : ∀ a0 a1 k, LeO (windlassref2_text.f k a0 a1) (windlassref2_text.f (k + 1) a0 a1) := by
  intro a0 a1 k
  unfold windlassref2_text.f
  repeat' first
      | (with_reducible exact windlassref2_Uint.mono _ _)
      | (with_reducible exact LeO.refl _)
      | (with_reducible exact LeO.none _)
      | (with_reducible refine LeO.ite ?_ ?_)
      | (with_reducible refine LeO.bind ?_ (fun _ => ?_))
      | exact windlassref2_Uint.mono _ _
      | exact LeO.none _
      | refine LeO.ite ?_ ?_
      | refine LeO.bind ?_ (fun _ => ?_)
set_option maxHeartbeats 8000000 in
set_option maxRecDepth 100000 in
theorem windlassref2_text.calls (k : Nat) (A0 : Option Addr) (c0 : Nat) (l0 : List Int) (a1 : Int) (r1 : ByteArray) (r2 : Int) (r3 : Int) (w : World) (hr0 : Kd.C (Kd.int .u8) w A0 l0.length l0) (hc0 : l0.length ≤ c0) (h : windlassref2_text.f k l0 a1 = some (r1, r2, r3)) :
    Calls Try.prog 40 #[.slice A0 l0.length c0, .int .u64 a1] w fun e w' => e = .returned (.tuple #[.string r1, .int .i64 r2, .int .i64 r3]) ∧ Drawn0 w w' := by
  have HR0 := Aside0.mk hr0
  have HC0 := Aside0.mk hc0
  clear hr0 hc0
  have H : ((windlassref2_Uint.f k l0).bind fun bt517 => (if bt517.2.2 = 0 then (if bt517.1 > a1 then (some ((⟨#[]⟩ : ByteArray), 0, 21)) else (if bt517.1 > (IntKind.u64.wrap (wrap64 ((l0.length : Int) - bt517.2.1))) then (some ((⟨#[]⟩ : ByteArray), 0, 20)) else (if 0 ≤ bt517.2.1 then (if bt517.2.1 ≤ (wrap64 (bt517.2.1 + (wrap64 (bt517.1)))) then (if (wrap64 (bt517.2.1 + (wrap64 (bt517.1)))) ≤ (l0.length : Int) then (some (strOfNums ((l0.take ((wrap64 (bt517.2.1 + (wrap64 (bt517.1)))) : Int).toNat).drop (bt517.2.1 : Int).toNat), wrap64 (bt517.2.1 + (wrap64 (bt517.1))), 0)) else (none)) else (none)) else (none)))) else (some ((⟨#[]⟩ : ByteArray), 0, bt517.2.2)))) = some (r1, r2, r3) := h
  clear h
  replace H := Option.bind_eq_some_iff.mp H
  obtain ⟨⟨t517, t518, t519⟩, A30, H⟩ := H
  replace H : (if t519 = 0 then (if t517 > a1 then (some ((⟨#[]⟩ : ByteArray), 0, 21)) else (if t517 > (IntKind.u64.wrap (wrap64 ((l0.length : Int) - t518))) then (some ((⟨#[]⟩ : ByteArray), 0, 20)) else (if 0 ≤ t518 then (if t518 ≤ (wrap64 (t518 + (wrap64 (t517)))) then (if (wrap64 (t518 + (wrap64 (t517)))) ≤ (l0.length : Int) then (some (strOfNums ((l0.take ((wrap64 (t518 + (wrap64 (t517)))) : Int).toNat).drop (t518 : Int).toNat), wrap64 (t518 + (wrap64 (t517))), 0)) else (none)) else (none)) else (none)))) else (some ((⟨#[]⟩ : ByteArray), 0, t519))) = some (r1, r2, r3) := H
  have A3 := Aside0.mk A30
  clear A30
  by_cases c4 : t519 = 0
  · rw [if_pos c4] at H
    have c4b0 : (t519 == 0) = true := beq_iff_eq.mpr c4
    have c4b1 : (t519 != 0) = false := bne_eq_false_iff_eq.mpr c4
    clear c4
    by_cases c5 : t517 > a1
    · rw [if_pos c5] at H
      have c5b0 : decide (a1 < t517) = true := decide_eq_true c5
      clear c5
      simp only [Option.some.injEq, Prod.mk.injEq] at H
      obtain ⟨rfl, rfl, rfl⟩ := H
      go_enter Try.func40, Try.ntmps40
      go_wp2_with (first | ((with_reducible refine gate_callee (f := 27) rfl ?_); refine goesL_ (some 12) rfl rfl Try.func27 (by kernel_rfl) rfl #[.slice A0 l0.length c0] rfl (by (try simp only [List.map_toArray, List.map_cons, List.map_nil]); first | done | rfl | (simp only [List.length_drop, List.length_take]; rfl) | (go_simp; done) | (go_simp; simp; done)) ?_; (with_reducible refine (windlassref2_Uint.calls k _ _ l0 t517 t518 t519 _ ?side1 ?side2 A3.out).mono ?_); (case side1 => repeat (first | exact HR0.out | (with_reducible refine Kd.C_alloc ?_ _) | (with_reducible refine Kd.C_drewN ?_ _) | (with_reducible refine Kd.C_drew ?_))); (case side2 => exact HC0.out); rintro e w' ⟨rfl, ⟨nd, rfl⟩⟩; refine ⟨_, rfl, ?_⟩))
      go_ret3
      exact ⟨by first | rfl | (simp; done) | (simp [*]; done), by repeat (first | exact Drawn0.refl _ | apply Drawn0.step)⟩
    · rw [if_neg c5] at H
      have c5b0 : decide (a1 < t517) = false := decide_eq_false c5
      clear c5
      by_cases c6 : t517 > (IntKind.u64.wrap (wrap64 ((l0.length : Int) - t518)))
      · rw [if_pos c6] at H
        have c6b0 : decide ((IntKind.u64.wrap (wrap64 ((l0.length : Int) - t518))) < t517) = true := decide_eq_true c6
        clear c6
        simp only [Option.some.injEq, Prod.mk.injEq] at H
        obtain ⟨rfl, rfl, rfl⟩ := H
        go_enter Try.func40, Try.ntmps40
        go_wp2_with (first | ((with_reducible refine gate_callee (f := 27) rfl ?_); refine goesL_ (some 12) rfl rfl Try.func27 (by kernel_rfl) rfl #[.slice A0 l0.length c0] rfl (by (try simp only [List.map_toArray, List.map_cons, List.map_nil]); first | done | rfl | (simp only [List.length_drop, List.length_take]; rfl) | (go_simp; done) | (go_simp; simp; done)) ?_; (with_reducible refine (windlassref2_Uint.calls k _ _ l0 t517 t518 t519 _ ?side1 ?side2 A3.out).mono ?_); (case side1 => repeat (first | exact HR0.out | (with_reducible refine Kd.C_alloc ?_ _) | (with_reducible refine Kd.C_drewN ?_ _) | (with_reducible refine Kd.C_drew ?_))); (case side2 => exact HC0.out); rintro e w' ⟨rfl, ⟨nd, rfl⟩⟩; refine ⟨_, rfl, ?_⟩))
        go_ret3
        exact ⟨by first | rfl | (simp; done) | (simp [*]; done), by repeat (first | exact Drawn0.refl _ | apply Drawn0.step)⟩
      · rw [if_neg c6] at H
        have c6b0 : decide ((IntKind.u64.wrap (wrap64 ((l0.length : Int) - t518))) < t517) = false := decide_eq_false c6
        clear c6
        by_cases c7 : 0 ≤ t518
        · rw [if_pos c7] at H
          have c7b0 := eq_true c7
          have c7b1 : decide (0 ≤ t518) = true := decide_eq_true c7
          clear c7
          by_cases c8 : t518 ≤ (wrap64 (t518 + (wrap64 (t517))))
          · rw [if_pos c8] at H
            have c8b0 := eq_true c8
            have c8b1 : decide (t518 ≤ (wrap64 (t518 + (wrap64 (t517))))) = true := decide_eq_true c8
            by_cases c9 : (wrap64 (t518 + (wrap64 (t517)))) ≤ (l0.length : Int)
            · rw [if_pos c9] at H
              have c9b0 := eq_true c9
              have c9b1 : decide ((wrap64 (t518 + (wrap64 (t517)))) ≤ (l0.length : Int)) = true := decide_eq_true c9
              simp only [Option.some.injEq, Prod.mk.injEq] at H
              obtain ⟨rfl, rfl, rfl⟩ := H
              go_enter Try.func40, Try.ntmps40
              go_wp2_with (first | ((with_reducible refine gate_callee (f := 27) rfl ?_); refine goesL_ (some 12) rfl rfl Try.func27 (by kernel_rfl) rfl #[.slice A0 l0.length c0] rfl (by (try simp only [List.map_toArray, List.map_cons, List.map_nil]); first | done | rfl | (simp only [List.length_drop, List.length_take]; rfl) | (go_simp; done) | (go_simp; simp; done)) ?_; (with_reducible refine (windlassref2_Uint.calls k _ _ l0 t517 t518 t519 _ ?side1 ?side2 A3.out).mono ?_); (case side1 => repeat (first | exact HR0.out | (with_reducible refine Kd.C_alloc ?_ _) | (with_reducible refine Kd.C_drewN ?_ _) | (with_reducible refine Kd.C_drew ?_))); (case side2 => exact HC0.out); rintro e w' ⟨rfl, ⟨nd, rfl⟩⟩; refine ⟨_, rfl, ?_⟩; obtain ⟨i010, hi010, _, hsz10, _⟩ := info_parts info5; obtain ⟨A10, hcut10, hA10, hC10⟩ := print_mid_of (P := Try.prog) (Value.int .u8) 0 30 5 .i64 .i64 Try.underlying30 hi010 hsz10 A0 c0 l0 t518 (wrap64 (t518 + (wrap64 (t517)))) (of_decide_eq_true (by first | (with_reducible assumption) | assumption)) (by first | omega | exact of_decide_eq_true (by first | (with_reducible assumption) | assumption)) (of_decide_eq_true (by first | (with_reducible assumption) | assumption)) HC0.out; have HR520 := Aside0.mk (Kd.C_of_reads (h1 := fun _ => rfl) (hA10 _ (Kd.reads_of_C HR0.out))); have HC520 := Aside0.mk hC10; clear hA10 hC10 hi010 hsz10; have hcv13 := Kd.C_string (P := Try.prog) (A := A10) (c := (c0 - t518.toNat)) Try.underlying30 Try.underlying5 Try.underlying9  HR520.out; have hcv11 := fun nd_ : Nat => Kd.C_string (P := Try.prog) (A := A10) (c := (c0 - t518.toNat)) Try.underlying30 Try.underlying5 Try.underlying9  (Kd.C_drewN (HR520.out) nd_); have hcv12 := hcv11; (try (simp only [List.length_drop, List.length_take] at hcv12)); (try rw [Nat.min_eq_left (by omega)] at hcv12)))
              go_ret3
              exact ⟨by first | rfl | (simp; done) | (simp [*]; done), by repeat (first | exact Drawn0.refl _ | apply Drawn0.step)⟩
            · rw [if_neg c9] at H
              exact absurd H (by simp)
          · rw [if_neg c8] at H
            exact absurd H (by simp)
        · rw [if_neg c7] at H
          exact absurd H (by simp)
  · rw [if_neg c4] at H
    have c4b0 : (t519 == 0) = false := beq_eq_false_iff_ne.mpr c4
    have c4b1 : (t519 != 0) = true := bne_iff_ne.mpr c4
    simp only [Option.some.injEq, Prod.mk.injEq] at H
    obtain ⟨rfl, rfl, rfl⟩ := H
    go_enter Try.func40, Try.ntmps40
    go_wp2_with (first | ((with_reducible refine gate_callee (f := 27) rfl ?_); refine goesL_ (some 12) rfl rfl Try.func27 (by kernel_rfl) rfl #[.slice A0 l0.length c0] rfl (by (try simp only [List.map_toArray, List.map_cons, List.map_nil]); first | done | rfl | (simp only [List.length_drop, List.length_take]; rfl) | (go_simp; done) | (go_simp; simp; done)) ?_; (with_reducible refine (windlassref2_Uint.calls k _ _ l0 t517 t518 t519 _ ?side1 ?side2 A3.out).mono ?_); (case side1 => repeat (first | exact HR0.out | (with_reducible refine Kd.C_alloc ?_ _) | (with_reducible refine Kd.C_drewN ?_ _) | (with_reducible refine Kd.C_drew ?_))); (case side2 => exact HC0.out); rintro e w' ⟨rfl, ⟨nd, rfl⟩⟩; refine ⟨_, rfl, ?_⟩))
    go_ret3
    exact ⟨by first | rfl | (simp; done) | (simp [*]; done), by repeat (first | exact Drawn0.refl _ | apply Drawn0.step)⟩

end Go.Proofs.Ythbnblmnamckmaa.PAll
-- Laid by a program of this seat (wip/xprint.py over the kit's print).
namespace Go.Proofs.Ythbnblmnamckmaa.PAll
open Go.RowKit Go.Proofs.YthbnblmnamckmaaW.PrintWords Go.Proofs.YthbnblmnamckmaaW.PrintLast Go.Proofs.YthbnblmnamckmaaW.PrintMore
attribute [local go_sem] max2_int min2_int max_two min_two max_three min_three max_four min_four   -- for this text's walks alone
set_option linter.unusedVariables false
set_option linter.unusedSimpArgs false

/-! ### windlassref2_Text: function 29 -/
def windlassref2_Text.f (k : Nat) (l0 : List Int) : Option (ByteArray × Int × Int) := (windlassref2_text.f k l0 64).bind fun bt521 => (some (bt521.1, bt521.2.1, bt521.2.2))
theorem windlassref2_Text.mono : ∀ a0 k, LeO (windlassref2_Text.f k a0) (windlassref2_Text.f (k + 1) a0) := by
  intro a0 k
  unfold windlassref2_Text.f
  repeat' first
      | (with_reducible exact windlassref2_text.mono _ _ _)
      | (with_reducible exact LeO.refl _)
      | (with_reducible exact LeO.none _)
      | (with_reducible refine LeO.ite ?_ ?_)
      | (with_reducible refine LeO.bind ?_ (fun _ => ?_))
      | exact windlassref2_text.mono _ _ _
      | exact LeO.none _
      | refine LeO.ite ?_ ?_
      | refine LeO.bind ?_ (fun _ => ?_)
set_option maxHeartbeats 8000000 in
set_option maxRecDepth 100000 in
theorem windlassref2_Text.calls (k : Nat) (A0 : Option Addr) (c0 : Nat) (l0 : List Int) (r1 : ByteArray) (r2 : Int) (r3 : Int) (w : World) (hr0 : Kd.C (Kd.int .u8) w A0 l0.length l0) (hc0 : l0.length ≤ c0) (h : windlassref2_Text.f k l0 = some (r1, r2, r3)) :
    Calls Try.prog 29 #[.slice A0 l0.length c0] w fun e w' => e = .returned (.tuple #[.string r1, .int .i64 r2, .int .i64 r3]) ∧ Drawn0 w w' := by
  have HR0 := Aside0.mk hr0
  have HC0 := Aside0.mk hc0
  clear hr0 hc0
  have H : ((windlassref2_text.f k l0 64).bind fun bt521 => (some (bt521.1, bt521.2.1, bt521.2.2))) = some (r1, r2, r3) := h
  clear h
  replace H := Option.bind_eq_some_iff.mp H
  obtain ⟨⟨t521, t522, t523⟩, A20, H⟩ := H
  replace H : (some (t521, t522, t523)) = some (r1, r2, r3) := H
  have A2 := Aside0.mk A20
  clear A20
  simp only [Option.some.injEq, Prod.mk.injEq] at H
  obtain ⟨rfl, rfl, rfl⟩ := H
  go_enter Try.func29, Try.ntmps29
  go_wp2_with (first | ((with_reducible refine gate_callee (f := 40) rfl ?_); refine goesL_ (some 6) rfl rfl Try.func40 (by kernel_rfl) rfl #[.slice A0 l0.length c0, .int .u64 64] rfl (by (try simp only [List.map_toArray, List.map_cons, List.map_nil]); first | done | rfl | (simp only [List.length_drop, List.length_take]; rfl) | (go_simp; done) | (go_simp; simp; done)) ?_; (with_reducible refine (windlassref2_text.calls k _ _ l0 64 t521 t522 t523 _ ?side1 ?side2 A2.out).mono ?_); (case side1 => repeat (first | exact HR0.out | (with_reducible refine Kd.C_alloc ?_ _) | (with_reducible refine Kd.C_drewN ?_ _) | (with_reducible refine Kd.C_drew ?_))); (case side2 => exact HC0.out); rintro e w' ⟨rfl, ⟨nd, rfl⟩⟩; refine ⟨_, rfl, ?_⟩))
  go_ret3
  exact ⟨by first | rfl | (simp; done) | (simp [*]; done), by repeat (first | exact Drawn0.refl _ | apply Drawn0.step)⟩

end Go.Proofs.Ythbnblmnamckmaa.PAll
