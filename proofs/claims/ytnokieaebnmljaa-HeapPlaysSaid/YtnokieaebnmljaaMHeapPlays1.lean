-- Laid by a program of this seat (wip/merge.py): PAllx5, HCmp, HPair, HCompare, HLin, HCmpD, PAllx10, PAllx11, HCmpR, PAllx12, PAllx13, HEnt, HFirst, HNext.
import Derived.Test.YtnokieaebnmljaaMHeapPlays0
import Derived.Laws.Cover1
import Derived.RangeFuncNested
import Derived.RangeFuncBound
import Derived.RangeFuncCalls
import Derived.RangeFuncLeaves
import Derived.RangeFuncFrom
import Derived.Shelf.Abstract
import Derived.Shelf.RegionOpen
import Derived.WalkKit
import Derived.OwnWalkIn
import Derived.TacticsInMore
import Derived.LoopNIn
import Derived.LoopIn
import Derived.Sort.Walk0
-- Laid by a program of this seat (wip/xprint.py over the kit's print).
namespace Go.Proofs.Ytnokieaebnmljaa.PAll
open Go.RowKit Go.Proofs.YtnokieaebnmljaaW.PrintWords Go.Proofs.YtnokieaebnmljaaW.PrintLast Go.Proofs.YtnokieaebnmljaaW.PrintMore
attribute [local go_sem] max2_int min2_int max_two min_two max_three min_three max_four min_four   -- for this text's walks alone
set_option linter.unusedVariables false
set_option linter.unusedSimpArgs false

/-! ### cmp_Compare_string: function 63 -/
def cmp_Compare_string.f (a0 : ByteArray) (a1 : ByteArray) : Option (Int) := (cmp_isNaN_string.f a0).bind fun t106 => ((cmp_isNaN_string.f a1).bind fun t107 => (if t106 = true then (if t107 = true then (some 0) else (some (-1))) else (if t107 = true then (some 1) else (if (Op.bytesLess a0.toList a1.toList) = true then (some (-1)) else (if (!Op.bytesLess a0.toList a1.toList && !(a0.toList == a1.toList)) = true then (some 1) else (some 0))))))
set_option maxHeartbeats 8000000 in
set_option maxRecDepth 100000 in
theorem cmp_Compare_string.calls (a0 : ByteArray) (a1 : ByteArray) (r : Int) (w : World) (h : cmp_Compare_string.f a0 a1 = some r) :
    Calls Try.prog 63 #[.string a0, .string a1] w fun e w' => e = .returned (.int .i64 r) ∧ Drawn0 w w' := by
  have H : ((cmp_isNaN_string.f a0).bind fun t106 => ((cmp_isNaN_string.f a1).bind fun t107 => (if t106 = true then (if t107 = true then (some 0) else (some (-1))) else (if t107 = true then (some 1) else (if (Op.bytesLess a0.toList a1.toList) = true then (some (-1)) else (if (!Op.bytesLess a0.toList a1.toList && !(a0.toList == a1.toList)) = true then (some 1) else (some 0))))))) = some r := h
  clear h
  replace H := Option.bind_eq_some_iff.mp H
  obtain ⟨t106, A30, H⟩ := H
  replace H : ((cmp_isNaN_string.f a1).bind fun t107 => (if t106 = true then (if t107 = true then (some 0) else (some (-1))) else (if t107 = true then (some 1) else (if (Op.bytesLess a0.toList a1.toList) = true then (some (-1)) else (if (!Op.bytesLess a0.toList a1.toList && !(a0.toList == a1.toList)) = true then (some 1) else (some 0)))))) = some r := H
  have A3 := Aside0.mk A30
  clear A30
  replace H := Option.bind_eq_some_iff.mp H
  obtain ⟨t107, A40, H⟩ := H
  replace H : (if t106 = true then (if t107 = true then (some 0) else (some (-1))) else (if t107 = true then (some 1) else (if (Op.bytesLess a0.toList a1.toList) = true then (some (-1)) else (if (!Op.bytesLess a0.toList a1.toList && !(a0.toList == a1.toList)) = true then (some 1) else (some 0))))) = some r := H
  have A4 := Aside0.mk A40
  clear A40
  by_cases c5 : t106 = true
  · subst c5
    have H1 : (if t107 = true then (some 0) else (some (-1))) = some r := by rw [if_pos rfl] at H; exact H
    clear H
    have H := H1
    clear H1
    by_cases c6 : t107 = true
    · subst c6
      have H1 : (some 0) = some r := by rw [if_pos rfl] at H; exact H
      clear H
      have H := H1
      clear H1
      obtain rfl := Option.some.inj H
      go_enter Try.func63, Try.ntmps63
      go_wp2_with (first | ((with_reducible refine gate_callee (f := 86) rfl ?_); refine goesL_ (some 8) rfl rfl Try.func86 (by kernel_rfl) rfl #[.string a0] rfl aG ?_; (with_reducible refine (cmp_isNaN_string.calls a0 true _ A3.out).mono ?_); rintro e w' ⟨rfl, ⟨nd, rfl⟩⟩; refine ⟨_, rfl, ?_⟩) | ((with_reducible refine gate_callee (f := 86) rfl ?_); refine goesL_ (some 10) rfl rfl Try.func86 (by kernel_rfl) rfl #[.string a1] rfl aG ?_; (with_reducible refine (cmp_isNaN_string.calls a1 true _ A4.out).mono ?_); rintro e w' ⟨rfl, ⟨nd, rfl⟩⟩; refine ⟨_, rfl, ?_⟩))
      go_ret
      exact ⟨by first | rfl | (simp; done) | (simp [*]; done), by repeat (first | exact Drawn0.refl _ | apply Drawn0.step)⟩
    replace c6 := Bool.eq_false_iff.mpr c6
    subst c6
    have H1 : (some (-1)) = some r := by rw [if_neg (show ¬ (false = true) by decide)] at H; exact H
    clear H
    have H := H1
    clear H1
    obtain rfl := Option.some.inj H
    go_enter Try.func63, Try.ntmps63
    go_wp2_with (first | ((with_reducible refine gate_callee (f := 86) rfl ?_); refine goesL_ (some 8) rfl rfl Try.func86 (by kernel_rfl) rfl #[.string a0] rfl aG ?_; (with_reducible refine (cmp_isNaN_string.calls a0 true _ A3.out).mono ?_); rintro e w' ⟨rfl, ⟨nd, rfl⟩⟩; refine ⟨_, rfl, ?_⟩) | ((with_reducible refine gate_callee (f := 86) rfl ?_); refine goesL_ (some 10) rfl rfl Try.func86 (by kernel_rfl) rfl #[.string a1] rfl aG ?_; (with_reducible refine (cmp_isNaN_string.calls a1 false _ A4.out).mono ?_); rintro e w' ⟨rfl, ⟨nd, rfl⟩⟩; refine ⟨_, rfl, ?_⟩))
    go_ret
    exact ⟨by first | rfl | (simp; done) | (simp [*]; done), by repeat (first | exact Drawn0.refl _ | apply Drawn0.step)⟩
  replace c5 := Bool.eq_false_iff.mpr c5
  subst c5
  have H1 : (if t107 = true then (some 1) else (if (Op.bytesLess a0.toList a1.toList) = true then (some (-1)) else (if (!Op.bytesLess a0.toList a1.toList && !(a0.toList == a1.toList)) = true then (some 1) else (some 0)))) = some r := by rw [if_neg (show ¬ (false = true) by decide)] at H; exact H
  clear H
  have H := H1
  clear H1
  by_cases c7 : t107 = true
  · subst c7
    have H1 : (some 1) = some r := by rw [if_pos rfl] at H; exact H
    clear H
    have H := H1
    clear H1
    obtain rfl := Option.some.inj H
    go_enter Try.func63, Try.ntmps63
    go_wp2_with (first | ((with_reducible refine gate_callee (f := 86) rfl ?_); refine goesL_ (some 8) rfl rfl Try.func86 (by kernel_rfl) rfl #[.string a0] rfl aG ?_; (with_reducible refine (cmp_isNaN_string.calls a0 false _ A3.out).mono ?_); rintro e w' ⟨rfl, ⟨nd, rfl⟩⟩; refine ⟨_, rfl, ?_⟩) | ((with_reducible refine gate_callee (f := 86) rfl ?_); refine goesL_ (some 10) rfl rfl Try.func86 (by kernel_rfl) rfl #[.string a1] rfl aG ?_; (with_reducible refine (cmp_isNaN_string.calls a1 true _ A4.out).mono ?_); rintro e w' ⟨rfl, ⟨nd, rfl⟩⟩; refine ⟨_, rfl, ?_⟩))
    go_ret
    exact ⟨by first | rfl | (simp; done) | (simp [*]; done), by repeat (first | exact Drawn0.refl _ | apply Drawn0.step)⟩
  replace c7 := Bool.eq_false_iff.mpr c7
  subst c7
  have H1 : (if (Op.bytesLess a0.toList a1.toList) = true then (some (-1)) else (if (!Op.bytesLess a0.toList a1.toList && !(a0.toList == a1.toList)) = true then (some 1) else (some 0))) = some r := by rw [if_neg (show ¬ (false = true) by decide)] at H; exact H
  clear H
  have H := H1
  clear H1
  by_cases c8 : (Op.bytesLess a0.toList a1.toList) = true
  · rw [if_pos c8] at H
    have c8b0 : (Op.bytesLess a0.toList a1.toList) = true := c8
    clear c8
    obtain rfl := Option.some.inj H
    go_enter Try.func63, Try.ntmps63
    go_wp2_with (first | ((with_reducible refine gate_callee (f := 86) rfl ?_); refine goesL_ (some 8) rfl rfl Try.func86 (by kernel_rfl) rfl #[.string a0] rfl aG ?_; (with_reducible refine (cmp_isNaN_string.calls a0 false _ A3.out).mono ?_); rintro e w' ⟨rfl, ⟨nd, rfl⟩⟩; refine ⟨_, rfl, ?_⟩) | ((with_reducible refine gate_callee (f := 86) rfl ?_); refine goesL_ (some 10) rfl rfl Try.func86 (by kernel_rfl) rfl #[.string a1] rfl aG ?_; (with_reducible refine (cmp_isNaN_string.calls a1 false _ A4.out).mono ?_); rintro e w' ⟨rfl, ⟨nd, rfl⟩⟩; refine ⟨_, rfl, ?_⟩))
    go_ret
    exact ⟨by first | rfl | (simp; done) | (simp [*]; done), by repeat (first | exact Drawn0.refl _ | apply Drawn0.step)⟩
  rw [if_neg c8] at H
  have c8b0 : (Op.bytesLess a0.toList a1.toList) = false := by simpa using c8
  clear c8
  by_cases c9 : (!Op.bytesLess a0.toList a1.toList && !(a0.toList == a1.toList)) = true
  · rw [if_pos c9] at H
    have c9b0 : (!Op.bytesLess a0.toList a1.toList && !(a0.toList == a1.toList)) = true := c9
    have c9b1 : (a0.toList == a1.toList) = false := by have h_ := c9; revert h_; cases Op.bytesLess a0.toList a1.toList <;> cases (a0.toList == a1.toList) <;> simp
    have c9b2 : Op.bytesLess a0.toList a1.toList = false := by have h_ := c9; revert h_; cases Op.bytesLess a0.toList a1.toList <;> simp
    clear c9
    obtain rfl := Option.some.inj H
    go_enter Try.func63, Try.ntmps63
    go_wp2_with (first | ((with_reducible refine gate_callee (f := 86) rfl ?_); refine goesL_ (some 8) rfl rfl Try.func86 (by kernel_rfl) rfl #[.string a0] rfl aG ?_; (with_reducible refine (cmp_isNaN_string.calls a0 false _ A3.out).mono ?_); rintro e w' ⟨rfl, ⟨nd, rfl⟩⟩; refine ⟨_, rfl, ?_⟩) | ((with_reducible refine gate_callee (f := 86) rfl ?_); refine goesL_ (some 10) rfl rfl Try.func86 (by kernel_rfl) rfl #[.string a1] rfl aG ?_; (with_reducible refine (cmp_isNaN_string.calls a1 false _ A4.out).mono ?_); rintro e w' ⟨rfl, ⟨nd, rfl⟩⟩; refine ⟨_, rfl, ?_⟩))
    go_ret
    exact ⟨by first | rfl | (simp; done) | (simp [*]; done), by repeat (first | exact Drawn0.refl _ | apply Drawn0.step)⟩
  rw [if_neg c9] at H
  have c9b0 : (!Op.bytesLess a0.toList a1.toList && !(a0.toList == a1.toList)) = false := by simpa using c9
  (try (have c9b1 : (a0.toList == a1.toList) = true := by have h_ := c9; have h2_ : Op.bytesLess a0.toList a1.toList = false := (by assumption); rw [h2_] at h_; revert h_; cases (a0.toList == a1.toList) <;> simp))
  clear c9
  obtain rfl := Option.some.inj H
  go_enter Try.func63, Try.ntmps63
  go_wp2_with (first | ((with_reducible refine gate_callee (f := 86) rfl ?_); refine goesL_ (some 8) rfl rfl Try.func86 (by kernel_rfl) rfl #[.string a0] rfl aG ?_; (with_reducible refine (cmp_isNaN_string.calls a0 false _ A3.out).mono ?_); rintro e w' ⟨rfl, ⟨nd, rfl⟩⟩; refine ⟨_, rfl, ?_⟩) | ((with_reducible refine gate_callee (f := 86) rfl ?_); refine goesL_ (some 10) rfl rfl Try.func86 (by kernel_rfl) rfl #[.string a1] rfl aG ?_; (with_reducible refine (cmp_isNaN_string.calls a1 false _ A4.out).mono ?_); rintro e w' ⟨rfl, ⟨nd, rfl⟩⟩; refine ⟨_, rfl, ?_⟩))
  go_ret
  exact ⟨by first | rfl | (simp; done) | (simp [*]; done), by repeat (first | exact Drawn0.refl _ | apply Drawn0.step)⟩

-- NOT PRINTED: function 64 (value_pairs)

/-! ### value_Compare: function 40: its contract lies in a text of its own -/

/-! ### heap_place: function 37: its contract lies in a text of its own -/

-- NOT PRINTED: function 38 (heap_with)

/-! ### heap_Put: function 10: its contract lies in a text of its own -/

/-! ### windlasslaw4_num: function 11 -/
def windlasslaw4_num.f (a0 : Int) : Option (Int × Int × ByteArray × Int × (List (S35))) := some (1, a0, (⟨#[]⟩ : ByteArray), 0, ([] : List (S35)))
set_option maxHeartbeats 8000000 in
set_option maxRecDepth 100000 in
theorem windlasslaw4_num.calls (a0 : Int) (r1 : Int) (r2 : Int) (r3 : ByteArray) (r4 : Int) (r5 : List (S35)) (w : World) (h : windlasslaw4_num.f a0 = some (r1, r2, r3, r4, r5)) :
    Calls Try.prog 11 #[.int .i64 a0] w fun e w' => ∃ v4_ : Value, e = .returned (.agg #[.int .i64 r1, .int .i64 r2, .string r3, .int .i64 r4, v4_]) ∧ Kd.R k35 35 w' w.heap.size (fun _ => True) v4_ r5 ∧ Below w.heap.size w w' := by
  have hu35 := Try.underlying35
  have HB := Aside0.mk (Below.refl w.heap.size w)
  have H : (some (1, a0, (⟨#[]⟩ : ByteArray), 0, ([] : List (S35)))) = some (r1, r2, r3, r4, r5) := h
  clear h
  simp only [Option.some.injEq, Prod.mk.injEq] at H
  obtain ⟨rfl, rfl, rfl, rfl, rfl⟩ := H
  go_enter Try.func11, Try.ntmps11
  go_wp2_with (first | ((with_reducible refine gate_dst (N := 2) rfl ?_); refine box_event ?hg (N := 2) ?hd (cs := #[.int .i64 0, .int .i64 0, .string (⟨#[]⟩ : ByteArray), .int .i64 0, .slice none 0 0]) (t := 35) ?hr ?_; (case hd => rfl); (case hg => rfl); (case hr => first | (go_simp; done) | (go_simp; rfl)); intro gb114 hg w2 hbox hb; have BK114:=Aside0.mk (hbox);have GW114:=Aside0.mk ((by rw [hg]; exact (below_size (bL0 HB)) : w.heap.size ≤ gb114));have GE114:=Aside0.mk ((by rw [hg]; exact (below_size (bL0 HB)) : w.heap.size ≤ gb114));replace HB:=bS HB hb; clear hb hbox hg; have hcz3_0 : w2.cell? ⟨gb114, 0, none⟩ = some (.int .i64 0) := (blk_cell BK114.out 0).trans rfl; have hcz3_1 : w2.cell? ⟨gb114, 1, none⟩ = some (.int .i64 0) := (blk_cell BK114.out 1).trans rfl; have hcz3_2 : w2.cell? ⟨gb114, 2, none⟩ = some (.string (⟨#[]⟩ : ByteArray)) := (blk_cell BK114.out 2).trans rfl; have hcz3_3 : w2.cell? ⟨gb114, 3, none⟩ = some (.int .i64 0) := (blk_cell BK114.out 3).trans rfl; have hcz3_4 : w2.cell? ⟨gb114, 4, none⟩ = some (.slice none 0 0) := (blk_cell BK114.out 4).trans rfl; have hfz3_0 := blk_frozen BK114.out 0; have hfz3_1 := blk_frozen BK114.out 1; have hfz3_2 := blk_frozen BK114.out 2; have hfz3_3 := blk_frozen BK114.out 3; have hfz3_4 := blk_frozen BK114.out 4))
  refine bodyPost_ret (results_cell_row rfl _ _ gb114 35 #[.int .i64 1, .int .i64 a0, .string (⟨#[]⟩ : ByteArray), .int .i64 0, .slice none 0 0] (0, 0) _ rfl (by (with_reducible repeat (first | refine blk_drewN ?_ _ | refine blk_drew ?_ | refine blk_alloc ?_ _)); refine blk_put (cs := #[.int .i64 1, .int .i64 a0, .string (⟨#[]⟩ : ByteArray), .int .i64 0, .slice none 0 0]) ?_ 4 _ rfl; (with_reducible repeat (first | refine blk_drewN ?_ _ | refine blk_drew ?_ | refine blk_alloc ?_ _)); refine blk_put (cs := #[.int .i64 1, .int .i64 a0, .string (⟨#[]⟩ : ByteArray), .int .i64 0, .slice none 0 0]) ?_ 3 _ rfl; (with_reducible repeat (first | refine blk_drewN ?_ _ | refine blk_drew ?_ | refine blk_alloc ?_ _)); refine blk_put (cs := #[.int .i64 1, .int .i64 a0, .string (⟨#[]⟩ : ByteArray), .int .i64 0, .slice none 0 0]) ?_ 2 _ rfl; (with_reducible repeat (first | refine blk_drewN ?_ _ | refine blk_drew ?_ | refine blk_alloc ?_ _)); refine blk_put (cs := #[.int .i64 1, .int .i64 0, .string (⟨#[]⟩ : ByteArray), .int .i64 0, .slice none 0 0]) ?_ 1 _ rfl; (with_reducible repeat (first | refine blk_drewN ?_ _ | refine blk_drew ?_ | refine blk_alloc ?_ _)); refine blk_put (cs := #[.int .i64 0, .int .i64 0, .string (⟨#[]⟩ : ByteArray), .int .i64 0, .slice none 0 0]) ?_ 0 _ rfl; (with_reducible repeat (first | refine blk_drewN ?_ _ | refine blk_drew ?_ | refine blk_alloc ?_ _)); exact BK114.out) Try.underlying35 rfl (by kernel_rfl)) rfl ?_
  exact ⟨_, by first | rfl | (simp [errW_none, errW_some] <;> rfl) | (simp [*, errW_none, errW_some] <;> rfl), by first | exact Kd.R_nil _ _ _ _ _ | exact Kd.N_nil _ _ _ _ _ | exact Kd.V_nil _ _ _ _ _ | exact Kd.Q_nil _ _ _ _ _ | exact Kd.S_nil _ _ _ _ _, by repeat (first | (with_reducible first | exact HB.out | apply below_alloc | apply pw_below_drewN | apply below_drew1 | refine below_set ?_ GE114.out) | exact HB.out)⟩

/-! ### heap_First: function 13: its contract lies in a text of its own -/

/-! ### heap_Next: function 15: its contract lies in a text of its own -/

-- NOT PRINTED: function 9 (windlasslaw4_known)

/-! ### heap_Del: function 12: its contract lies in a text of its own -/

end Go.Proofs.Ytnokieaebnmljaa.PAll
namespace Go.Proofs.Ytnokieaebnmljaa.PAll
open Go Go.Proofs Go.RowKit Go.Shelf Go.Proofs.YtnokieaebnmljaaW.PrintWords Go.Proofs.YtnokieaebnmljaaW.PrintLast Go.Proofs.YtnokieaebnmljaaW.PrintMore
attribute [local go_sem] Oper.semAt_some
set_option linter.unusedVariables false
set_option linter.unusedSimpArgs false

/-- A value as a row's element has it: where its fields lie, at the world w0. -/
structure El (w0 : World) where
  x : S35
  A : Option Addr
  c : Nat
  le : x.f4.length ≤ c
  rd : k35.C w0 A x.f4.length x.f4
def El.v {w0 : World} (e : El w0) : Value := .agg #[.int .i64 e.x.f0, .int .i64 e.x.f1, .string e.x.f2, .int .i64 e.x.f3, .slice e.A e.x.f4.length e.c]
/-- A row's elements, one by one. -/
def RowAt {w0 : World} (W : World) (A : Option Addr) (n : Nat) (es : List (El w0)) : Prop :=
  n = es.length ∧ ∀ i (h : i < es.length), ∃ ad, A = some ad ∧ W.cell? (ad.add (i * 5)) = some (.int .i64 es[i].x.f0) ∧ W.cell? ⟨(ad.add (i * 5)).block, (ad.add (i * 5)).off + 1, none⟩ = some (.int .i64 es[i].x.f1) ∧ W.cell? ⟨(ad.add (i * 5)).block, (ad.add (i * 5)).off + 2, none⟩ = some (.string es[i].x.f2) ∧ W.cell? ⟨(ad.add (i * 5)).block, (ad.add (i * 5)).off + 3, none⟩ = some (.int .i64 es[i].x.f3) ∧ W.cell? ⟨(ad.add (i * 5)).block, (ad.add (i * 5)).off + 4, none⟩ = some (.slice es[i].A es[i].x.f4.length es[i].c)
theorem row_of {w0 : World} {A : Option Addr} {l : List S35} (h : k35.C w0 A l.length l) : ∃ es : List (El w0), es.map (·.x) = l ∧ RowAt w0 A l.length es := by
  have hx : ∀ i (hi : i < l.length), ∃ e : El w0, e.x = l[i] ∧ ∃ ad, A = some ad ∧ w0.cell? (ad.add (i * 5)) = some (.int .i64 e.x.f0) ∧ w0.cell? ⟨(ad.add (i * 5)).block, (ad.add (i * 5)).off + 1, none⟩ = some (.int .i64 e.x.f1) ∧ w0.cell? ⟨(ad.add (i * 5)).block, (ad.add (i * 5)).off + 2, none⟩ = some (.string e.x.f2) ∧ w0.cell? ⟨(ad.add (i * 5)).block, (ad.add (i * 5)).off + 3, none⟩ = some (.int .i64 e.x.f3) ∧ w0.cell? ⟨(ad.add (i * 5)).block, (ad.add (i * 5)).off + 4, none⟩ = some (.slice e.A e.x.f4.length e.c) := by
    intro i hi
    obtain ⟨ad, A4, c4, ha, h0, h1, h2, h3, h4, hle, hr⟩ := at_T35 h (i : Int) (by omega) (by omega)
    have er : rd_T35 l (i : Int) = l[i] := by simp [rd_T35, hi]
    rw [er] at h0 h1 h2 h3 h4 hle hr
    rw [Int.toNat_natCast] at h0 h1 h2 h3 h4
    exact ⟨⟨l[i], A4, c4, hle, hr⟩, rfl, ad, ha, h0, h1, h2, h3, h4⟩
  refine ⟨List.ofFn (fun i : Fin l.length => Classical.choose (hx i.1 i.2)), ?_, by simp, ?_⟩
  · apply List.ext_getElem
    · simp
    · intro i h1 h2
      simp only [List.getElem_map, List.getElem_ofFn]
      exact (Classical.choose_spec (hx i h2)).1
  · intro i hi
    have hi' : i < l.length := by simpa using hi
    simp only [List.getElem_ofFn]
    exact (Classical.choose_spec (hx i hi')).2

theorem El.cell {w0 W : World} (h : Below w0.heap.size w0 W) {a : Addr} {u : Value} (hc : w0.cell? a = some u) : W.cell? a = some u := by
  refine (h.cell ?_).trans hc
  unfold World.cell? at hc
  cases hh : w0.heap[a.block]? with
  | none => rw [hh] at hc; simp at hc
  | some o => exact (Array.getElem?_eq_some_iff.1 hh).1
theorem RowAt.below {w0 W : World} {A : Option Addr} {n : Nat} {es : List (El w0)} (h : Below w0.heap.size w0 W) (hr : RowAt w0 A n es) : RowAt W A n es :=
  ⟨hr.1, fun i hi => let ⟨ad, ha, h0, h1, h2, h3, h4⟩ := hr.2 i hi; ⟨ad, ha, El.cell h h0, El.cell h h1, El.cell h h2, El.cell h h3, El.cell h h4⟩⟩

attribute [local go_sem] max2_int min2_int max_two min_two
set_option maxRecDepth 100000 in
set_option maxHeartbeats 2000000 in
/-- pairs' closure, for every loop body that keeps what lay at the beginning. -/
theorem pairs1_in (n : Nat) (hn : 1 ≤ n) (l B1 B2 : Nat) (w0 : World) (A1 A2 : Option Addr) (c1 c2 : Nat) (es1 es2 : List (El w0)) (hr1 : RowAt w0 A1 es1.length es1) (hr2 : RowAt w0 A2 es2.length es2)
    (hl1 : es1.length ≤ 9223372036854775807) (hl2 : es2.length ≤ 9223372036854775807) (J Jx : List (El w0 × El w0) → World → Prop)
    (hY : ∀ pre x W, J pre W → pre ++ [x] <+: es1.zip es2 → YieldAt Fence.wide (n - 1) Try.prog l #[x.1.v, x.2.v] W fun e W' =>
      (e = .returned (.bool true) ∧ J (pre ++ [x]) W' ∧ Below w0.heap.size W W') ∨ (e = .returned (.bool false) ∧ Jx (pre ++ [x]) W'))
    (W : World) (hW : Below w0.heap.size w0 W) (hb1 : W.cell? ⟨B1, 0, none⟩ = some (.slice A1 es1.length c1)) (hb2 : W.cell? ⟨B2, 0, none⟩ = some (.slice A2 es2.length c2))
    (hJb : ∀ pre W, J pre W → W.cell? ⟨B1, 0, none⟩ = some (.slice A1 es1.length c1) ∧ W.cell? ⟨B2, 0, none⟩ = some (.slice A2 es2.length c2)) (hJd : ∀ pre W, J pre W → J pre W.drew) (h0 : J [] W) :
    CallsIn Fence.wide n Try.prog 87 #[.func (.yield l) #[] #[], .pointer (some ⟨B1, 0, none⟩), .pointer (some ⟨B2, 0, none⟩)] W fun e W' => (∃ v, e = .returned v) ∧
      (J (es1.zip es2) W' ∨ (∃ pre, pre <+: es1.zip es2 ∧ Jx pre W')) := by
  refine callsIn_of_wp Try.func87 rfl trivial ?_ rfl
  simp only [Try.ntmps87, List.size_toArray, List.length_cons, List.length_nil, Nat.reduceAdd, Nat.reduceSub, Array.replicate_succ, Array.replicate_zero, List.push_toArray, List.append_toArray, List.nil_append, List.cons_append]
  have hz : (es1.zip es2).length = min es1.length es2.length := by rw [List.length_zip]
  gi_wp2
  all_goals
    gi_loopw [10] (fun i wr => ∃ k : Nat, k ≤ (es1.zip es2).length ∧ i = .int .i64 k ∧ J ((es1.zip es2).take k) wr ∧ Below w0.heap.size w0 wr)
      (fun i _ => (es1.zip es2).length - (intOf i).toNat)
    case atStart => exact ⟨0, Nat.zero_le _, rfl, h0, hW⟩
    case round =>
      obtain ⟨k, hk, rfl, hJs, hnx⟩ := hrel
      obtain ⟨hc1, hc2⟩ := hJb _ _ hJs
      by_cases hlt : k < (es1.zip es2).length
      · obtain ⟨fn, tmps, assign, body, hy, hR⟩ := hY _ (es1.zip es2)[k] wr.drew (hJd _ _ hJs) (by rw [← List.take_succ_eq_append_getElem hlt]; exact List.take_prefix _ _)
        obtain ⟨ad1, rfl, p0, p1, p2, p3, p4⟩ := (hr1.below hnx).2 k (by omega)
        obtain ⟨ad2, rfl, q0, q1, q2, q3, q4⟩ := (hr2.below hnx).2 k (by omega)
        have hmx : Try.prog.follows .mixedOrders = true := by kernel_rfl
        simp only [List.getElem_zip, El.v] at hy
        have hR' := hR.mono (R' := fun e W' => ∃ b : Bool, e = .returned (.bool b) ∧ ((b = true ∧ J ((es1.zip es2).take k ++ [(es1.zip es2)[k]]) W' ∧ Below w0.heap.size wr.drew W') ∨ (b = false ∧ Jx ((es1.zip es2).take k ++ [(es1.zip es2)[k]]) W'))) (by
          rintro e W' (⟨rfl, h⟩ | ⟨rfl, h⟩)
          · exact ⟨true, rfl, .inl ⟨rfl, h⟩⟩
          · exact ⟨false, rfl, .inr ⟨rfl, h⟩⟩)
        clear hR
        have HJs := Aside0.mk hJs
        clear hJs
        have htk : (es1.zip es2).take k ++ [(es1.zip es2)[k]] = (es1.zip es2).take (k + 1) := by rw [List.take_succ_eq_append_getElem hlt]
        rw [htk] at hR'
        have hk1 : k < es1.length := by omega
        have hk2 : k < es2.length := by omega
        generalize es1[k] = e1 at p0 p1 p2 p3 p4 hy
        generalize es2[k] = e2 at q0 q1 q2 q3 q4 hy
        obtain ⟨L1, hL1⟩ : ∃ L1, L1 = (es1.zip es2).take (k + 1) := ⟨_, rfl⟩
        rw [← hL1] at hR'
        have HL1 := Aside0.mk hL1
        have HLT := Aside0.mk hlt
        have HZ := Aside0.mk hz
        clear htk hY hJd hJb hL1 hlt hk hz hr1 hr2 hb1 hb2 hW h0
        gi_wp2
        gi_region_with_o (refine hR'.mono ?_; rintro e W3 ⟨b, rfl, hb3_⟩; have hb3 := Aside0.mk hb3_; clear hb3_)
        all_goals
          rcases hb3.out with ⟨rfl, hJ3, hk3⟩ | ⟨rfl, hJx3⟩
          · gi_wp2
            go_roundw
            case rel => exact ⟨k + 1, HLT.out, by simp, HL1.out ▸ hJ3, (hnx.drew).trans hk3⟩
            case measure => have hlt := HLT.out; simp [intOf]; omega
          · gi_wp2
            refine bodyPost_ret (results_none rfl _ _ _) rfl ?_
            exact ⟨⟨_, rfl⟩, .inr ⟨L1, HL1.out ▸ List.take_prefix _ _, hJx3⟩⟩
      · obtain rfl : k = (es1.zip es2).length := by omega
        gi_wp2
        go_end0
        rw [List.take_length] at hJs
        exact ⟨⟨_, rfl⟩, .inl hJs⟩
end Go.Proofs.Ytnokieaebnmljaa.PAll
namespace Go.Proofs.Ytnokieaebnmljaa.PAll
open Go Go.Proofs Go.RowKit Go.Shelf Go.Proofs.YtnokieaebnmljaaW.PrintWords Go.Proofs.YtnokieaebnmljaaW.PrintLast Go.Proofs.YtnokieaebnmljaaW.PrintMore
attribute [local go_sem] Oper.semAt_some
set_option linter.unusedVariables false
set_option linter.unusedSimpArgs false

/-- What a block of cells holds speaks of cells alone. -/
theorem blk_own {β : Type} (B : Nat) (cs : β → Array Value) (t : TypeId) : Own (fun s W => W.heap[B]? = some (Obj.cells (cs s) t (0, 0))) := fun s X Y row hs hg hrow => by
  refine (hg.block B (Array.getElem?_eq_some_iff.1 hs).1 (fun e => ?_)).trans hs
  obtain ⟨o, ho, hc⟩ := hrow B e.symm
  rw [hs] at ho
  cases ho
  cases hc

set_option maxHeartbeats 1000000 in
/-- value.pairs hands back its closure over two boxes. -/
theorem pairs_in (A1 A2 : Option Addr) (n1 c1 n2 c2 : Nat) (w : World) :
    Calls Try.prog 64 #[.slice A1 n1 c1, .slice A2 n2 c2] w fun e w' => e = .returned (.func (.func 87) #[] #[.pointer (some ⟨w.heap.size, 0, none⟩), .pointer (some ⟨w.heap.size + 1, 0, none⟩)]) ∧ w' = (w.alloc (.cells #[.slice A1 n1 c1] 33)).alloc (.cells #[.slice A2 n2 c2] 33) := by
  go_enter Try.func64, Try.ntmps64
  go_wp2
  go_ret
  exact ⟨rfl, rfl⟩

/-- pairs' closure: every pair in order, or a beginning of them; the loop's body need serve none but pairs of which D holds. -/
theorem pairs_stops (B1 B2 : Nat) (w0 : World) (A1 A2 : Option Addr) (c1 c2 : Nat) (es1 es2 : List (El w0)) (hr1 : RowAt w0 A1 es1.length es1) (hr2 : RowAt w0 A2 es2.length es2)
    (hl1 : es1.length ≤ 9223372036854775807) (hl2 : es2.length ≤ 9223372036854775807) (hB1 : B1 < w0.heap.size) (hB2 : B2 < w0.heap.size)
    (hb1 : w0.cell? ⟨B1, 0, none⟩ = some (.slice A1 es1.length c1)) (hb2 : w0.cell? ⟨B2, 0, none⟩ = some (.slice A2 es2.length c2)) (D : El w0 × El w0 → Prop) (hD : ∀ p ∈ es1.zip es2, D p) :
    SeqStopsK Fence.wide 3 Try.prog 87 #[.pointer (some ⟨B1, 0, none⟩), .pointer (some ⟨B2, 0, none⟩)] (fun x : { p : El w0 × El w0 // D p } => #[x.1.1.v, x.1.2.v]) (Below w0.heap.size) (fun ys => ys.map (·.1) = es1.zip es2) (fun pre => pre.map (·.1) <+: es1.zip es2) (es1.zip es2).length w0 := fun l J Jx W hW hJ hJx hY h0 => by
  have hbx : ∀ {W' : World}, Below w0.heap.size w0 W' → W'.cell? ⟨B1, 0, none⟩ = some (.slice A1 es1.length c1) ∧ W'.cell? ⟨B2, 0, none⟩ = some (.slice A2 es2.length c2) := fun h =>
    ⟨(h.cell (p := ⟨B1, 0, none⟩) hB1).trans hb1, (h.cell (p := ⟨B2, 0, none⟩) hB2).trans hb2⟩
  refine (pairs1_in 3 (by omega) l B1 B2 w0 A1 A2 c1 c2 es1 es2 hr1 hr2 hl1 hl2 (fun pre W => ∃ ys : List { p : El w0 × El w0 // D p }, ys.map (·.1) = pre ∧ J ys W ∧ Below w0.heap.size w0 W) (fun pre W => ∃ ys : List { p : El w0 × El w0 // D p }, ys.map (·.1) = pre ∧ Jx ys W) ?_ W hW (hbx hW).1 (hbx hW).2 (fun pre W ⟨_, _, _, h⟩ => hbx h)
    (fun pre W ⟨ys, h1, h2, h3⟩ => ⟨ys, h1, hJ ys W W.drew none h2 ⟨rfl, rfl, rfl, Nat.le_refl _, fun _ _ _ => rfl⟩ (by simp), h3.drew⟩) ⟨[], rfl, h0, hW⟩).mono ?_
  · rintro pre x W1 ⟨ys, rfl, hj, hb⟩ hpre
    have hx : D x := hD x (hpre.subset (by simp))
    have hlen := hpre.length_le
    simp only [List.length_append, List.length_map, List.length_cons, List.length_nil] at hlen
    obtain ⟨fn, tmps, assign, body, hy, hR⟩ := hY ys ⟨x, hx⟩ W1 hj (by omega)
    refine ⟨fn, tmps, assign, body, hy, hR.mono ?_⟩
    rintro e W' (⟨rfl, h1, h2⟩ | ⟨rfl, h1⟩)
    · exact .inl ⟨rfl, ⟨_, by simp, h1, hb.trans h2⟩, h2⟩
    · exact .inr ⟨rfl, _, by simp, h1⟩
  · rintro e W' ⟨he, ⟨ys, h1, h2, h3⟩ | ⟨pre, hp, ys, rfl, h⟩⟩
    · exact ⟨he, .inl ⟨ys, h1, h2⟩⟩
    · exact ⟨he, .inr ⟨ys, hp, h⟩⟩
end Go.Proofs.Ytnokieaebnmljaa.PAll
namespace Go.Proofs.Ytnokieaebnmljaa.PAll
open Go Go.Proofs Go.RowKit Go.Shelf Go.Proofs.YtnokieaebnmljaaW.PrintWords Go.Proofs.YtnokieaebnmljaaW.PrintLast Go.Proofs.YtnokieaebnmljaaW.PrintMore
attribute [local go_sem] Oper.semAt_some
set_option linter.unusedVariables false
set_option linter.unusedSimpArgs false

/-- What is said of each pair of two rows, as long as both go. -/
def zipAll {α : Type} (g : α → α → Option Int) : List α → List α → Option (List Int)
  | x :: xs, y :: ys => (g x y).bind fun c => (zipAll g xs ys).bind fun cs => some (c :: cs)
  | _, _ => some []
/-- The first that isn't 0; else 0. -/
def firstNZ : List Int → Int
  | [] => 0
  | c :: cs => if c = 0 then firstNZ cs else c
theorem zipAll_mono {α : Type} {g g' : α → α → Option Int} (h : ∀ x y, LeO (g x y) (g' x y)) : ∀ xs ys, LeO (zipAll g xs ys) (zipAll g' xs ys)
  | x :: xs, y :: ys => by
    unfold zipAll
    exact LeO.bind (h x y) (fun _ => LeO.bind (zipAll_mono h xs ys) (fun _ => LeO.refl _))
  | [], _ => by unfold zipAll; exact LeO.refl _
  | _ :: _, [] => by unfold zipAll; exact LeO.refl _
/-- The comparison of a pair's elements, where it goes. -/
def gvl (g : S35 → S35 → Option Int) (p : S35 × S35) : Int := (g p.1 p.2).getD 0
theorem zipAll_out (g : S35 → S35 → Option Int) : ∀ (xs ys : List S35) (cs : List Int), zipAll g xs ys = some cs → cs = (xs.zip ys).map (gvl g) ∧ ∀ p ∈ xs.zip ys, ∃ c, g p.1 p.2 = some c
  | x :: xs, y :: ys, cs, h => by
    unfold zipAll at h
    obtain ⟨c, hc, h⟩ := Option.bind_eq_some_iff.mp h
    obtain ⟨ds, hd, h⟩ := Option.bind_eq_some_iff.mp h
    obtain rfl := Option.some.inj h
    obtain ⟨rfl, h2⟩ := zipAll_out g xs ys ds hd
    refine ⟨by simp [gvl, hc], ?_⟩
    intro p hp
    rw [List.zip_cons_cons, List.mem_cons] at hp
    rcases hp with rfl | hp
    · exact ⟨c, hc⟩
    · exact h2 p hp
  | [], _, cs, h => by
    unfold zipAll at h
    obtain rfl := Option.some.inj h
    exact ⟨by simp, by simp⟩
  | _ :: _, [], cs, h => by
    unfold zipAll at h
    obtain rfl := Option.some.inj h
    exact ⟨by simp, by simp⟩
theorem firstNZ_snoc (c : Int) : ∀ cs, firstNZ (cs ++ [c]) = if firstNZ cs = 0 then c else firstNZ cs
  | [] => by by_cases h : c = 0 <;> simp [firstNZ, h]
  | d :: cs => by
    by_cases h : d = 0
    · simp [firstNZ, h, firstNZ_snoc c cs]
    · simp [firstNZ, h]
theorem firstNZ_prefix {xs bs : List Int} (h : xs <+: bs) (h0 : firstNZ xs ≠ 0) : firstNZ bs = firstNZ xs := by
  obtain ⟨t, rfl⟩ := h
  induction xs with
  | nil => exact absurd rfl h0
  | cons a xs ih =>
    by_cases ha : a = 0
    · simp only [List.cons_append, firstNZ, ha, if_true] at h0 ⊢
      exact ih h0
    · simp [firstNZ, ha]
def value_Compare.f : Nat → Int → Int → ByteArray → Int → List (S35) → Int → Int → ByteArray → Int → List (S35) → Option (Int)
  | 0, _, _, _, _, _, _, _, _, _, _ => none
  | k + 1, a0_0, a0_1, a0_2, a0_3, l0_4, a1_0, a1_1, a1_2, a1_3, l1_4 => (cmp_Compare_int.f a0_0 a1_0).bind fun t110 => ((cmp_Compare_int64.f a0_1 a1_1).bind fun t111 => ((cmp_Compare_string.f a0_2 a1_2).bind fun t112 => ((cmp_Compare_int.f a0_3 a1_3).bind fun t113 => ((cmp_Or_int.f k (([t110, t111, t112, t113] : List Int))).bind fun t117 => (if t117 = 0 then (if l0_4.length ≤ 9223372036854775807 ∧ l1_4.length ≤ 9223372036854775807 then ((zipAll (fun x y => value_Compare.f k x.f0 x.f1 x.f2 x.f3 x.f4 y.f0 y.f1 y.f2 y.f3 y.f4) l0_4 l1_4).bind fun cs => if firstNZ cs = 0 then (cmp_Compare_int.f (l0_4.length : Int) (l1_4.length : Int)) else some (firstNZ cs)) else none) else (some t117))))))
/-- A block of cells, and what is kept below, across a turn of what is no cells. -/
theorem blk_from {B g : Nat} {cs : Array Value} {t : TypeId} {X Y : World} {row : Option Nat} (h : Aside0 (X.heap[g]? = some (.cells cs t (0, 0)))) (hg : X.grownBy Y row) (hr : ∀ r, row = some r → B ≤ r ∧ ∃ o : Obj, X.heap[r]? = some o ∧ o.isCells = false) : Aside0 (Y.heap[g]? = some (.cells cs t (0, 0))) :=
  ⟨(hg.block g (Array.getElem?_eq_some_iff.1 h.out).1 (fun e => by obtain ⟨_, o, ho, hc⟩ := hr g e.symm; rw [h.out] at ho; cases ho; cases hc)).trans h.out⟩
theorem below_from {n B : Nat} {w0 X Y : World} {row : Option Nat} (h : Aside0 (Below n w0 X)) (hn : n ≤ w0.heap.size) (hB : n ≤ B) (hg : X.grownBy Y row) (hr : ∀ r, row = some r → B ≤ r ∧ ∃ o : Obj, X.heap[r]? = some o ∧ o.isCells = false) : Aside0 (Below n w0 Y) :=
  ⟨ownFrom_below (β := Unit) hn hB () X Y row h.out hg hr⟩
theorem keeps_of_below {B : Nat} {X Y : World} (h : Below X.heap.size X Y) : KeepsFrom B X Y :=
  ⟨h.size, fun k o _ h0 _ => (h.block k (Array.getElem?_eq_some_iff.1 h0).1).trans h0⟩
/-- The ways out that a body takes: it runs out, or returns. -/
def retOnly (Q : Exit → Act → World → Prop) : Exit → Act → World → Prop
  | .normal, a, w => Q .normal a w
  | .ret, a, w => Q .ret a w
  | _, _, _ => False
theorem retOnly_imp {Q : Exit → Act → World → Prop} : ∀ e a w, retOnly Q e a w → Q e a w
  | .normal, _, _, h => h
  | .ret, _, _, h => h
  | .panic _, _, _, h => h.elim
  | .exit _, _, _, h => h.elim
  | .goto _, _, _, h => h.elim
  | .outgrown, _, _, h => h.elim
def value_Compare.T1 : Bool × List (List Nat × List Nat) := (true, [([], []), ([0], [0]), ([], []), ([2], [2]), ([1, 3], [1, 3]), ([], []), ([5], [5]), ([], []), ([7], [7]), ([6, 8, 4], [6, 8]), ([], []), ([10], [10]), ([], []), ([12], [12]), ([11, 13, 9], [11, 13]), ([], []), ([15], [15]), ([], []), ([17], [17]), ([16, 18, 14], [16, 18]), ([4, 9, 14, 19], [4, 9, 14, 19]), ([20, 19], [20]), ([21, 21, 0, 1, 2, 3, 4, 5, 6, 7, 8, 9, 10, 11, 12, 13, 14, 15, 16, 17, 18, 19, 20, 21], [21])])
def value_Compare.B1 : List Nat := [0, 1, 0, 4, 15, 0, 32, 0, 128, 511, 0, 1024, 0, 4096, 16383, 0, 32768, 0, 131072, 524287, 1048575, 2097151, 4194303]
theorem value_Compare.tab1 : rtab .any (opsOf Try.f40 1) = value_Compare.T1 := by kernel_rfl
theorem value_Compare.bits1 : waitsOk value_Compare.T1.2 value_Compare.B1 = true := by kernel_rfl
set_option maxHeartbeats 8000000 in
set_option maxRecDepth 100000 in
theorem value_Compare.calls (k : Nat) : ∀ (a0_0 : Int) (a0_1 : Int) (a0_2 : ByteArray) (a0_3 : Int) (A0_4 : Option Addr) (c0_4 : Nat) (l0_4 : List (S35)) (a1_0 : Int) (a1_1 : Int) (a1_2 : ByteArray) (a1_3 : Int) (A1_4 : Option Addr) (c1_4 : Nat) (l1_4 : List (S35)) (r : Int) (w : World) (hr0_4 : Kd.C k35 w A0_4 l0_4.length l0_4) (hc0_4 : l0_4.length ≤ c0_4) (hr1_4 : Kd.C k35 w A1_4 l1_4.length l1_4) (hc1_4 : l1_4.length ≤ c1_4) (h : value_Compare.f k a0_0 a0_1 a0_2 a0_3 l0_4 a1_0 a1_1 a1_2 a1_3 l1_4 = some r),
    Calls Try.prog 40 #[.agg #[.int .i64 a0_0, .int .i64 a0_1, .string a0_2, .int .i64 a0_3, .slice A0_4 l0_4.length c0_4], .agg #[.int .i64 a1_0, .int .i64 a1_1, .string a1_2, .int .i64 a1_3, .slice A1_4 l1_4.length c1_4]] w fun e w' => e = .returned (.int .i64 r) ∧ Below w.heap.size w w' := by
  induction k using Nat.strongRecOn with
  | _ k ih =>
  intro a0_0 a0_1 a0_2 a0_3 A0_4 c0_4 l0_4 a1_0 a1_1 a1_2 a1_3 A1_4 c1_4 l1_4 r w hr0_4 hc0_4 hr1_4 hc1_4 h
  cases k with
  | zero => exact absurd h (by simp [value_Compare.f])
  | succ k =>
  simp only [value_Compare.f] at h
  have hu35 := Try.underlying35
  have HR0_4 := Aside0.mk hr0_4
  have HC0_4 := Aside0.mk hc0_4
  clear hr0_4 hc0_4
  have HR1_4 := Aside0.mk hr1_4
  have HC1_4 := Aside0.mk hc1_4
  clear hr1_4 hc1_4
  have HB := Aside0.mk (Below.refl w.heap.size w)
  obtain ⟨t110, A30, H1⟩ := Option.bind_eq_some_iff.mp h
  obtain ⟨t111, A40, H2⟩ := Option.bind_eq_some_iff.mp H1
  obtain ⟨t112, A50, H3⟩ := Option.bind_eq_some_iff.mp H2
  obtain ⟨t113, A60, H⟩ := Option.bind_eq_some_iff.mp H3
  obtain ⟨y114, hy114⟩ : ∃ y_ : List Int, y_ = (([t110, t111, t112, t113] : List Int)) := ⟨_, rfl⟩
  rw [← hy114] at H
  obtain ⟨t117, A70, H'⟩ := Option.bind_eq_some_iff.mp H
  have A3 := Aside0.mk A30
  have A4 := Aside0.mk A40
  have A5 := Aside0.mk A50
  have A6 := Aside0.mk A60
  have A7 := Aside0.mk A70
  have Ny114 := Aside0.mk hy114
  have HH := Aside0.mk H'
  clear h A30 A40 A50 A60 A70 hy114 H H' H1 H2 H3
  refine (callsIn_wide (n := 5)).1 ?_
  refine callsIn_of_wp_marks Try.func40 rfl trivial ?_ rfl
  simp only [Try.ntmps40, List.size_toArray, List.length_cons, List.length_nil, Nat.reduceAdd, Nat.reduceSub, Array.replicate_succ, Array.replicate_zero, List.push_toArray, List.append_toArray, List.nil_append, List.cons_append]
  refine wpIn_wide.2 ?_
  refine wp_mono ?_ retOnly_imp
  go_wp2_with (first | ((with_reducible refine gate_dst (N := 2) rfl ?_); refine box_event ?hg (N := 2) ?hd (cs := #[.int .i64 a0_0, .int .i64 a0_1, .string a0_2, .int .i64 a0_3, .slice A0_4 l0_4.length c0_4]) (t := 35) ?hr ?_; (case hd => rfl); (case hg => rfl); (case hr => first | (go_simp; done) | (go_simp; rfl)); intro gb108 hg w10 hbox hb; have n0_ := Aside0.mk (below_step (by repeat (first | (with_reducible first | exact HB.out | apply below_alloc | apply pw_below_drewN | apply below_drew1) | exact HB.out)) hb); have n1_ := Aside0.mk (hbox); have n2_ := Aside0.mk ((by rw [hg]; exact (below_size (by repeat (first | (with_reducible first | exact HB.out | apply below_alloc | apply pw_below_drewN | apply below_drew1) | exact HB.out))) : w.heap.size ≤ gb108)); have n3_ := Aside0.mk ((by rw [hg]; exact (below_size (by repeat (first | (with_reducible first | exact HB.out | apply below_alloc | apply pw_below_drewN | apply below_drew1) | exact HB.out))) : w.heap.size ≤ gb108)); clear HB; have HB := n0_; have BK108 := n1_; have GW108 := n2_; have GE108 := n3_; clear n0_ n1_ n2_ n3_; clear hb hbox hg) | ((with_reducible refine gate_dst (N := 3) rfl ?_); refine box_event ?hg (N := 3) ?hd (cs := #[.int .i64 a1_0, .int .i64 a1_1, .string a1_2, .int .i64 a1_3, .slice A1_4 l1_4.length c1_4]) (t := 35) ?hr ?_; (case hd => rfl); (case hg => rfl); (case hr => first | (go_simp; done) | (go_simp; rfl)); intro gb109 hg w11 hbox hb; have n0_ := Aside0.mk (blk_below (g := gb108) (o := .cells #[.int .i64 a0_0, .int .i64 a0_1, .string a0_2, .int .i64 a0_3, .slice A0_4 l0_4.length c0_4] 35 (0, 0)) (by (with_reducible repeat (first | refine blk_drewN ?_ _ | refine blk_drew ?_ | refine blk_alloc ?_ _)); exact BK108.out) hb); have n1_ := Aside0.mk (below_step (by repeat (first | (with_reducible first | exact HB.out | apply below_alloc | apply pw_below_drewN | apply below_drew1 | refine below_set ?_ GE108.out) | exact HB.out)) hb); have n2_ := Aside0.mk (hbox); have n3_ := Aside0.mk ((by rw [hg]; exact (below_size (by repeat (first | (with_reducible first | exact HB.out | apply below_alloc | apply pw_below_drewN | apply below_drew1 | refine below_set ?_ GE108.out) | exact HB.out))) : w.heap.size ≤ gb109)); have n4_ := Aside0.mk ((by rw [hg]; exact (below_size (by repeat (first | (with_reducible first | exact HB.out | apply below_alloc | apply pw_below_drewN | apply below_drew1 | refine below_set ?_ GE108.out) | exact HB.out))) : w.heap.size ≤ gb109)); have n5_ := Aside0.mk ((by rw [hg]; exact Nat.ne_of_lt (blk_lt (g := gb108) (o := .cells #[.int .i64 a0_0, .int .i64 a0_1, .string a0_2, .int .i64 a0_3, .slice A0_4 l0_4.length c0_4] 35 (0, 0)) (by (with_reducible repeat (first | refine blk_drewN ?_ _ | refine blk_drew ?_ | refine blk_alloc ?_ _)); exact BK108.out)) : gb108 ≠ gb109)); have n6_ := Aside0.mk ((by rw [hg]; exact Nat.ne_of_gt (blk_lt (g := gb108) (o := .cells #[.int .i64 a0_0, .int .i64 a0_1, .string a0_2, .int .i64 a0_3, .slice A0_4 l0_4.length c0_4] 35 (0, 0)) (by (with_reducible repeat (first | refine blk_drewN ?_ _ | refine blk_drew ?_ | refine blk_alloc ?_ _)); exact BK108.out)) : gb109 ≠ gb108)); clear BK108; clear HB; have BK108 := n0_; have HB := n1_; have BK109 := n2_; have GW109 := n3_; have GE109 := n4_; have NB108_109 := n5_; have NB109_108 := n6_; clear n0_ n1_ n2_ n3_ n4_ n5_ n6_; clear hb hbox hg))
  obtain ⟨gr, hgr⟩ : ∃ gr, gr = w11.heap.size := ⟨_, rfl⟩
  obtain ⟨w1, hw1⟩ : ∃ w1, w1 = w11.alloc (.cells #[.int .i64 0] 3) := ⟨_, rfl⟩
  have BKr : w1.heap[gr]? = some (.cells #[.int .i64 0] 3 (0, 0)) := by rw [hw1, hgr]; exact Boxed.new w11 3 _
  have B8 := blk_alloc BK108.out (.cells #[.int .i64 0] 3)
  have B9 := blk_alloc BK109.out (.cells #[.int .i64 0] 3)
  have HB1 := HB.out.alloc HB.out.size (.cells #[.int .i64 0] 3)
  have hge : w.heap.size ≤ gr := hgr ▸ HB.out.size
  have hn8 : gb108 < gr := hgr ▸ (Array.getElem?_eq_some_iff.1 BK108.out).1
  have hn9 : gb109 < gr := hgr ▸ (Array.getElem?_eq_some_iff.1 BK109.out).1
  rw [← hw1] at B8 B9 HB1 ⊢
  rw [← hgr]
  clear hgr hw1 HB BK108 BK109
  have BK108 := Aside0.mk B8
  have BK109 := Aside0.mk B9
  have HBR := Aside0.mk BKr
  have HB := Aside0.mk (Below.refl w1.heap.size w1)
  have HBW := Aside0.mk HB1
  have HG := Aside0.mk (And.intro hge (And.intro hn8 hn9))
  clear B8 B9 HB1 BKr hge hn8 hn9
  have n0_ := Aside0.mk (blk_drew BK108.out)
  have n1_ := Aside0.mk (blk_drew BK109.out)
  have n2_ := Aside0.mk (below_drew1 HB.out)
  clear BK108
  clear BK109
  clear HB
  have BK108 := n0_
  have BK109 := n1_
  have HB := n2_
  clear n0_ n1_ n2_
  refine start_ (n := 23) (S := fun w' => w'.cell? ⟨gb108, 0, none⟩ = some (.int .i64 a0_0) ∧ w'.cell? ⟨gb108, 1, none⟩ = some (.int .i64 a0_1) ∧ w'.cell? ⟨gb108, 2, none⟩ = some (.string a0_2) ∧ w'.cell? ⟨gb108, 3, none⟩ = some (.int .i64 a0_3) ∧ w'.cell? ⟨gb108, 4, none⟩ = some (.slice A0_4 l0_4.length c0_4) ∧ w'.cell? ⟨gb109, 0, none⟩ = some (.int .i64 a1_0) ∧ w'.cell? ⟨gb109, 1, none⟩ = some (.int .i64 a1_1) ∧ w'.cell? ⟨gb109, 2, none⟩ = some (.string a1_2) ∧ w'.cell? ⟨gb109, 3, none⟩ = some (.int .i64 a1_3) ∧ w'.cell? ⟨gb109, 4, none⟩ = some (.slice A1_4 l1_4.length c1_4)) (ds := []) #[false, false, false, false, false, false, false, false, false, false, false, false, false, false, false, false, false, false, false, false, false, false, false] (by kernel_rfl) rfl rfl ⟨(blk_cell BK108.out 0).trans rfl, (blk_cell BK108.out 1).trans rfl, (blk_cell BK108.out 2).trans rfl, (blk_cell BK108.out 3).trans rfl, (blk_cell BK108.out 4).trans rfl, (blk_cell BK109.out 0).trans rfl, (blk_cell BK109.out 1).trans rfl, (blk_cell BK109.out 2).trans rfl, (blk_cell BK109.out 3).trans rfl, (blk_cell BK109.out 4).trans rfl⟩ (fun hHeld => ?_); refine with_tabW value_Compare.tab1 value_Compare.bits1 (fun HT_ HW_ => ?_)
  generalize w1.drew = w12 at BK108 BK109 HB hHeld ⊢
  refine pure_ (i := 0) (N := some 9) (v := ?_) (a' := ?_) #[true, false, false, false, false, false, false, false, false, false, false, false, false, false, false, false, false, false, false, false, false, false, false] rfl rfl (any_of HT_.out (by kernel_rfl)) (fun _ _ _ h => h) (Or.inl ⟨by rfl, ?_⟩) ?_ ?_
  rotate_left
  · intro w'
    go_simp
    with_reducible rfl
  rotate_left
  · simp only [Act.put, List.setIfInBounds_toArray, List.set_cons_zero, List.set_cons_succ, i64_w, i32_w]
    rfl
  refine pure_ (i := 2) (N := some 11) (v := ?_) (a' := ?_) #[true, false, true, false, false, false, false, false, false, false, false, false, false, false, false, false, false, false, false, false, false, false, false] rfl rfl (any_of HT_.out (by kernel_rfl)) (fun _ _ _ h => h) (Or.inl ⟨by rfl, ?_⟩) ?_ ?_
  rotate_left
  · intro w'
    go_simp
    with_reducible rfl
  rotate_left
  · simp only [Act.put, List.setIfInBounds_toArray, List.set_cons_zero, List.set_cons_succ, i64_w, i32_w]
    rfl
  refine pure_ (i := 5) (N := some 14) (v := ?_) (a' := ?_) #[true, false, true, false, false, true, false, false, false, false, false, false, false, false, false, false, false, false, false, false, false, false, false] rfl rfl (any_of HT_.out (by kernel_rfl)) (fun _ _ _ h => h) (Or.inl ⟨by rfl, ?_⟩) ?_ ?_
  rotate_left
  · intro w'
    go_simp
    with_reducible rfl
  rotate_left
  · simp only [Act.put, List.setIfInBounds_toArray, List.set_cons_zero, List.set_cons_succ, i64_w, i32_w]
    rfl
  refine pure_ (i := 7) (N := some 16) (v := ?_) (a' := ?_) #[true, false, true, false, false, true, false, true, false, false, false, false, false, false, false, false, false, false, false, false, false, false, false] rfl rfl (any_of HT_.out (by kernel_rfl)) (fun _ _ _ h => h) (Or.inl ⟨by rfl, ?_⟩) ?_ ?_
  rotate_left
  · intro w'
    go_simp
    with_reducible rfl
  rotate_left
  · simp only [Act.put, List.setIfInBounds_toArray, List.set_cons_zero, List.set_cons_succ, i64_w, i32_w]
    rfl
  refine pure_ (i := 10) (N := some 19) (v := ?_) (a' := ?_) #[true, false, true, false, false, true, false, true, false, false, true, false, false, false, false, false, false, false, false, false, false, false, false] rfl rfl (any_of HT_.out (by kernel_rfl)) (fun _ _ _ h => h) (Or.inl ⟨by rfl, ?_⟩) ?_ ?_
  rotate_left
  · intro w'
    go_simp
    with_reducible rfl
  rotate_left
  · simp only [Act.put, List.setIfInBounds_toArray, List.set_cons_zero, List.set_cons_succ, i64_w, i32_w]
    rfl
  refine pure_ (i := 12) (N := some 21) (v := ?_) (a' := ?_) #[true, false, true, false, false, true, false, true, false, false, true, false, true, false, false, false, false, false, false, false, false, false, false] rfl rfl (any_of HT_.out (by kernel_rfl)) (fun _ _ _ h => h) (Or.inl ⟨by rfl, ?_⟩) ?_ ?_
  rotate_left
  · intro w'
    go_simp
    with_reducible rfl
  rotate_left
  · simp only [Act.put, List.setIfInBounds_toArray, List.set_cons_zero, List.set_cons_succ, i64_w, i32_w]
    rfl
  refine pure_ (i := 15) (N := some 24) (v := ?_) (a' := ?_) #[true, false, true, false, false, true, false, true, false, false, true, false, true, false, false, true, false, false, false, false, false, false, false] rfl rfl (any_of HT_.out (by kernel_rfl)) (fun _ _ _ h => h) (Or.inl ⟨by rfl, ?_⟩) ?_ ?_
  rotate_left
  · intro w'
    go_simp
    with_reducible rfl
  rotate_left
  · simp only [Act.put, List.setIfInBounds_toArray, List.set_cons_zero, List.set_cons_succ, i64_w, i32_w]
    rfl
  refine pure_ (i := 17) (N := some 26) (v := ?_) (a' := ?_) #[true, false, true, false, false, true, false, true, false, false, true, false, true, false, false, true, false, true, false, false, false, false, false] rfl rfl (any_of HT_.out (by kernel_rfl)) (fun _ _ _ h => h) (Or.inl ⟨by rfl, ?_⟩) ?_ ?_
  rotate_left
  · intro w'
    go_simp
    with_reducible rfl
  rotate_left
  · simp only [Act.put, List.setIfInBounds_toArray, List.set_cons_zero, List.set_cons_succ, i64_w, i32_w]
    rfl
  refine take_ (i := 1) (N := some 10) (v := ?_) (a' := ?_) #[true, true, true, false, false, true, false, true, false, false, true, false, true, false, false, true, false, true, false, false, false, false, false] rfl rfl (take_ofW HT_.out HW_.out (by kernel_rfl)) (fun _ _ _ h => h) (Or.inl ⟨by rfl, ?_⟩) hHeld ?_ ?_
  rotate_left
  · rintro w' ⟨s0, s1, s2, s3, s4, s5, s6, s7, s8, s9⟩
    go_simp
    with_reducible rfl
  rotate_left
  · simp only [Act.put, List.setIfInBounds_toArray, List.set_cons_zero, List.set_cons_succ, i64_w, i32_w]
    rfl
  refine take_ (i := 3) (N := some 12) (v := ?_) (a' := ?_) #[true, true, true, true, false, true, false, true, false, false, true, false, true, false, false, true, false, true, false, false, false, false, false] rfl rfl (take_ofW HT_.out HW_.out (by kernel_rfl)) (fun _ _ _ h => h) (Or.inl ⟨by rfl, ?_⟩) hHeld ?_ ?_
  rotate_left
  · rintro w' ⟨s0, s1, s2, s3, s4, s5, s6, s7, s8, s9⟩
    go_simp
    with_reducible rfl
  rotate_left
  · simp only [Act.put, List.setIfInBounds_toArray, List.set_cons_zero, List.set_cons_succ, i64_w, i32_w]
    rfl
  refine take_ (i := 6) (N := some 15) (v := ?_) (a' := ?_) #[true, true, true, true, false, true, true, true, false, false, true, false, true, false, false, true, false, true, false, false, false, false, false] rfl rfl (take_ofW HT_.out HW_.out (by kernel_rfl)) (fun _ _ _ h => h) (Or.inl ⟨by rfl, ?_⟩) hHeld ?_ ?_
  rotate_left
  · rintro w' ⟨s0, s1, s2, s3, s4, s5, s6, s7, s8, s9⟩
    go_simp
    with_reducible rfl
  rotate_left
  · simp only [Act.put, List.setIfInBounds_toArray, List.set_cons_zero, List.set_cons_succ, i64_w, i32_w]
    rfl
  refine take_ (i := 8) (N := some 17) (v := ?_) (a' := ?_) #[true, true, true, true, false, true, true, true, true, false, true, false, true, false, false, true, false, true, false, false, false, false, false] rfl rfl (take_ofW HT_.out HW_.out (by kernel_rfl)) (fun _ _ _ h => h) (Or.inl ⟨by rfl, ?_⟩) hHeld ?_ ?_
  rotate_left
  · rintro w' ⟨s0, s1, s2, s3, s4, s5, s6, s7, s8, s9⟩
    go_simp
    with_reducible rfl
  rotate_left
  · simp only [Act.put, List.setIfInBounds_toArray, List.set_cons_zero, List.set_cons_succ, i64_w, i32_w]
    rfl
  refine take_ (i := 11) (N := some 20) (v := ?_) (a' := ?_) #[true, true, true, true, false, true, true, true, true, false, true, true, true, false, false, true, false, true, false, false, false, false, false] rfl rfl (take_ofW HT_.out HW_.out (by kernel_rfl)) (fun _ _ _ h => h) (Or.inl ⟨by rfl, ?_⟩) hHeld ?_ ?_
  rotate_left
  · rintro w' ⟨s0, s1, s2, s3, s4, s5, s6, s7, s8, s9⟩
    go_simp
    with_reducible rfl
  rotate_left
  · simp only [Act.put, List.setIfInBounds_toArray, List.set_cons_zero, List.set_cons_succ, i64_w, i32_w]
    rfl
  refine take_ (i := 13) (N := some 22) (v := ?_) (a' := ?_) #[true, true, true, true, false, true, true, true, true, false, true, true, true, true, false, true, false, true, false, false, false, false, false] rfl rfl (take_ofW HT_.out HW_.out (by kernel_rfl)) (fun _ _ _ h => h) (Or.inl ⟨by rfl, ?_⟩) hHeld ?_ ?_
  rotate_left
  · rintro w' ⟨s0, s1, s2, s3, s4, s5, s6, s7, s8, s9⟩
    go_simp
    with_reducible rfl
  rotate_left
  · simp only [Act.put, List.setIfInBounds_toArray, List.set_cons_zero, List.set_cons_succ, i64_w, i32_w]
    rfl
  refine take_ (i := 16) (N := some 25) (v := ?_) (a' := ?_) #[true, true, true, true, false, true, true, true, true, false, true, true, true, true, false, true, true, true, false, false, false, false, false] rfl rfl (take_ofW HT_.out HW_.out (by kernel_rfl)) (fun _ _ _ h => h) (Or.inl ⟨by rfl, ?_⟩) hHeld ?_ ?_
  rotate_left
  · rintro w' ⟨s0, s1, s2, s3, s4, s5, s6, s7, s8, s9⟩
    go_simp
    with_reducible rfl
  rotate_left
  · simp only [Act.put, List.setIfInBounds_toArray, List.set_cons_zero, List.set_cons_succ, i64_w, i32_w]
    rfl
  refine take_ (i := 18) (N := some 27) (v := ?_) (a' := ?_) #[true, true, true, true, false, true, true, true, true, false, true, true, true, true, false, true, true, true, true, false, false, false, false] rfl rfl (take_ofW HT_.out HW_.out (by kernel_rfl)) (fun _ _ _ h => h) (Or.inl ⟨by rfl, ?_⟩) hHeld ?_ ?_
  rotate_left
  · rintro w' ⟨s0, s1, s2, s3, s4, s5, s6, s7, s8, s9⟩
    go_simp
    with_reducible rfl
  rotate_left
  · simp only [Act.put, List.setIfInBounds_toArray, List.set_cons_zero, List.set_cons_succ, i64_w, i32_w]
    rfl
  refine one_ (i := 4) (N := some 13) #[true, true, true, true, true, true, true, true, true, false, true, true, true, true, false, true, true, true, true, false, false, false, false] rfl rfl (one_of HT_.out (by kernel_rfl)) (by decide) (fun K hK => ?_)
  refine goes_ Try.func61 (by kernel_rfl) rfl #[.int .i64 a0_0, .int .i64 a1_0] (by rfl) rfl rfl (by (try simp only [List.map_toArray, List.map_cons, List.map_nil]); first | done | rfl | (simp only [List.length_drop, List.length_take]; rfl) | (go_simp; done) | (go_simp; simp; done)) ?_
  with_reducible refine (cmp_Compare_int.calls a0_0 a1_0 t110 _ A3.out).mono ?_
  rintro e w' ⟨rfl, ⟨nd, rfl⟩⟩
  refine ⟨_, rfl, ?_⟩
  refine hK.out _ _ ⟨(blk_cell BK108.out 0).trans rfl, (blk_cell BK108.out 1).trans rfl, (blk_cell BK108.out 2).trans rfl, (blk_cell BK108.out 3).trans rfl, (blk_cell BK108.out 4).trans rfl, (blk_cell BK109.out 0).trans rfl, (blk_cell BK109.out 1).trans rfl, (blk_cell BK109.out 2).trans rfl, (blk_cell BK109.out 3).trans rfl, (blk_cell BK109.out 4).trans rfl⟩ (fun hHeld => ?_)
  clear hK K
  refine norm_ (a' := ?_) ?_ ?_
  rotate_left
  · show Act.put _ (some 13) _ = _
    simp only [Act.put, List.setIfInBounds_toArray, List.set_cons_zero, List.set_cons_succ, i64_w, i32_w]
    rfl
  refine one_ (i := 9) (N := some 18) #[true, true, true, true, true, true, true, true, true, true, true, true, true, true, false, true, true, true, true, false, false, false, false] rfl rfl (one_of HT_.out (by kernel_rfl)) (by decide) (fun K hK => ?_)
  refine goes_ Try.func62 (by kernel_rfl) rfl #[.int .i64 a0_1, .int .i64 a1_1] (by rfl) rfl rfl (by (try simp only [List.map_toArray, List.map_cons, List.map_nil]); first | done | rfl | (simp only [List.length_drop, List.length_take]; rfl) | (go_simp; done) | (go_simp; simp; done)) ?_
  with_reducible refine (cmp_Compare_int64.calls a0_1 a1_1 t111 _ A4.out).mono ?_
  rintro e w' ⟨rfl, ⟨nd, rfl⟩⟩
  refine ⟨_, rfl, ?_⟩
  refine hK.out _ _ ⟨(blk_cell BK108.out 0).trans rfl, (blk_cell BK108.out 1).trans rfl, (blk_cell BK108.out 2).trans rfl, (blk_cell BK108.out 3).trans rfl, (blk_cell BK108.out 4).trans rfl, (blk_cell BK109.out 0).trans rfl, (blk_cell BK109.out 1).trans rfl, (blk_cell BK109.out 2).trans rfl, (blk_cell BK109.out 3).trans rfl, (blk_cell BK109.out 4).trans rfl⟩ (fun hHeld => ?_)
  clear hK K
  refine norm_ (a' := ?_) ?_ ?_
  rotate_left
  · show Act.put _ (some 18) _ = _
    simp only [Act.put, List.setIfInBounds_toArray, List.set_cons_zero, List.set_cons_succ, i64_w, i32_w]
    rfl
  refine one_ (i := 14) (N := some 23) #[true, true, true, true, true, true, true, true, true, true, true, true, true, true, true, true, true, true, true, false, false, false, false] rfl rfl (one_of HT_.out (by kernel_rfl)) (by decide) (fun K hK => ?_)
  refine goes_ Try.func63 (by kernel_rfl) rfl #[.string a0_2, .string a1_2] (by rfl) rfl rfl (by (try simp only [List.map_toArray, List.map_cons, List.map_nil]); first | done | rfl | (simp only [List.length_drop, List.length_take]; rfl) | (go_simp; done) | (go_simp; simp; done)) ?_
  with_reducible refine (cmp_Compare_string.calls a0_2 a1_2 t112 _ A5.out).mono ?_
  rintro e w' ⟨rfl, ⟨nd, rfl⟩⟩
  refine ⟨_, rfl, ?_⟩
  refine hK.out _ _ ⟨(blk_cell BK108.out 0).trans rfl, (blk_cell BK108.out 1).trans rfl, (blk_cell BK108.out 2).trans rfl, (blk_cell BK108.out 3).trans rfl, (blk_cell BK108.out 4).trans rfl, (blk_cell BK109.out 0).trans rfl, (blk_cell BK109.out 1).trans rfl, (blk_cell BK109.out 2).trans rfl, (blk_cell BK109.out 3).trans rfl, (blk_cell BK109.out 4).trans rfl⟩ (fun hHeld => ?_)
  clear hK K
  refine norm_ (a' := ?_) ?_ ?_
  rotate_left
  · show Act.put _ (some 23) _ = _
    simp only [Act.put, List.setIfInBounds_toArray, List.set_cons_zero, List.set_cons_succ, i64_w, i32_w]
    rfl
  refine one_ (i := 19) (N := some 28) #[true, true, true, true, true, true, true, true, true, true, true, true, true, true, true, true, true, true, true, true, false, false, false] rfl rfl (one_of HT_.out (by kernel_rfl)) (by decide) (fun K hK => ?_)
  refine goes_ Try.func61 (by kernel_rfl) rfl #[.int .i64 a0_3, .int .i64 a1_3] (by rfl) rfl rfl (by (try simp only [List.map_toArray, List.map_cons, List.map_nil]); first | done | rfl | (simp only [List.length_drop, List.length_take]; rfl) | (go_simp; done) | (go_simp; simp; done)) ?_
  with_reducible refine (cmp_Compare_int.calls a0_3 a1_3 t113 _ A6.out).mono ?_
  rintro e w' ⟨rfl, ⟨nd, rfl⟩⟩
  refine ⟨_, rfl, ?_⟩
  refine hK.out _ _ ⟨(blk_cell BK108.out 0).trans rfl, (blk_cell BK108.out 1).trans rfl, (blk_cell BK108.out 2).trans rfl, (blk_cell BK108.out 3).trans rfl, (blk_cell BK108.out 4).trans rfl, (blk_cell BK109.out 0).trans rfl, (blk_cell BK109.out 1).trans rfl, (blk_cell BK109.out 2).trans rfl, (blk_cell BK109.out 3).trans rfl, (blk_cell BK109.out 4).trans rfl⟩ (fun hHeld => ?_)
  clear hK K
  refine norm_ (a' := ?_) ?_ ?_
  rotate_left
  · show Act.put _ (some 28) _ = _
    simp only [Act.put, List.setIfInBounds_toArray, List.set_cons_zero, List.set_cons_succ, i64_w, i32_w]
    rfl
  refine one_ (i := 20) (N := some 29) #[true, true, true, true, true, true, true, true, true, true, true, true, true, true, true, true, true, true, true, true, true, false, false] rfl rfl (one_of HT_.out (by kernel_rfl)) (by decide) (fun K hK => ?_)
  refine Kd.R_lit_step (Kd.int .i64) _ 3 ?hg (N := 29) ?hd (xs := ([t110, t111, t112, t113] : List Int)) (inner := [.int .i64 t110, .int .i64 t111, .int .i64 t112, .int .i64 t113]) (ok := fun _ => True) (okp := fun _ => True) ?hr ?hp (fun _ hk => hk) trivial (Below.refl _ _) (Nat.le_refl _) (by simp) ?_; (case hd => rfl); (case hg => rfl); (case hr => first | (go_simp; done) | (go_simp; rfl)); (case hp => exact (Reps.one (show Kd.M (Kd.int .i64) _ _ _ t110 [.int .i64 t110] from rfl) (Reps.one (show Kd.M (Kd.int .i64) _ _ _ t111 [.int .i64 t111] from rfl) (Reps.one (show Kd.M (Kd.int .i64) _ _ _ t112 [.int .i64 t112] from rfl) (Reps.one (show Kd.M (Kd.int .i64) _ _ _ t113 [.int .i64 t113] from rfl) (Reps.none _ _))))))
  intro v115 w13 ho14 hb hg_ hnew_
  clear hg_ hnew_
  (first | rw [← Ny114.out] at ho14 | (simp only [Int.reduceToNat] at ho14; rw [← Ny114.out] at ho14))
  have n0_ := Aside0.mk (Kd.R_lower ho14 (below_size (by repeat (first | (with_reducible first | exact HB.out | apply below_alloc | apply pw_below_drewN | apply below_drew1 | refine below_set ?_ GE108.out | refine below_set ?_ GE109.out) | exact HB.out))))
  have n1_ := Aside0.mk (blk_below (g := gb108) (o := .cells #[.int .i64 a0_0, .int .i64 a0_1, .string a0_2, .int .i64 a0_3, .slice A0_4 l0_4.length c0_4] 35 (0, 0)) (by (with_reducible repeat (first | refine blk_drewN ?_ _ | refine blk_drew ?_ | refine blk_alloc ?_ _)); exact BK108.out) hb)
  have n2_ := Aside0.mk (blk_below (g := gb109) (o := .cells #[.int .i64 a1_0, .int .i64 a1_1, .string a1_2, .int .i64 a1_3, .slice A1_4 l1_4.length c1_4] 35 (0, 0)) (by (with_reducible repeat (first | refine blk_drewN ?_ _ | refine blk_drew ?_ | refine blk_alloc ?_ _)); exact BK109.out) hb)
  have n3_ := Aside0.mk (below_step (by repeat (first | (with_reducible first | exact HB.out | apply below_alloc | apply pw_below_drewN | apply below_drew1 | refine below_set ?_ GE108.out | refine below_set ?_ GE109.out) | exact HB.out)) hb)
  clear BK108
  clear BK109
  clear HB
  have HO116 := n0_
  have BK108 := n1_
  have BK109 := n2_
  have HB := n3_
  clear n0_ n1_ n2_ n3_
  clear hb ho14
  obtain ⟨Ao15, co15, eo15⟩ := Kd.R_slice HO116.out
  (first | subst eo15 | (injection eo15 with f1_ f2_ f3_; have f4_ := f1_.symm; have f5_ := f3_.symm; clear f1_ f2_ f3_; subst f4_; subst f5_))
  refine hK.out _ _ ⟨(blk_cell BK108.out 0).trans rfl, (blk_cell BK108.out 1).trans rfl, (blk_cell BK108.out 2).trans rfl, (blk_cell BK108.out 3).trans rfl, (blk_cell BK108.out 4).trans rfl, (blk_cell BK109.out 0).trans rfl, (blk_cell BK109.out 1).trans rfl, (blk_cell BK109.out 2).trans rfl, (blk_cell BK109.out 3).trans rfl, (blk_cell BK109.out 4).trans rfl⟩ (fun hHeld => ?_)
  clear hK K
  refine norm_ (a' := ?_) ?_ ?_
  rotate_left
  · show Act.put _ (some 29) _ = _
    simp only [Act.put, List.setIfInBounds_toArray, List.set_cons_zero, List.set_cons_succ, i64_w, i32_w]
    rfl
  refine one_ (i := 21) (N := some 30) #[true, true, true, true, true, true, true, true, true, true, true, true, true, true, true, true, true, true, true, true, true, true, false] rfl rfl (one_of HT_.out (by kernel_rfl)) (by decide) (fun K hK => ?_)
  refine goes_ Try.func60 (by kernel_rfl) rfl #[.slice Ao15 y114.length co15] (by rfl) rfl rfl (by (try simp only [List.map_toArray, List.map_cons, List.map_nil]); first | done | rfl | (simp only [List.length_drop, List.length_take]; rfl) | (go_simp; done) | (go_simp; simp; done)) ?_
  with_reducible refine (cmp_Or_int.calls k _ _ y114 t117 _ ?side1 ?side2 A7.out).mono ?_
  (case side1 => repeat (first | exact (Kd.R_reads' HO116.out).2.2 | (with_reducible refine Kd.C_alloc ?_ _) | (with_reducible refine Kd.C_drewN ?_ _) | (with_reducible refine Kd.C_drew ?_)))
  (case side2 => exact (Kd.R_reads' HO116.out).2.1)
  rintro e w' ⟨rfl, ⟨nd, rfl⟩⟩
  refine ⟨_, rfl, ?_⟩
  refine hK.out _ _ ⟨(blk_cell BK108.out 0).trans rfl, (blk_cell BK108.out 1).trans rfl, (blk_cell BK108.out 2).trans rfl, (blk_cell BK108.out 3).trans rfl, (blk_cell BK108.out 4).trans rfl, (blk_cell BK109.out 0).trans rfl, (blk_cell BK109.out 1).trans rfl, (blk_cell BK109.out 2).trans rfl, (blk_cell BK109.out 3).trans rfl, (blk_cell BK109.out 4).trans rfl⟩ (fun hHeld => ?_)
  clear hK K
  refine norm_ (a' := ?_) ?_ ?_
  rotate_left
  · show Act.put _ (some 30) _ = _
    simp only [Act.put, List.setIfInBounds_toArray, List.set_cons_zero, List.set_cons_succ, i64_w, i32_w]
    rfl
  refine pure_ (i := 22) (N := some 5) (v := ?_) (a' := ?_) #[true, true, true, true, true, true, true, true, true, true, true, true, true, true, true, true, true, true, true, true, true, true, true] rfl rfl (any_of HT_.out (by kernel_rfl)) (fun _ _ _ h => h) (Or.inl ⟨by rfl, ?_⟩) ?_ ?_
  rotate_left
  · intro w'
    go_simp
    with_reducible rfl
  rotate_left
  · simp only [Act.put, List.setIfInBounds_toArray, List.set_cons_zero, List.set_cons_succ, i64_w, i32_w]
    rfl
  refine done_ (done_of HT_.out (by kernel_rfl)) ?_
  have HB3 : Below w1.heap.size w1 (w13.drewN nd) := by apply pw_below_drewN; exact HB.out
  have B8 := blk_drewN BK108.out nd
  have B9 := blk_drewN BK109.out nd
  obtain ⟨w3, hw3⟩ : ∃ w3, w3 = w13.drewN nd := ⟨_, rfl⟩
  rw [← hw3] at HB3 B8 B9 ⊢
  have R3 : w3.heap[gr]? = some (.cells #[.int .i64 0] 3 (0, 0)) := (HB3.block gr (Array.getElem?_eq_some_iff.1 HBR.out).1).trans HBR.out
  have hbw : Below w.heap.size w w3 := HBW.out.trans (HB3.mono HBW.out.size)
  clear hw3 HB3 BK108 BK109 HB HBR HBW hHeld
  have BK108 := Aside0.mk B8
  have BK109 := Aside0.mk B9
  have BKR := Aside0.mk R3
  have HB := Aside0.mk hbw
  clear B8 B9 R3 hbw
  have H := HH.out
  clear HH
  by_cases c8 : t117 = 0
  · rw [if_pos c8] at H
    have c8b0 : (t117 == 0) = true := beq_iff_eq.mpr c8
    have c8b1 : (t117 != 0) = false := bne_eq_false_iff_eq.mpr c8
    clear c8
    have hc8 : w3.cell? ⟨gb108, 4, none⟩ = some (.slice A0_4 l0_4.length c0_4) := (blk_cell BK108.out 4).trans rfl
    have hc9 : w3.cell? ⟨gb109, 4, none⟩ = some (.slice A1_4 l1_4.length c1_4) := (blk_cell BK109.out 4).trans rfl
    have hf8 := blk_frozen BK108.out 4
    have hf9 := blk_frozen BK109.out 4
    have HH := Aside0.mk H
    clear H
    go_wp2
    obtain ⟨w4, hw4⟩ : ∃ w4, w4 = (w3.alloc (Obj.cells #[.slice A0_4 l0_4.length c0_4] 33)).alloc (Obj.cells #[.slice A1_4 l1_4.length c1_4] 33) := ⟨_, rfl⟩
    have hs4 : w4.heap.size = w3.heap.size + 2 := by rw [hw4]; simp
    have HB34 : Below w3.heap.size w3 w4 := by rw [hw4]; exact ((Below.refl _ w3).alloc (Nat.le_refl _) _).alloc (by simp) _
    have hb1 : w4.cell? ⟨w3.heap.size, 0, none⟩ = some (.slice A0_4 l0_4.length c0_4) := by rw [hw4]; exact ((Boxed.new w3 33 (.slice A0_4 l0_4.length c0_4)).alloc _).cell
    have hb2 : w4.cell? ⟨w3.heap.size + 1, 0, none⟩ = some (.slice A1_4 l1_4.length c1_4) := by
      have h_ := (Boxed.new (w3.alloc (Obj.cells #[.slice A0_4 l0_4.length c0_4] 33)) 33 (.slice A1_4 l1_4.length c1_4)).cell
      rw [World.size_alloc] at h_
      rw [hw4]
      exact h_
    rw [← hw4]
    clear hw4
    have B8 := (HB34.block gb108 (Array.getElem?_eq_some_iff.1 BK108.out).1).trans BK108.out
    have B9 := (HB34.block gb109 (Array.getElem?_eq_some_iff.1 BK109.out).1).trans BK109.out
    have BR := (HB34.block gr (Array.getElem?_eq_some_iff.1 BKR.out).1).trans BKR.out
    have hlR : gr < w4.heap.size := (Array.getElem?_eq_some_iff.1 BR).1
    have HB4 : Below w.heap.size w w4 := HB.out.trans (HB34.mono HB.out.size)
    obtain ⟨es1, he1, hra1⟩ := row_of (Kd.C_below HR0_4.out HB4)
    obtain ⟨es2, he2, hra2⟩ := row_of (Kd.C_below HR1_4.out HB4)
    have H := HH.out
    clear HH
    by_cases hlen : l0_4.length ≤ 9223372036854775807 ∧ l1_4.length ≤ 9223372036854775807
    case neg => rw [if_neg hlen] at H; exact absurd H (by simp)
    rw [if_pos hlen] at H
    obtain ⟨cs, Hz, H2⟩ := Option.bind_eq_some_iff.mp H
    obtain ⟨hcs, hdef⟩ := zipAll_out _ _ _ _ Hz
    have hn1 := hra1.1
    have hn2 := hra2.1
    have hlen1 := hlen.1
    have hlen2 := hlen.2
    have Hra1 : RowAt w4 A0_4 es1.length es1 := hn1 ▸ hra1
    have Hra2 : RowAt w4 A1_4 es2.length es2 := hn2 ▸ hra2
    have hb1' := hn1 ▸ hb1
    have hb2' := hn2 ▸ hb2
    have hD : ∀ p ∈ es1.zip es2, ∃ c, value_Compare.f k p.1.x.f0 p.1.x.f1 p.1.x.f2 p.1.x.f3 p.1.x.f4 p.2.x.f0 p.2.x.f1 p.2.x.f2 p.2.x.f3 p.2.x.f4 = some c := by
      intro p hp
      have := hdef (p.1.x, p.2.x) (by rw [← he1, ← he2, List.zip_map]; exact List.mem_map.2 ⟨p, hp, rfl⟩)
      exact this
    have HP := pairs_stops w3.heap.size (w3.heap.size + 1) w4 A0_4 A1_4 c0_4 c1_4 es1 es2 Hra1 Hra2 (by omega) (by omega) (by omega) (by omega) hb1' hb2' (fun p => ∃ c, value_Compare.f k p.1.x.f0 p.1.x.f1 p.1.x.f2 p.1.x.f3 p.1.x.f4 p.2.x.f0 p.2.x.f1 p.2.x.f2 p.2.x.f3 p.2.x.f4 = some c) hD
    have HFIN := Aside0.mk (And.intro he1 (And.intro he2 (And.intro hcs H2)))
    clear he1 he2 hcs H2 Hz hdef hn1 hn2 hlen1 hlen2 hlen Hra1 Hra2 hra1 hra2 hb1 hb2 hb1' hb2' hD hc8 hc9 hf8 hf9 HB34 BK108 BK109 BKR
    have HH4 := Aside0.mk HB4
    have HLR := Aside0.mk hlR
    clear HB4 hlR
    refine (wpIn_wide (n := 4)).1 ?_
    refine wpIn_rangeFunc_ownH (n := 4) rfl (by omega) (gf := 87) (lb := #[.pointer (some ⟨w3.heap.size, 0, none⟩), .pointer (some ⟨w3.heap.size + 1, 0, none⟩)]) rfl trivial (enters_of Try.func87 (by kernel_rfl) rfl)
      HP belowK_t (belowK_b (Nat.le_refl _)) (Below.refl _ _) (fun _ => rfl)
      (fun pre W => firstNZ (pre.map fun p => gvl (fun x y => value_Compare.f k x.f0 x.f1 x.f2 x.f3 x.f4 y.f0 y.f1 y.f2 y.f3 y.f4) (p.1.1.x, p.1.2.x)) = 0 ∧ Aside0 (W.heap[gb108]? = some (.cells #[.int .i64 a0_0, .int .i64 a0_1, .string a0_2, .int .i64 a0_3, .slice A0_4 l0_4.length c0_4] 35 (0, 0))) ∧ Aside0 (W.heap[gb109]? = some (.cells #[.int .i64 a1_0, .int .i64 a1_1, .string a1_2, .int .i64 a1_3, .slice A1_4 l1_4.length c1_4] 35 (0, 0))) ∧ Aside0 (W.heap[gr]? = some (.cells #[.int .i64 0] 3 (0, 0))) ∧ Aside0 (Below w4.heap.size w4 W))
      (fun c pre W => c = .ret ∧ ∃ v, v ≠ 0 ∧ firstNZ (pre.map fun p => gvl (fun x y => value_Compare.f k x.f0 x.f1 x.f2 x.f3 x.f4 y.f0 y.f1 y.f2 y.f3 y.f4) (p.1.1.x, p.1.2.x)) = v ∧ Aside0 (W.heap[gr]? = some (.cells #[.int .i64 v] 3 (0, 0))) ∧ Aside0 (Below w.heap.size w W))
      ?hI ?hIx ⟨rfl, ⟨B8⟩, ⟨B9⟩, ⟨BR⟩, ⟨Below.refl _ _⟩⟩
      (fun x a' W => ∃ Bx By, Aside0 (w4.heap.size ≤ Bx) ∧ Aside0 (w4.heap.size ≤ By) ∧ Aside0 (W.heap[Bx]? = some (.cells #[.int .i64 x.1.1.x.f0, .int .i64 x.1.1.x.f1, .string x.1.1.x.f2, .int .i64 x.1.1.x.f3, .slice x.1.1.A x.1.1.x.f4.length x.1.1.c] 35 (0, 0))) ∧ Aside0 (W.heap[By]? = some (.cells #[.int .i64 x.1.2.x.f0, .int .i64 x.1.2.x.f1, .string x.1.2.x.f2, .int .i64 x.1.2.x.f3, .slice x.1.2.A x.1.2.x.f4.length x.1.2.c] 35 (0, 0))) ∧ a' = { tmps := #[.agg #[.int .i64 a0_0, .int .i64 a0_1, .string a0_2, .int .i64 a0_3, .slice A0_4 l0_4.length c0_4], .agg #[.int .i64 a1_0, .int .i64 a1_1, .string a1_2, .int .i64 a1_3, .slice A1_4 l1_4.length c1_4], .pointer (some ⟨gb108, 0, none⟩), .pointer (some ⟨gb109, 0, none⟩), .pointer (some ⟨gr, 0, none⟩), .int .i64 t117, .pointer (some ⟨Bx, 0, none⟩), .pointer (some ⟨By, 0, none⟩), undef, .pointer (some ⟨gb108, 0, none⟩), .int .i64 a0_0, .pointer (some ⟨gb109, 0, none⟩), .int .i64 a1_0, .int .i64 t110, .pointer (some ⟨gb108, 1, none⟩), .int .i64 a0_1, .pointer (some ⟨gb109, 1, none⟩), .int .i64 a1_1, .int .i64 t111, .pointer (some ⟨gb108, 2, none⟩), .string a0_2, .pointer (some ⟨gb109, 2, none⟩), .string a1_2, .int .i64 t112, .pointer (some ⟨gb108, 3, none⟩), .int .i64 a0_3, .pointer (some ⟨gb109, 3, none⟩), .int .i64 a1_3, .int .i64 t113, .slice Ao15 y114.length co15, .int .i64 t117, .int .i64 t117, .bool false, undef, .pointer (some ⟨gb108, 4, none⟩), .slice A0_4 l0_4.length c0_4, .pointer (some ⟨gb109, 4, none⟩), .slice A1_4 l1_4.length c1_4, .func (.func 87) #[] #[.pointer (some ⟨w3.heap.size, 0, none⟩), .pointer (some ⟨w3.heap.size + 1, 0, none⟩)], x.1.1.v, x.1.2.v, undef, undef, undef, undef, undef, undef, undef, undef, undef, undef, undef, undef, undef], defers := [] })
      ?hAx ?assign ?body ?done ?stop
    case hI => exact fun s X Y row hs hg hr => ⟨hs.1, blk_from hs.2.1 hg hr, blk_from hs.2.2.1 hg hr, blk_from hs.2.2.2.1 hg hr, below_from hs.2.2.2.2 (Nat.le_refl _) (Nat.le_refl _) hg hr⟩
    case hIx =>
      rintro c s X Y row ⟨hc, v, hv, hf, hb, hw⟩ hg hr
      exact ⟨hc, v, hv, hf, blk_from hb hg hr, below_from hw (Nat.le_refl _) HH4.out.size hg hr⟩
    case hAx =>
      rintro x a' s X Y row ⟨Bx, By, gx, gy, bx, by_, ha⟩ hg hr
      exact ⟨Bx, By, gx, gy, blk_from bx hg hr, blk_from by_ hg hr, ha⟩
    case assign =>
      rintro l pre x W K ⟨h0, h8, h9, hR, hB⟩ hK
      have hsz := Aside0.mk hB.out.size
      simp only [El.v]
      gi_wp2
      have hsz2 := hsz.out
      refine hK _ _ (((KeepsOthers.alloc _ _).trans (KeepsOthers.alloc _ _)).from _) (((Below.refl _ W).alloc hsz2 _).alloc (by rw [World.size_alloc]; omega) _) ⟨h0, ⟨blk_alloc (blk_alloc h8.out _) _⟩, ⟨blk_alloc (blk_alloc h9.out _) _⟩, ⟨blk_alloc (blk_alloc hR.out _) _⟩, ⟨(hB.out.alloc hsz2 _).alloc (by rw [World.size_alloc]; omega) _⟩⟩ ⟨W.heap.size, W.heap.size + 1, ⟨hsz2⟩, ⟨by omega⟩, ⟨blk_alloc (World.alloc_heap_new W _) _⟩, ⟨?_⟩, rfl⟩
      have h_ := World.alloc_heap_new (W.alloc (Obj.cells #[.int .i64 x.1.1.x.f0, .int .i64 x.1.1.x.f1, .string x.1.1.x.f2, .int .i64 x.1.1.x.f3, .slice x.1.1.A x.1.1.x.f4.length x.1.1.c] 35)) (Obj.cells #[.int .i64 x.1.2.x.f0, .int .i64 x.1.2.x.f1, .string x.1.2.x.f2, .int .i64 x.1.2.x.f3, .slice x.1.2.A x.1.2.x.f4.length x.1.2.c] 35)
      rw [World.size_alloc] at h_
      exact h_
    case body =>
      rintro l pre ⟨⟨ex, ey⟩, c, hc⟩ a' W hl hrec ⟨h0, h8, h9, hR, hB⟩ ⟨Bx, By, gx, gy, bx, by_, rfl⟩ hlt
      have hsz := Aside0.mk hB.out.size
      have hx0 : W.cell? ⟨Bx, 0, none⟩ = some (.int .i64 ex.x.f0) := (blk_cell bx.out 0).trans rfl
      have hx1 : W.cell? ⟨Bx, 1, none⟩ = some (.int .i64 ex.x.f1) := (blk_cell bx.out 1).trans rfl
      have hx2 : W.cell? ⟨Bx, 2, none⟩ = some (.string ex.x.f2) := (blk_cell bx.out 2).trans rfl
      have hx3 : W.cell? ⟨Bx, 3, none⟩ = some (.int .i64 ex.x.f3) := (blk_cell bx.out 3).trans rfl
      have hx4 : W.cell? ⟨Bx, 4, none⟩ = some (.slice ex.A ex.x.f4.length ex.c) := (blk_cell bx.out 4).trans rfl
      have hy0 : W.cell? ⟨By, 0, none⟩ = some (.int .i64 ey.x.f0) := (blk_cell by_.out 0).trans rfl
      have hy1 : W.cell? ⟨By, 1, none⟩ = some (.int .i64 ey.x.f1) := (blk_cell by_.out 1).trans rfl
      have hy2 : W.cell? ⟨By, 2, none⟩ = some (.string ey.x.f2) := (blk_cell by_.out 2).trans rfl
      have hy3 : W.cell? ⟨By, 3, none⟩ = some (.int .i64 ey.x.f3) := (blk_cell by_.out 3).trans rfl
      have hy4 : W.cell? ⟨By, 4, none⟩ = some (.slice ey.A ey.x.f4.length ey.c) := (blk_cell by_.out 4).trans rfl
      have hd : 1 ≤ 4 - 1 - 1 := by omega
      have HC := Aside0.mk hc
      have HI0 := Aside0.mk h0
      clear h0 hlt
      have hlR := Aside0.mk (Array.getElem?_eq_some_iff.1 hR.out).1
      by_cases hcz : c = 0
      · subst hcz
        gi_wp2
        refine ⟨trivial, ?_⟩
        refine (CallsIn.inRound l (callsIn_wide.2 (ih k (by omega) ex.x.f0 ex.x.f1 ex.x.f2 ex.x.f3 ex.A ex.c ex.x.f4 ey.x.f0 ey.x.f1 ey.x.f2 ey.x.f3 ey.A ey.c ey.x.f4 0 _ (Kd.C_below ex.rd hB.out) ex.le (Kd.C_below ey.rd hB.out) ey.le HC.out))).mono ?_
        rintro e W3 ⟨rfl, hb3_⟩
        have hb3 := Aside0.mk hb3_
        clear hb3_
        dsimp only
        gi_wp2
        have hb3' := hb3.out
        refine ⟨keeps_of_below hb3', hb3'.mono hsz.out, ?_, ⟨(hb3'.block gb108 (Array.getElem?_eq_some_iff.1 h8.out).1).trans h8.out⟩, ⟨(hb3'.block gb109 (Array.getElem?_eq_some_iff.1 h9.out).1).trans h9.out⟩, ⟨(hb3'.block gr hlR.out).trans hR.out⟩, ⟨hB.out.trans (hb3'.mono hsz.out)⟩⟩
        rw [List.map_append, List.map_cons, List.map_nil, firstNZ_snoc, if_pos HI0.out]
        show (value_Compare.f k ex.x.f0 ex.x.f1 ex.x.f2 ex.x.f3 ex.x.f4 ey.x.f0 ey.x.f1 ey.x.f2 ey.x.f3 ey.x.f4).getD 0 = 0
        rw [HC.out]
        rfl
      · have hcz1 : (c != 0) = true := bne_iff_ne.mpr hcz
        have hcz0 : (c == 0) = false := beq_eq_false_iff_ne.mpr hcz
        have HCZ := Aside0.mk hcz
        clear hcz
        gi_wp2
        refine ⟨trivial, ?_⟩
        refine (CallsIn.inRound l (callsIn_wide.2 (ih k (by omega) ex.x.f0 ex.x.f1 ex.x.f2 ex.x.f3 ex.A ex.c ex.x.f4 ey.x.f0 ey.x.f1 ey.x.f2 ey.x.f3 ey.A ey.c ey.x.f4 c _ (Kd.C_below ex.rd hB.out) ex.le (Kd.C_below ey.rd hB.out) ey.le HC.out))).mono ?_
        rintro e W3 ⟨rfl, hb3_⟩
        have hb3 := Aside0.mk hb3_
        have hR3 := Aside0.mk ((hb3_.block gr hlR.out).trans hR.out)
        have hcR : W3.cell? ⟨gr, 0, none⟩ = some (.int .i64 0) := (blk_cell hR3.out 0).trans rfl
        have hfR := blk_frozen hR3.out 0
        clear hb3_
        dsimp only
        gi_wp2
        have hb3' := hb3.out
        refine ⟨(keeps_of_below hb3').trans ((KeepsOthers.setCell _ _ _).from _), rfl, c, HCZ.out, ?_, ⟨Boxed.set (.int .i64 c) (show Boxed W3 gr 3 (.int .i64 0) from hR3.out)⟩, ⟨?_⟩⟩
        · rw [List.map_append, List.map_cons, List.map_nil, firstNZ_snoc, if_pos HI0.out]
          show (value_Compare.f k ex.x.f0 ex.x.f1 ex.x.f2 ex.x.f3 ex.x.f4 ey.x.f0 ey.x.f1 ey.x.f2 ey.x.f3 ey.x.f4).getD 0 = c
          rw [HC.out]
          rfl
        · exact ((HH4.out.trans (hB.out.mono HH4.out.size)).trans (hb3'.mono (Nat.le_trans HH4.out.size hsz.out))).setCell (p := ⟨gr, 0, none⟩) HG.out.1 _
    case done =>
      rintro D ys W hD hys ⟨h0, h8, h9, hR, hB⟩ hK
      obtain ⟨he1, he2, hcs, H2⟩ := HFIN.out
      have h0' : firstNZ cs = 0 := by
        rw [hcs, ← he1, ← he2, List.zip_map, ← hys, List.map_map, List.map_map]
        exact h0
      rw [if_pos h0'] at H2
      have HC := Aside0.mk H2
      have HK := Aside0.mk hK
      have HD := Aside0.mk hD
      clear he1 he2 hcs H2 h0' h0 hys hK hD
      have hc8 : W.cell? ⟨gb108, 4, none⟩ = some (.slice A0_4 l0_4.length c0_4) := (blk_cell h8.out 4).trans rfl
      have hc9 : W.cell? ⟨gb109, 4, none⟩ = some (.slice A1_4 l1_4.length c1_4) := (blk_cell h9.out 4).trans rfl
      have hf8 := blk_frozen h8.out 4
      have hf9 := blk_frozen h9.out 4
      go_wp2_with (first | ((with_reducible refine gate_callee (f := 61) rfl ?_); refine goesL_ (some 53) rfl rfl Try.func61 (by kernel_rfl) rfl #[.int .i64 (l0_4.length : Int), .int .i64 (l1_4.length : Int)] rfl (by (try simp only [List.map_toArray, List.map_cons, List.map_nil]); first | done | rfl | (go_simp; done) | (go_simp; simp; done)) ?_; (with_reducible refine (cmp_Compare_int.calls (l0_4.length : Int) (l1_4.length : Int) r _ HC.out).mono ?_); rintro e w' ⟨rfl, ⟨nd, rfl⟩⟩; refine ⟨_, rfl, ?_⟩; have hR3 := Aside0.mk (blk_drewN hR.out nd); have hcR : (W.drewN nd).cell? ⟨gr, 0, none⟩ = some (.int .i64 0) := (blk_cell hR3.out 0).trans rfl; have hfR := blk_frozen hR3.out 0))
      have hbd : Below W.heap.size W (W.drewN nd) := by apply pw_below_drewN; exact Below.refl _ _
      have hKd := (hbd.block D (Array.getElem?_eq_some_iff.1 HK.out).1).trans HK.out
      have HB5 : Below w.heap.size w (W.drewN nd) := by apply pw_below_drewN; exact HH4.out.trans (hB.out.mono HH4.out.size)
      have hK' := (KeepsOthers.setCell (W.drewN nd) ⟨gr, 0, none⟩ (.int .i64 r)).same D _ hKd rfl
      have hc5 := cell_kept (World.cell?_setCell_same' (W.drewN nd) ⟨gr, 0, none⟩ (.int .i64 r) (by rw [hcR]; rfl)) (grownBy_putObj' _ D (.deferred none)) (fun r e => by cases e; exact ⟨_, hK', rfl⟩)
      show LeavesInM Fence.wide 5 Try.prog Try.f40 _ _ _ .returning _
      refine ⟨by simp, .inl ⟨_, _, rfl, run_takeDeferred hK', ?_⟩⟩
      refine ⟨.int .i64 r, ?_, rfl, (HB5.setCell (p := ⟨gr, 0, none⟩) HG.out.1 _).trans (belowK_b (w := w) (Nat.le_refl _) _ D _ _ (Nat.le_trans HH4.out.size HD.out) hK' rfl rfl)⟩
      simp [results, Try.f40, go_sem, hc5]
    case stop =>
      rintro D c pre W hD hpre ⟨rfl, v, hv, hf, hR, hB⟩ hK
      obtain ⟨he1, he2, hcs, H2⟩ := HFIN.out
      have hfull : firstNZ cs = v := by
        rw [← hf]
        refine firstNZ_prefix ?_ (by rw [hf]; exact hv)
        rw [hcs, ← he1, ← he2, List.zip_map, List.map_map]
        have := hpre.map (fun p : El w4 × El w4 => gvl (fun x y => value_Compare.f k x.f0 x.f1 x.f2 x.f3 x.f4 y.f0 y.f1 y.f2 y.f3 y.f4) (p.1.x, p.2.x))
        rw [List.map_map] at this
        exact this
      rw [hfull, if_neg hv] at H2
      obtain rfl := Option.some.inj H2
      clear he1 he2 hcs H2 hfull hv hf hpre
      refine wpIn_wide.2 ?_
      go_wp2
      have hc5 := cell_kept ((blk_cell hR.out 0).trans (show (#[Value.int .i64 v])[0]? = some (.int .i64 v) from rfl)) (grownBy_putObj' _ D (.deferred none)) (fun r e => by cases e; exact ⟨_, hK, rfl⟩)
      show LeavesInM Fence.wide 5 Try.prog Try.f40 _ _ _ .returning _
      refine ⟨by simp, .inl ⟨_, _, rfl, run_takeDeferred hK, ?_⟩⟩
      refine ⟨.int .i64 v, ?_, rfl, hB.out.trans (belowK_b (w := w) (Nat.le_refl _) _ D _ _ (Nat.le_trans HH4.out.size hD) hK rfl rfl)⟩
      simp [results, Try.f40, go_sem, hc5]
  · rw [if_neg c8] at H
    obtain rfl := Option.some.inj H
    have c8b0 : (t117 == 0) = false := beq_eq_false_iff_ne.mpr c8
    have c8b1 : (t117 != 0) = true := bne_iff_ne.mpr c8
    clear c8
    have hcr := (blk_cell BKR.out 0).trans (show (#[Value.int .i64 0])[0]? = some (.int .i64 0) from rfl)
    have hfr := blk_frozen BKR.out 0
    go_wp2
    have hc5 := World.cell?_setCell_same' w3 ⟨gr, 0, none⟩ (.int .i64 t117) (by rw [hcr]; rfl)
    show ∃ v, (results Try.f40 _).run Try.prog _ = .ok v _ ∧ _
    refine ⟨.int .i64 t117, ?_, rfl, HB.out.setCell (p := ⟨gr, 0, none⟩) HG.out.1 _⟩
    simp [results, Try.f40, go_sem, hc5]
end Go.Proofs.Ytnokieaebnmljaa.PAll
/- Comparing values is an order: what value.Compare and the document's Compare reckon. -/
namespace Go.Proofs.Ytnokieaebnmljaa.PAll
open Go Go.Proofs Go.RowKit Go.Shelf Go.Proofs.YtnokieaebnmljaaW.PrintWords
set_option linter.unusedVariables false
def nz (a b : Int) : Int := if a = 0 then b else a
def ordI (a b : Int) : Int := if a < b then -1 else if a > b then 1 else 0
def ordB (a b : ByteArray) : Int := if Op.bytesLess a.toList b.toList = true then -1 else if a = b then 0 else 1
def lexL {α : Type} (c : α → α → Int) : List α → List α → Int
  | [], [] => 0
  | [], _ :: _ => -1
  | _ :: _, [] => 1
  | x :: xs, y :: ys => nz (c x y) (lexL c xs ys)
structure Lin {α : Type} (S : α → Prop) (c : α → α → Int) : Prop where
  rng : ∀ x y, c x y = -1 ∨ c x y = 0 ∨ c x y = 1
  eq : ∀ x y, S x → S y → c x y = 0 → x = y
  rf : ∀ x, S x → c x x = 0
  anti : ∀ x y, S x → S y → c y x = - c x y
  tr : ∀ x y z, S x → S y → S z → c x y = -1 → c y z = -1 → c x z = -1
theorem lin_ordI : Lin (fun _ => True) ordI where
  rng x y := by
    unfold ordI
    split
    · simp
    · split <;> simp
  eq x y _ _ h := by
    unfold ordI at h
    split at h
    · simp at h
    · split at h
      · simp at h
      · omega
  rf x _ := by simp [ordI]
  anti x y _ _ := by unfold ordI; split <;> split <;> (try split) <;> (try split) <;> omega
  tr x y z _ _ _ h1 h2 := by
    unfold ordI at *
    have a1 : x < y := by by_cases h : x < y; exact h; rw [if_neg h] at h1; split at h1 <;> simp at h1
    have a2 : y < z := by by_cases h : y < z; exact h; rw [if_neg h] at h2; split at h2 <;> simp at h2
    rw [if_pos (by omega)]
theorem ba_eq {a b : ByteArray} (h : a.toList = b.toList) : a = b := by
  rw [Lib.toList_data, Lib.toList_data] at h
  cases a; cases b
  congr
  exact Array.ext' h
theorem lin_ordB : Lin (fun _ => True) ordB where
  rng x y := by
    unfold ordB
    split
    · simp
    · split <;> simp
  eq x y _ _ h := by
    unfold ordB at h
    split at h
    · simp at h
    · split at h
      · assumption
      · simp at h
  rf x _ := by simp [ordB, Go.Proofs.bytesLess_eq, List.lt_irrefl]
  anti x y _ _ := by
    unfold ordB
    simp only [bytesLess_eq, decide_eq_true_eq]
    by_cases h1 : x.toList < y.toList
    · have h2 : ¬ y.toList < x.toList := List.lt_asymm h1
      have h3 : ¬ y = x := fun e => List.lt_irrefl _ (e ▸ h1)
      rw [if_pos h1, if_neg h2, if_neg h3]; rfl
    · by_cases h2 : y.toList < x.toList
      · have h3 : ¬ x = y := fun e => List.lt_irrefl _ (e ▸ h2)
        rw [if_pos h2, if_neg h1, if_neg h3]
      · have h3 : x = y := ba_eq (List.le_antisymm (List.not_lt.1 h2) (List.not_lt.1 h1))
        subst h3
        simp [h1]
  tr x y z _ _ _ h1 h2 := by
    unfold ordB at *
    simp only [bytesLess_eq, decide_eq_true_eq] at *
    have a1 : x.toList < y.toList := by by_cases h : x.toList < y.toList; exact h; rw [if_neg h] at h1; split at h1 <;> simp at h1
    have a2 : y.toList < z.toList := by by_cases h : y.toList < z.toList; exact h; rw [if_neg h] at h2; split at h2 <;> simp at h2
    rw [if_pos (List.lt_trans a1 a2)]
/-- One after the other. -/
theorem lin_pair {α β : Type} {S : α → Prop} {T : β → Prop} {c : α → α → Int} {d : β → β → Int} (hc : Lin S c) (hd : Lin T d) : Lin (fun p : α × β => S p.1 ∧ T p.2) (fun p q => nz (c p.1 q.1) (d p.2 q.2)) where
  rng x y := by unfold nz; split; exact hd.rng _ _; exact hc.rng _ _
  eq x y hx hy h := by
    unfold nz at h
    split at h
    · rename_i h0
      exact Prod.ext (hc.eq _ _ hx.1 hy.1 h0) (hd.eq _ _ hx.2 hy.2 h)
    · rename_i h0; exact absurd h h0
  rf x hx := by simp [nz, hc.rf _ hx.1, hd.rf _ hx.2]
  anti x y hx hy := by
    unfold nz
    rw [hc.anti _ _ hx.1 hy.1, hd.anti _ _ hx.2 hy.2]
    split <;> split <;> omega
  tr x y z hx hy hz h1 h2 := by
    unfold nz at *
    by_cases e1 : c x.1 y.1 = 0
    · rw [if_pos e1] at h1
      have ex := hc.eq _ _ hx.1 hy.1 e1
      by_cases e2 : c y.1 z.1 = 0
      · rw [if_pos e2] at h2
        rw [ex, if_pos e2]
        exact hd.tr _ _ _ hx.2 hy.2 hz.2 h1 h2
      · rw [if_neg e2] at h2
        rw [ex, if_neg e2]; exact h2
    · rw [if_neg e1] at h1
      by_cases e2 : c y.1 z.1 = 0
      · have ey := hc.eq _ _ hy.1 hz.1 e2
        rw [← ey, if_neg e1]; exact h1
      · rw [if_neg e2] at h2
        have := hc.tr _ _ _ hx.1 hy.1 hz.1 h1 h2
        rw [this]; simp
theorem lin_lex {α : Type} {S : α → Prop} {c : α → α → Int} (hc : Lin S c) : Lin (fun l : List α => ∀ x ∈ l, S x) (lexL c) where
  rng := by
    intro x
    induction x with
    | nil => intro y; cases y <;> simp [lexL]
    | cons a x ih => intro y; cases y with
      | nil => simp [lexL]
      | cons b y => simp only [lexL, nz]; split; exact ih y; exact hc.rng _ _
  eq := by
    intro x
    induction x with
    | nil => intro y _ _ h; cases y with | nil => rfl | cons b y => simp [lexL] at h
    | cons a x ih => intro y hx hy h; cases y with
      | nil => simp [lexL] at h
      | cons b y =>
        simp only [lexL, nz] at h
        split at h
        · rename_i h0
          rw [hc.eq a b (hx a (by simp)) (hy b (by simp)) h0, ih y (fun z hz => hx z (by simp [hz])) (fun z hz => hy z (by simp [hz])) h]
        · rename_i h0; exact absurd h h0
  rf := by
    intro x
    induction x with
    | nil => intro _; rfl
    | cons a x ih => intro hx; simp [lexL, nz, hc.rf a (hx a (by simp)), ih (fun z hz => hx z (by simp [hz]))]
  anti := by
    intro x
    induction x with
    | nil => intro y _ _; cases y <;> simp [lexL]
    | cons a x ih => intro y hx hy; cases y with
      | nil => simp [lexL]
      | cons b y =>
        simp only [lexL, nz]
        rw [hc.anti a b (hx a (by simp)) (hy b (by simp)), ih y (fun z hz => hx z (by simp [hz])) (fun z hz => hy z (by simp [hz]))]
        split <;> split <;> omega
  tr := by
    intro x
    induction x with
    | nil => intro y z _ _ _ h1 h2; cases y with
      | nil => simp [lexL] at h1
      | cons b y => cases z with
        | nil => simp [lexL] at h2
        | cons _ _ => rfl
    | cons a x ih => intro y z hx hy hz h1 h2; cases y with
      | nil => simp [lexL] at h1
      | cons b y => cases z with
        | nil => simp [lexL] at h2
        | cons e z =>
          simp only [lexL, nz] at *
          by_cases e1 : c a b = 0
          · rw [if_pos e1] at h1
            have ex := hc.eq _ _ (hx a (by simp)) (hy b (by simp)) e1
            subst ex
            by_cases e2 : c a e = 0
            · rw [if_pos e2] at h2 ⊢
              exact ih y z (fun z hz => hx z (by simp [hz])) (fun z hz => hy z (by simp [hz])) (fun w hw => hz w (by simp [hw])) h1 h2
            · rw [if_neg e2] at h2 ⊢; exact h2
          · rw [if_neg e1] at h1
            by_cases e2 : c b e = 0
            · have ey := hc.eq _ _ (hy b (by simp)) (hz e (by simp)) e2
              subst ey
              rw [if_neg e1]; exact h1
            · rw [if_neg e2] at h2
              have := hc.tr _ _ _ (hx a (by simp)) (hy b (by simp)) (hz e (by simp)) h1 h2
              rw [this]; simp
theorem lin_back {α β : Type} {S : β → Prop} {c : β → β → Int} (hc : Lin S c) (f : α → β) (hf : ∀ x y, f x = f y → x = y) : Lin (fun x => S (f x)) (fun x y => c (f x) (f y)) where
  rng x y := hc.rng _ _
  eq x y hx hy h := hf _ _ (hc.eq _ _ hx hy h)
  rf x hx := hc.rf _ hx
  anti x y hx hy := hc.anti _ _ hx hy
  tr x y z hx hy hz := hc.tr _ _ _ hx hy hz
theorem lin_sub {α : Type} {S T : α → Prop} {c : α → α → Int} (hc : Lin S c) (h : ∀ x, T x → S x) : Lin T c where
  rng x y := hc.rng _ _
  eq x y hx hy := hc.eq _ _ (h _ hx) (h _ hy)
  rf x hx := hc.rf _ (h _ hx)
  anti x y hx hy := hc.anti _ _ (h _ hx) (h _ hy)
  tr x y z hx hy hz := hc.tr _ _ _ (h _ hx) (h _ hy) (h _ hz)
/-- How deep a value is. -/
def dep : Nat → S35 → Prop
  | 0, _ => False
  | d + 1, v => ∀ x ∈ v.f4, dep d x
def cmpD : Nat → S35 → S35 → Int
  | 0, _, _ => 0
  | d + 1, x, y => nz (ordI x.f0 y.f0) (nz (ordI x.f1 y.f1) (nz (ordB x.f2 y.f2) (nz (ordI x.f3 y.f3) (lexL (cmpD d) x.f4 y.f4))))
theorem lin_cmpD : ∀ d, Lin (dep d) (cmpD d)
  | 0 => { rng := fun x y => by simp [cmpD], eq := fun x y h => h.elim, rf := fun x h => h.elim, anti := fun x y h => h.elim, tr := fun x y z h => h.elim }
  | d + 1 => lin_sub (lin_back (lin_pair lin_ordI (lin_pair lin_ordI (lin_pair lin_ordB (lin_pair lin_ordI (lin_lex (lin_cmpD d)))))) (fun v : S35 => (v.f0, v.f1, v.f2, v.f3, v.f4)) (fun x y h => by
      cases x; cases y
      simp only [Prod.mk.injEq] at h
      obtain ⟨rfl, rfl, rfl, rfl, rfl⟩ := h
      rfl)) (fun v hv => ⟨trivial, trivial, trivial, trivial, hv⟩)
end Go.Proofs.Ytnokieaebnmljaa.PAll
/- What value.Compare reckons is cmpD. -/
namespace Go.Proofs.Ytnokieaebnmljaa.PAll
open Go Go.Proofs Go.RowKit Go.Shelf Go.Proofs.YtnokieaebnmljaaW.PrintWords
set_option linter.unusedVariables false
set_option linter.unusedSimpArgs false
theorem cmpI (a b : Int) : cmp_Compare_int.f a b = some (ordI a b) := by
  unfold cmp_Compare_int.f cmp_isNaN_int.f ordI
  simp
  split
  · simp
  · split <;> simp
theorem cmpI64 (a b : Int) : cmp_Compare_int64.f a b = some (ordI a b) := by
  unfold cmp_Compare_int64.f cmp_isNaN_int64.f ordI
  simp
  split
  · simp
  · split <;> simp
theorem cmpS (a b : ByteArray) : cmp_Compare_string.f a b = some (ordB a b) := by
  unfold cmp_Compare_string.f cmp_isNaN_string.f ordB
  simp
  by_cases h : Op.bytesLess a.toList b.toList = true
  · simp [h]
  · by_cases e : a = b
    · subst e; simp [h]
    · have e' : ¬ a.toList = b.toList := fun h => e (ba_eq h)
      simp [h, e, e']
theorem cmpOr (a b c d : Int) (k : Nat) : cmp_Or_int.f (k + 6) [a, b, c, d] = some (nz a (nz b (nz c d))) := by
  unfold cmp_Or_int.f nz
  by_cases h1 : a = 0
  · by_cases h2 : b = 0
    · by_cases h3 : c = 0
      · by_cases h4 : d = 0
        · simp [cmp_Or_int.l0, rd, wrap64, h1, h2, h3, h4]
        · simp [cmp_Or_int.l0, rd, wrap64, h1, h2, h3, h4]
      · simp [cmp_Or_int.l0, rd, wrap64, h1, h2, h3]
    · simp [cmp_Or_int.l0, rd, wrap64, h1, h2]
  · simp [cmp_Or_int.l0, rd, wrap64, h1]
theorem zipAll_some {α : Type} {g : α → α → Option Int} {c : α → α → Int} : ∀ (xs ys : List α), (∀ x ∈ xs, ∀ y ∈ ys, g x y = some (c x y)) → zipAll g xs ys = some (List.zipWith c xs ys)
  | [], _, _ => by simp [zipAll]
  | _ :: _, [], _ => by simp [zipAll]
  | x :: xs, y :: ys, h => by
    unfold zipAll
    rw [h x (by simp) y (by simp), zipAll_some xs ys (fun a ha b hb => h a (by simp [ha]) b (by simp [hb]))]
    rfl
theorem lexL_zip {α : Type} (c : α → α → Int) : ∀ xs ys : List α, lexL c xs ys = if firstNZ (List.zipWith c xs ys) = 0 then ordI xs.length ys.length else firstNZ (List.zipWith c xs ys)
  | [], [] => by simp [lexL, firstNZ, ordI]
  | [], y :: ys => by
    simp only [lexL, firstNZ, List.zipWith_nil_left, if_true, ordI, List.length_nil, List.length_cons]
    rw [if_pos (by omega)]
  | x :: xs, [] => by
    simp only [lexL, firstNZ, List.zipWith_nil_right, if_true, ordI, List.length_nil, List.length_cons]
    rw [if_neg (by omega), if_pos (by omega)]
  | x :: xs, y :: ys => by
    simp only [lexL, firstNZ, List.zipWith_cons_cons, nz, List.length_cons]
    by_cases h : c x y = 0
    · simp only [h, if_true]
      rw [lexL_zip c xs ys]
      have e : ordI ((xs.length + 1 : Nat) : Int) ((ys.length + 1 : Nat) : Int) = ordI (xs.length : Int) (ys.length : Int) := by
        unfold ordI
        simp only [Int.natCast_add, Int.natCast_one]
        repeat' split
        all_goals omega
      rw [e]
    · simp only [if_neg h]
/-- Not deeper than d, and no wider than may be. -/
def dw : Nat → S35 → Prop
  | 0, _ => False
  | d + 1, v => v.f4.length ≤ 1000 ∧ ∀ x ∈ v.f4, dw d x
theorem dw_dep : ∀ d v, dw d v → dep d v
  | 0, _, h => h
  | d + 1, v, h => fun x hx => dw_dep d x (h.2 x hx)
theorem compare_cmpD : ∀ (d k : Nat) (x y : S35), d + 6 ≤ k → dw d x → dw d y → value_Compare.f k x.f0 x.f1 x.f2 x.f3 x.f4 y.f0 y.f1 y.f2 y.f3 y.f4 = some (cmpD d x y)
  | 0, _, _, _, _, h, _ => h.elim
  | d + 1, k, x, y, hk, hx, hy => by
    obtain ⟨k, rfl⟩ : ∃ j, k = j + 6 + 1 := ⟨k - 7, by omega⟩
    unfold value_Compare.f
    simp only [cmpI, cmpI64, cmpS, Option.bind_some, cmpOr]
    have hz := zipAll_some (c := cmpD d) x.f4 y.f4 (fun a ha b hb => compare_cmpD d (k + 6) a b (by omega) (hx.2 a ha) (hy.2 b hb))
    have hlx := hx.1
    have hly := hy.1
    simp only [hz, Option.bind_some, cmpD, nz]
    rw [if_pos (show x.f4.length ≤ 9223372036854775807 ∧ y.f4.length ≤ 9223372036854775807 from ⟨by omega, by omega⟩), lexL_zip]
    by_cases h0 : ordI x.f0 y.f0 = 0 <;> by_cases h1 : ordI x.f1 y.f1 = 0 <;> by_cases h2 : ordB x.f2 y.f2 = 0 <;> by_cases h3 : ordI x.f3 y.f3 = 0 <;> simp only [h0, h1, h2, h3, if_true, if_false] <;> (try split) <;> (try simp_all)
end Go.Proofs.Ytnokieaebnmljaa.PAll
-- Laid by a program of this seat (wip/xprint.py over the kit's print).
namespace Go.Proofs.Ytnokieaebnmljaa.PAll
open Go.RowKit Go.Proofs.YtnokieaebnmljaaW.PrintWords Go.Proofs.YtnokieaebnmljaaW.PrintLast Go.Proofs.YtnokieaebnmljaaW.PrintMore
attribute [local go_sem] max2_int min2_int max_two min_two max_three min_three max_four min_four   -- for this text's walks alone
set_option linter.unusedVariables false
set_option linter.unusedSimpArgs false

/-! ### windlassref3_order: function 65 -/
def windlassref3_order.f (a0 : Bool) (a1 : Bool) : Option (Int) := if a0 = true then (some (-1)) else (if a1 = true then (some 1) else (some 0))
set_option maxHeartbeats 8000000 in
set_option maxRecDepth 100000 in
theorem windlassref3_order.calls (a0 : Bool) (a1 : Bool) (r : Int) (w : World) (h : windlassref3_order.f a0 a1 = some r) :
    Calls Try.prog 65 #[.bool a0, .bool a1] w fun e w' => e = .returned (.int .i64 r) ∧ Drawn0 w w' := by
  have H : (if a0 = true then (some (-1)) else (if a1 = true then (some 1) else (some 0))) = some r := h
  clear h
  by_cases c3 : a0 = true
  · subst c3
    have H1 : (some (-1)) = some r := by rw [if_pos rfl] at H; exact H
    clear H
    have H := H1
    clear H1
    obtain rfl := Option.some.inj H
    go_enter Try.func65, Try.ntmps65
    go_wp2
    go_ret
    exact ⟨by first | rfl | (simp; done) | (simp [*]; done), by repeat (first | exact Drawn0.refl _ | apply Drawn0.step)⟩
  · replace c3 := Bool.eq_false_iff.mpr c3
    subst c3
    have H1 : (if a1 = true then (some 1) else (some 0)) = some r := by rw [if_neg (show ¬ (false = true) by decide)] at H; exact H
    clear H
    have H := H1
    clear H1
    by_cases c4 : a1 = true
    · subst c4
      have H1 : (some 1) = some r := by rw [if_pos rfl] at H; exact H
      clear H
      have H := H1
      clear H1
      obtain rfl := Option.some.inj H
      go_enter Try.func65, Try.ntmps65
      go_wp2
      go_ret
      exact ⟨by first | rfl | (simp; done) | (simp [*]; done), by repeat (first | exact Drawn0.refl _ | apply Drawn0.step)⟩
    · replace c4 := Bool.eq_false_iff.mpr c4
      subst c4
      have H1 : (some 0) = some r := by rw [if_neg (show ¬ (false = true) by decide)] at H; exact H
      clear H
      have H := H1
      clear H1
      obtain rfl := Option.some.inj H
      go_enter Try.func65, Try.ntmps65
      go_wp2
      go_ret
      exact ⟨by first | rfl | (simp; done) | (simp [*]; done), by repeat (first | exact Drawn0.refl _ | apply Drawn0.step)⟩

end Go.Proofs.Ytnokieaebnmljaa.PAll
-- Laid by a program of this seat (wip/xprint.py over the kit's print).
namespace Go.Proofs.Ytnokieaebnmljaa.PAll
open Go.RowKit Go.Proofs.YtnokieaebnmljaaW.PrintWords Go.Proofs.YtnokieaebnmljaaW.PrintLast Go.Proofs.YtnokieaebnmljaaW.PrintMore
attribute [local go_sem] max2_int min2_int max_two min_two max_three min_three max_four min_four   -- for this text's walks alone
set_option linter.unusedVariables false
set_option linter.unusedSimpArgs false

/-! ### windlassref3_Compare: function 45 -/
mutual
def windlassref3_Compare.j0 : Nat → Int → Int → Int → ByteArray → Int → List (S35) → Int → Int → ByteArray → Int → List (S35) → Option (Int)
 | 0,_,_,_,_,_,_,_,_,_,_,_ => none
 | k + 1,x5,x244000,x244001,x244002,x244003,x244004,x245000,x245001,x245002,x245003,x245004 => if x5 = 0 then ((windlassref3_order.f (Op.bytesLess x244002.toList x245002.toList) (!Op.bytesLess x244002.toList x245002.toList && !(x244002.toList == x245002.toList))).bind fun t247 => (windlassref3_Compare.j1 k t247 x244000 x244001 x244002 x244003 x244004 x245000 x245001 x245002 x245003 x245004)) else (windlassref3_Compare.j1 k x5 x244000 x244001 x244002 x244003 x244004 x245000 x245001 x245002 x245003 x245004)
def windlassref3_Compare.j1 : Nat → Int → Int → Int → ByteArray → Int → List (S35) → Int → Int → ByteArray → Int → List (S35) → Option (Int)
 | 0,_,_,_,_,_,_,_,_,_,_,_ => none
 | k + 1,x5,x244000,x244001,x244002,x244003,x244004,x245000,x245001,x245002,x245003,x245004 => if x5 = 0 then ((windlassref3_order.f (decide (x244003 < x245003)) (decide (x244003 > x245003))).bind fun t248 => (windlassref3_Compare.j2 k t248 x244000 x244001 x244002 x244003 x244004 x245000 x245001 x245002 x245003 x245004)) else (windlassref3_Compare.j2 k x5 x244000 x244001 x244002 x244003 x244004 x245000 x245001 x245002 x245003 x245004)
def windlassref3_Compare.j2 : Nat → Int → Int → Int → ByteArray → Int → List (S35) → Int → Int → ByteArray → Int → List (S35) → Option (Int)
 | 0,_,_,_,_,_,_,_,_,_,_,_ => none
 | k + 1,x5,x244000,x244001,x244002,x244003,x244004,x245000,x245001,x245002,x245003,x245004 => windlassref3_Compare.l0 k x5 0 x244000 x244001 x244002 x244003 x244004 x245000 x245001 x245002 x245003 x245004
def windlassref3_Compare.l0 : Nat → Int → Int → Int → Int → ByteArray → Int → List (S35) → Int → Int → ByteArray → Int → List (S35) → Option (Int)
 | 0,_,_,_,_,_,_,_,_,_,_,_,_ => none
 | k + 1,x5,x6,x244000,x244001,x244002,x244003,x244004,x245000,x245001,x245002,x245003,x245004 => if x6 < (x244004.length : Int) then (if x6 < (x245004.length : Int) then (if x5 = 0 then (if 0 ≤ x6 then ((windlassref3_Compare.f k ((rd_T35 x244004 x6).f0) ((rd_T35 x244004 x6).f1) ((rd_T35 x244004 x6).f2) ((rd_T35 x244004 x6).f3) ((rd_T35 x244004 x6).f4) ((rd_T35 x245004 x6).f0) ((rd_T35 x245004 x6).f1) ((rd_T35 x245004 x6).f2) ((rd_T35 x245004 x6).f3) ((rd_T35 x245004 x6).f4)).bind fun t251 => (windlassref3_Compare.l0 k t251 (wrap64 (x6 + 1)) x244000 x244001 x244002 x244003 x244004 x245000 x245001 x245002 x245003 x245004)) else (none)) else (some x5)) else (if x5 = 0 then ((windlassref3_order.f (decide ((x244004.length : Int) < (x245004.length : Int))) (decide ((x244004.length : Int) > (x245004.length : Int)))).bind fun t252 => (some t252)) else (some x5))) else (if x5 = 0 then ((windlassref3_order.f (decide ((x244004.length : Int) < (x245004.length : Int))) (decide ((x244004.length : Int) > (x245004.length : Int)))).bind fun t253 => (some t253)) else (some x5))
def windlassref3_Compare.f : Nat → Int → Int → ByteArray → Int → List (S35) → Int → Int → ByteArray → Int → List (S35) → Option (Int)
 | 0,_,_,_,_,_,_,_,_,_,_ => none
 | k + 1,a0_0,a0_1,a0_2,a0_3,l0_4,a1_0,a1_1,a1_2,a1_3,l1_4 => (windlassref3_order.f (decide (a0_0 < a1_0)) (decide (a0_0 > a1_0))).bind fun t245 => (if t245 = 0 then ((windlassref3_order.f (decide (a0_1 < a1_1)) (decide (a0_1 > a1_1))).bind fun t246 => (windlassref3_Compare.j0 k t246 a0_0 a0_1 a0_2 a0_3 l0_4 a1_0 a1_1 a1_2 a1_3 l1_4)) else (windlassref3_Compare.j0 k t245 a0_0 a0_1 a0_2 a0_3 l0_4 a1_0 a1_1 a1_2 a1_3 l1_4))
end
def windlassref3_Compare.T11 : Bool × List (List Nat × List Nat):=(true,[([],[]),([0],[0]),([],[]),([1,2],[1,2]),([3],[3]),([],[]),([5],[5]),([],[]),([6,7],[6,7]),([8],[8]),([4,9],[4,9]),([10,10,0,1,2,3,4,5,6,7,8,9,10],[10])])
def windlassref3_Compare.B11 : List Nat:=[0,1,0,7,15,0,32,0,224,480,1023,2047]
theorem windlassref3_Compare.tab11 : rtab .any (opsOf Try.f45 11) = windlassref3_Compare.T11:=by kernel_rfl
theorem windlassref3_Compare.bits11 : waitsOk windlassref3_Compare.T11.2 windlassref3_Compare.B11 = true:=by kernel_rfl
set_option maxHeartbeats 8000000 in
set_option maxRecDepth 100000 in
theorem windlassref3_Compare.calls (k : Nat) : ∀ (a0_0 : Int) (a0_1 : Int) (a0_2 : ByteArray) (a0_3 : Int) (A0_4 : Option Addr) (c0_4 : Nat) (l0_4 : List (S35)) (a1_0 : Int) (a1_1 : Int) (a1_2 : ByteArray) (a1_3 : Int) (A1_4 : Option Addr) (c1_4 : Nat) (l1_4 : List (S35)) (r : Int) (w : World) (hr0_4 : Kd.C k35 w A0_4 l0_4.length l0_4) (hc0_4 : l0_4.length ≤ c0_4) (hr1_4 : Kd.C k35 w A1_4 l1_4.length l1_4) (hc1_4 : l1_4.length ≤ c1_4) (h : windlassref3_Compare.f k a0_0 a0_1 a0_2 a0_3 l0_4 a1_0 a1_1 a1_2 a1_3 l1_4 = some r),
  Calls Try.prog 45 #[.agg #[.int .i64 a0_0, .int .i64 a0_1, .string a0_2, .int .i64 a0_3, .slice A0_4 l0_4.length c0_4], .agg #[.int .i64 a1_0, .int .i64 a1_1, .string a1_2, .int .i64 a1_3, .slice A1_4 l1_4.length c1_4]] w fun e w' => e = .returned (.int .i64 r) ∧ Below w.heap.size w w':=by
 induction k using Nat.strongRecOn with
 | _ k ih =>
 intro a0_0 a0_1 a0_2 a0_3 A0_4 c0_4 l0_4 a1_0 a1_1 a1_2 a1_3 A1_4 c1_4 l1_4 r w hr0_4 hc0_4 hr1_4 hc1_4 h
 cases k with
 | zero => exact absurd h (by simp [windlassref3_Compare.f])
 | succ k =>
 simp only [windlassref3_Compare.f] at h
 have hu35:=Try.underlying35
 have HR0_4:=Aside0.mk hr0_4
 have HC0_4:=Aside0.mk hc0_4
 clear hr0_4 hc0_4
 have HR1_4:=Aside0.mk hr1_4
 have HC1_4:=Aside0.mk hc1_4
 clear hr1_4 hc1_4
 have HB:=Aside0.mk (Below.refl w.heap.size w)
 have H : ((windlassref3_order.f (decide (a0_0 < a1_0)) (decide (a0_0 > a1_0))).bind fun t245 => (if t245 = 0 then ((windlassref3_order.f (decide (a0_1 < a1_1)) (decide (a0_1 > a1_1))).bind fun t246 => (windlassref3_Compare.j0 k t246 a0_0 a0_1 a0_2 a0_3 l0_4 a1_0 a1_1 a1_2 a1_3 l1_4)) else (windlassref3_Compare.j0 k t245 a0_0 a0_1 a0_2 a0_3 l0_4 a1_0 a1_1 a1_2 a1_3 l1_4))) = some r:=h
 clear h
 replace H:=Option.bind_eq_some_iff.mp H
 obtain ⟨t245,A30,H⟩:=H
 replace H : (if t245 = 0 then ((windlassref3_order.f (decide (a0_1 < a1_1)) (decide (a0_1 > a1_1))).bind fun t246 => (windlassref3_Compare.j0 k t246 a0_0 a0_1 a0_2 a0_3 l0_4 a1_0 a1_1 a1_2 a1_3 l1_4)) else (windlassref3_Compare.j0 k t245 a0_0 a0_1 a0_2 a0_3 l0_4 a1_0 a1_1 a1_2 a1_3 l1_4)) = some r:=H
 have A3:=Aside0.mk A30
 clear A30
 have HC4:=Aside0.mk H
 clear H
 go_enter Try.func45,Try.ntmps45
 go_upto_if 19 with (first|((with_reducible refine gate_dst (N:=2) rfl ?_);(try (refine gate_guard (by rfl) ?_;dsimp only));refine box_event ?hg (N:=2) ?hd (cs:=#[.int .i64 a0_0, .int .i64 a0_1, .string a0_2, .int .i64 a0_3, .slice A0_4 l0_4.length c0_4]) (t:=35) ?hr ?_;(case hd => rfl);(case hg => rfl);(case hr => first|(go_simp;done)|(go_simp;rfl));intro gb243 hg w5 hbox hb;have BK243:=Aside0.mk (hbox);have GW243:=Aside0.mk ((by rw [hg];exact (below_size (bL0 HB)) : w.heap.size ≤ gb243));have GE243:=Aside0.mk ((by rw [hg];exact (below_size (bL0 HB)) : w.heap.size ≤ gb243));replace HB:=bS HB hb;clear hb hbox hg)|((with_reducible refine gate_dst (N:=3) rfl ?_);(try (refine gate_guard (by rfl) ?_;dsimp only));refine box_event ?hg (N:=3) ?hd (cs:=#[.int .i64 a1_0, .int .i64 a1_1, .string a1_2, .int .i64 a1_3, .slice A1_4 l1_4.length c1_4]) (t:=35) ?hr ?_;(case hd => rfl);(case hg => rfl);(case hr => first|(go_simp;done)|(go_simp;rfl));intro gb244 hg w6 hbox hb;have BK244:=Aside0.mk (hbox);have GW244:=Aside0.mk ((by rw [hg];exact (below_size (bL1 HB GE243)) : w.heap.size ≤ gb244));have GE244:=Aside0.mk ((by rw [hg];exact (below_size (bL1 HB GE243)) : w.heap.size ≤ gb244));replace HB:=Aside0.mk (below_step (bL1 HB GE243) hb);have NB243_244:=Aside0.mk ((by rw [hg];exact Nat.ne_of_lt (blk_lt (bK BK243)) : gb243 ≠ gb244));have NB244_243:=Aside0.mk ((by rw [hg];exact Nat.ne_of_gt (blk_lt (bK BK243)) : gb244 ≠ gb243));replace BK243:=bB BK243 hb;clear hb hbox hg;have hnb7:=NB243_244.out;have hnc7:=NB244_243.out;have hcz8_0 : w6.cell? ⟨gb243,0,none⟩ = some (.int .i64 a0_0):=(blk_cell BK243.out 0).trans rfl;have hcz8_1 : w6.cell? ⟨gb243,1,none⟩ = some (.int .i64 a0_1):=(blk_cell BK243.out 1).trans rfl;have hcz8_2 : w6.cell? ⟨gb243,2,none⟩ = some (.string a0_2):=(blk_cell BK243.out 2).trans rfl;have hcz8_3 : w6.cell? ⟨gb243,3,none⟩ = some (.int .i64 a0_3):=(blk_cell BK243.out 3).trans rfl;have hcz8_4 : w6.cell? ⟨gb243,4,none⟩ = some (.slice A0_4 l0_4.length c0_4):=(blk_cell BK243.out 4).trans rfl;have hfz8_0:=blk_frozen BK243.out 0;have hfz8_1:=blk_frozen BK243.out 1;have hfz8_2:=blk_frozen BK243.out 2;have hfz8_3:=blk_frozen BK243.out 3;have hfz8_4:=blk_frozen BK243.out 4;have hcz9_0 : w6.cell? ⟨gb244,0,none⟩ = some (.int .i64 a1_0):=(blk_cell BK244.out 0).trans rfl;have hcz9_1 : w6.cell? ⟨gb244,1,none⟩ = some (.int .i64 a1_1):=(blk_cell BK244.out 1).trans rfl;have hcz9_2 : w6.cell? ⟨gb244,2,none⟩ = some (.string a1_2):=(blk_cell BK244.out 2).trans rfl;have hcz9_3 : w6.cell? ⟨gb244,3,none⟩ = some (.int .i64 a1_3):=(blk_cell BK244.out 3).trans rfl;have hcz9_4 : w6.cell? ⟨gb244,4,none⟩ = some (.slice A1_4 l1_4.length c1_4):=(blk_cell BK244.out 4).trans rfl;have hfz9_0:=blk_frozen BK244.out 0;have hfz9_1:=blk_frozen BK244.out 1;have hfz9_2:=blk_frozen BK244.out 2;have hfz9_3:=blk_frozen BK244.out 3;have hfz9_4:=blk_frozen BK244.out 4)|((with_reducible refine gate_callee (f:=65) rfl ?_);refine goesL_ (some 17) rfl rfl Try.func65 (by kernel_rfl) rfl #[.bool (decide (a0_0 < a1_0)), .bool (decide (a0_0 > a1_0))] rfl aG ?_;(with_reducible refine (windlassref3_order.calls (decide (a0_0 < a1_0)) (decide (a0_0 > a1_0)) t245 _ A3.out).mono ?_);rintro e w' ⟨rfl,⟨nd,rfl⟩⟩;refine ⟨_,rfl,?_⟩))
 (try go_frame)
 go_cut [5] (fun v5 wc => ∃ (kq : Nat) (x5_3 : Int),v5 = .int .i64 x5_3 ∧ Aside0 (windlassref3_Compare.j0 kq x5_3 a0_0 a0_1 a0_2 a0_3 l0_4 a1_0 a1_1 a1_2 a1_3 l1_4 = some r) ∧ Aside0 (kq ≤ k) ∧ Aside0 (wc.heap[gb243]? = some (.cells #[.int .i64 a0_0, .int .i64 a0_1, .string a0_2, .int .i64 a0_3,(.slice A0_4 l0_4.length c0_4)] 35 (0,0))) ∧ Aside0 (wc.heap[gb244]? = some (.cells #[.int .i64 a1_0, .int .i64 a1_1, .string a1_2, .int .i64 a1_3,(.slice A1_4 l1_4.length c1_4)] 35 (0,0))) ∧ Aside0 (Below w.heap.size w wc))
 case first =>
  have H:=HC4.out
  clear HC4
  by_cases c10 : t245 = 0
  ·rw [if_pos c10] at H
   have c10b0 : (t245 == 0) = true:=beq_iff_eq.mpr c10
   have c10b1 : (t245 != 0) = false:=bne_eq_false_iff_eq.mpr c10
   clear c10
   (first|rw [c10b0]|(simp only [i64_w,i32_w];rw [c10b0])|skip)
   replace H:=Option.bind_eq_some_iff.mp H
   obtain ⟨t246,A110,H⟩:=H
   replace H : (windlassref3_Compare.j0 k t246 a0_0 a0_1 a0_2 a0_3 l0_4 a1_0 a1_1 a1_2 a1_3 l1_4) = some r:=H
   have A11:=Aside0.mk A110
   clear A110
   have H':=Aside0.mk H
   clear H
   have hnb12:=NB243_244.out
   have hnc12:=NB244_243.out
   have hcz13_0 : w6.cell? ⟨gb243,0,none⟩ = some (.int .i64 a0_0):=(blk_cell BK243.out 0).trans rfl
   have hcz13_1 : w6.cell? ⟨gb243,1,none⟩ = some (.int .i64 a0_1):=(blk_cell BK243.out 1).trans rfl
   have hcz13_2 : w6.cell? ⟨gb243,2,none⟩ = some (.string a0_2):=(blk_cell BK243.out 2).trans rfl
   have hcz13_3 : w6.cell? ⟨gb243,3,none⟩ = some (.int .i64 a0_3):=(blk_cell BK243.out 3).trans rfl
   have hcz13_4 : w6.cell? ⟨gb243,4,none⟩ = some (.slice A0_4 l0_4.length c0_4):=(blk_cell BK243.out 4).trans rfl
   have hfz13_0:=blk_frozen BK243.out 0
   have hfz13_1:=blk_frozen BK243.out 1
   have hfz13_2:=blk_frozen BK243.out 2
   have hfz13_3:=blk_frozen BK243.out 3
   have hfz13_4:=blk_frozen BK243.out 4
   have hcz14_0 : w6.cell? ⟨gb244,0,none⟩ = some (.int .i64 a1_0):=(blk_cell BK244.out 0).trans rfl
   have hcz14_1 : w6.cell? ⟨gb244,1,none⟩ = some (.int .i64 a1_1):=(blk_cell BK244.out 1).trans rfl
   have hcz14_2 : w6.cell? ⟨gb244,2,none⟩ = some (.string a1_2):=(blk_cell BK244.out 2).trans rfl
   have hcz14_3 : w6.cell? ⟨gb244,3,none⟩ = some (.int .i64 a1_3):=(blk_cell BK244.out 3).trans rfl
   have hcz14_4 : w6.cell? ⟨gb244,4,none⟩ = some (.slice A1_4 l1_4.length c1_4):=(blk_cell BK244.out 4).trans rfl
   have hfz14_0:=blk_frozen BK244.out 0
   have hfz14_1:=blk_frozen BK244.out 1
   have hfz14_2:=blk_frozen BK244.out 2
   have hfz14_3:=blk_frozen BK244.out 3
   have hfz14_4:=blk_frozen BK244.out 4
   go_wp2_with (first|((with_reducible refine gate_callee (f:=65) rfl ?_);refine goesL_ (some 30) rfl rfl Try.func65 (by kernel_rfl) rfl #[.bool (decide (a0_1 < a1_1)), .bool (decide (a0_1 > a1_1))] rfl aG ?_;(with_reducible refine (windlassref3_order.calls (decide (a0_1 < a1_1)) (decide (a0_1 > a1_1)) t246 _ A11.out).mono ?_);rintro e w' ⟨rfl,⟨nd,rfl⟩⟩;refine ⟨_,rfl,?_⟩))
   go_meet
   case rel => exact ⟨_,(t246),(by first|rfl|(simp;done)|(simp [*];done)),H',⟨by first|omega|exact Nat.le_refl _⟩,⟨by (with_reducible repeat (first|refine blk_drewN ?_ _|refine blk_drew ?_|refine blk_alloc ?_ _));exact BK243.out⟩,⟨by (with_reducible repeat (first|refine blk_drewN ?_ _|refine blk_drew ?_|refine blk_alloc ?_ _));exact BK244.out⟩,⟨by repeat (first|(with_reducible first|exact HB.out|apply below_alloc|apply pw_below_drewN|apply below_drew1|refine below_set ?_ GE243.out|refine below_set ?_ GE244.out)|exact HB.out)⟩⟩
  rw [if_neg c10] at H
  have c10b0 : (t245 == 0) = false:=beq_eq_false_iff_ne.mpr c10
  have c10b1 : (t245 != 0) = true:=bne_iff_ne.mpr c10
  (first|rw [c10b0]|(simp only [i64_w,i32_w];rw [c10b0])|skip)
  have H':=Aside0.mk H
  clear H
  go_wp2
  go_meet
  case rel => exact ⟨_,(t245),(by first|rfl|(simp;done)|(simp [*];done)),H',⟨by first|omega|exact Nat.le_refl _⟩,⟨by (with_reducible repeat (first|refine blk_drewN ?_ _|refine blk_drew ?_|refine blk_alloc ?_ _));exact BK243.out⟩,⟨by (with_reducible repeat (first|refine blk_drewN ?_ _|refine blk_drew ?_|refine blk_alloc ?_ _));exact BK244.out⟩,⟨by repeat (first|(with_reducible first|exact HB.out|apply below_alloc|apply pw_below_drewN|apply below_drew1|refine below_set ?_ GE243.out|refine below_set ?_ GE244.out)|exact HB.out)⟩⟩
 case rest =>
  clear HC4
  try clear c1
  try clear p2
  try clear c4
  try clear c6
  try clear c7
  try clear c10
  try clear c10b0
  try clear c10b1
  try clear c12
  try clear hcz13_0
  try clear hcz13_1
  try clear hcz13_2
  try clear hcz13_3
  try clear hcz13_4
  try clear hcz14_0
  try clear hcz14_1
  try clear hcz14_2
  try clear hcz14_3
  try clear hcz14_4
  try clear hcz8_0
  try clear hcz8_1
  try clear hcz8_2
  try clear hcz8_3
  try clear hcz8_4
  try clear hcz9_0
  try clear hcz9_1
  try clear hcz9_2
  try clear hcz9_3
  try clear hcz9_4
  try clear hfz13_0
  try clear hfz13_1
  try clear hfz13_2
  try clear hfz13_3
  try clear hfz13_4
  try clear hfz14_0
  try clear hfz14_1
  try clear hfz14_2
  try clear hfz14_3
  try clear hfz14_4
  try clear hfz8_0
  try clear hfz8_1
  try clear hfz8_2
  try clear hfz8_3
  try clear hfz8_4
  try clear hfz9_0
  try clear hfz9_1
  try clear hfz9_2
  try clear hfz9_3
  try clear hfz9_4
  obtain ⟨kq,x5_3,rfl,HA,HJ3,BK243,BK244,HB⟩:=hcut
  cases kq with
  | zero => exact absurd HA.out (by simp [windlassref3_Compare.j0])
  | succ kj3 =>
   have H:=HA.out
   clear HA
   simp only [windlassref3_Compare.j0] at H
   have HC15:=Aside0.mk H
   clear H
   go_upto_if 32 with (fail)
   go_cut [5] (fun v5 wc => ∃ (kq : Nat) (x5_14 : Int),v5 = .int .i64 x5_14 ∧ Aside0 (windlassref3_Compare.j1 kq x5_14 a0_0 a0_1 a0_2 a0_3 l0_4 a1_0 a1_1 a1_2 a1_3 l1_4 = some r) ∧ Aside0 (kq ≤ kj3) ∧ Aside0 (wc.heap[gb243]? = some (.cells #[.int .i64 a0_0, .int .i64 a0_1, .string a0_2, .int .i64 a0_3,(.slice A0_4 l0_4.length c0_4)] 35 (0,0))) ∧ Aside0 (wc.heap[gb244]? = some (.cells #[.int .i64 a1_0, .int .i64 a1_1, .string a1_2, .int .i64 a1_3,(.slice A1_4 l1_4.length c1_4)] 35 (0,0))) ∧ Aside0 (Below w.heap.size w wc))
   case first =>
    have H:=HC15.out
    clear HC15
    by_cases c16 : x5_3 = 0
    ·rw [if_pos c16] at H
     have c16b0 : (x5_3 == 0) = true:=beq_iff_eq.mpr c16
     have c16b1 : (x5_3 != 0) = false:=bne_eq_false_iff_eq.mpr c16
     clear c16
     (first|rw [c16b0]|(simp only [i64_w,i32_w];rw [c16b0])|skip)
     replace H:=Option.bind_eq_some_iff.mp H
     obtain ⟨t247,A170,H⟩:=H
     replace H : (windlassref3_Compare.j1 kj3 t247 a0_0 a0_1 a0_2 a0_3 l0_4 a1_0 a1_1 a1_2 a1_3 l1_4) = some r:=H
     have A17:=Aside0.mk A170
     clear A170
     have H':=Aside0.mk H
     clear H
     have hnb18:=NB243_244.out
     have hnc18:=NB244_243.out
     have hcz19_0 : wc.cell? ⟨gb243,0,none⟩ = some (.int .i64 a0_0):=(blk_cell BK243.out 0).trans rfl
     have hcz19_1 : wc.cell? ⟨gb243,1,none⟩ = some (.int .i64 a0_1):=(blk_cell BK243.out 1).trans rfl
     have hcz19_2 : wc.cell? ⟨gb243,2,none⟩ = some (.string a0_2):=(blk_cell BK243.out 2).trans rfl
     have hcz19_3 : wc.cell? ⟨gb243,3,none⟩ = some (.int .i64 a0_3):=(blk_cell BK243.out 3).trans rfl
     have hcz19_4 : wc.cell? ⟨gb243,4,none⟩ = some (.slice A0_4 l0_4.length c0_4):=(blk_cell BK243.out 4).trans rfl
     have hfz19_0:=blk_frozen BK243.out 0
     have hfz19_1:=blk_frozen BK243.out 1
     have hfz19_2:=blk_frozen BK243.out 2
     have hfz19_3:=blk_frozen BK243.out 3
     have hfz19_4:=blk_frozen BK243.out 4
     have hcz20_0 : wc.cell? ⟨gb244,0,none⟩ = some (.int .i64 a1_0):=(blk_cell BK244.out 0).trans rfl
     have hcz20_1 : wc.cell? ⟨gb244,1,none⟩ = some (.int .i64 a1_1):=(blk_cell BK244.out 1).trans rfl
     have hcz20_2 : wc.cell? ⟨gb244,2,none⟩ = some (.string a1_2):=(blk_cell BK244.out 2).trans rfl
     have hcz20_3 : wc.cell? ⟨gb244,3,none⟩ = some (.int .i64 a1_3):=(blk_cell BK244.out 3).trans rfl
     have hcz20_4 : wc.cell? ⟨gb244,4,none⟩ = some (.slice A1_4 l1_4.length c1_4):=(blk_cell BK244.out 4).trans rfl
     have hfz20_0:=blk_frozen BK244.out 0
     have hfz20_1:=blk_frozen BK244.out 1
     have hfz20_2:=blk_frozen BK244.out 2
     have hfz20_3:=blk_frozen BK244.out 3
     have hfz20_4:=blk_frozen BK244.out 4
     go_wp2_with (first|((with_reducible refine gate_callee (f:=65) rfl ?_);refine goesL_ (some 43) rfl rfl Try.func65 (by kernel_rfl) rfl #[.bool (Op.bytesLess a0_2.toList a1_2.toList), .bool (!Op.bytesLess a0_2.toList a1_2.toList && !(a0_2.toList == a1_2.toList))] rfl aG ?_;(with_reducible refine (windlassref3_order.calls (Op.bytesLess a0_2.toList a1_2.toList) (!Op.bytesLess a0_2.toList a1_2.toList && !(a0_2.toList == a1_2.toList)) t247 _ A17.out).mono ?_);rintro e w' ⟨rfl,⟨nd,rfl⟩⟩;refine ⟨_,rfl,?_⟩))
     go_meet
     case rel => exact ⟨_,(t247),(by first|rfl|(simp;done)|(simp [*];done)),H',⟨by have:=HJ3.out;first|omega|exact Nat.le_refl _⟩,⟨by (with_reducible repeat (first|refine blk_drewN ?_ _|refine blk_drew ?_|refine blk_alloc ?_ _));exact BK243.out⟩,⟨by (with_reducible repeat (first|refine blk_drewN ?_ _|refine blk_drew ?_|refine blk_alloc ?_ _));exact BK244.out⟩,⟨by repeat (first|(with_reducible first|exact HB.out|apply below_alloc|apply pw_below_drewN|apply below_drew1|refine below_set ?_ GE243.out|refine below_set ?_ GE244.out)|exact HB.out)⟩⟩
    rw [if_neg c16] at H
    have c16b0 : (x5_3 == 0) = false:=beq_eq_false_iff_ne.mpr c16
    have c16b1 : (x5_3 != 0) = true:=bne_iff_ne.mpr c16
    (first|rw [c16b0]|(simp only [i64_w,i32_w];rw [c16b0])|skip)
    have H':=Aside0.mk H
    clear H
    go_wp2
    go_meet
    case rel => exact ⟨_,(x5_3),(by first|rfl|(simp;done)|(simp [*];done)),H',⟨by have:=HJ3.out;first|omega|exact Nat.le_refl _⟩,⟨by (with_reducible repeat (first|refine blk_drewN ?_ _|refine blk_drew ?_|refine blk_alloc ?_ _));exact BK243.out⟩,⟨by (with_reducible repeat (first|refine blk_drewN ?_ _|refine blk_drew ?_|refine blk_alloc ?_ _));exact BK244.out⟩,⟨by repeat (first|(with_reducible first|exact HB.out|apply below_alloc|apply pw_below_drewN|apply below_drew1|refine below_set ?_ GE243.out|refine below_set ?_ GE244.out)|exact HB.out)⟩⟩
   case rest =>
    clear HC15
    try clear c1
    try clear p2
    try clear c4
    try clear c6
    try clear c7
    try clear c10
    try clear c10b0
    try clear c10b1
    try clear c12
    try clear c16
    try clear c16b0
    try clear c16b1
    try clear c18
    try clear hcz13_0
    try clear hcz13_1
    try clear hcz13_2
    try clear hcz13_3
    try clear hcz13_4
    try clear hcz14_0
    try clear hcz14_1
    try clear hcz14_2
    try clear hcz14_3
    try clear hcz14_4
    try clear hcz19_0
    try clear hcz19_1
    try clear hcz19_2
    try clear hcz19_3
    try clear hcz19_4
    try clear hcz20_0
    try clear hcz20_1
    try clear hcz20_2
    try clear hcz20_3
    try clear hcz20_4
    try clear hcz8_0
    try clear hcz8_1
    try clear hcz8_2
    try clear hcz8_3
    try clear hcz8_4
    try clear hcz9_0
    try clear hcz9_1
    try clear hcz9_2
    try clear hcz9_3
    try clear hcz9_4
    try clear hfz13_0
    try clear hfz13_1
    try clear hfz13_2
    try clear hfz13_3
    try clear hfz13_4
    try clear hfz14_0
    try clear hfz14_1
    try clear hfz14_2
    try clear hfz14_3
    try clear hfz14_4
    try clear hfz19_0
    try clear hfz19_1
    try clear hfz19_2
    try clear hfz19_3
    try clear hfz19_4
    try clear hfz20_0
    try clear hfz20_1
    try clear hfz20_2
    try clear hfz20_3
    try clear hfz20_4
    try clear hfz8_0
    try clear hfz8_1
    try clear hfz8_2
    try clear hfz8_3
    try clear hfz8_4
    try clear hfz9_0
    try clear hfz9_1
    try clear hfz9_2
    try clear hfz9_3
    try clear hfz9_4
    try clear p2
    obtain ⟨kq,x5_14,rfl,HA,HJ14,BK243,BK244,HB⟩:=hcut
    cases kq with
    | zero => exact absurd HA.out (by simp [windlassref3_Compare.j1])
    | succ kj14 =>
     have H:=HA.out
     clear HA
     simp only [windlassref3_Compare.j1] at H
     have HC21:=Aside0.mk H
     clear H
     go_upto_if 45 with (fail)
     go_cut [5] (fun v5 wc => ∃ (kq : Nat) (x5_20 : Int),v5 = .int .i64 x5_20 ∧ Aside0 (windlassref3_Compare.j2 kq x5_20 a0_0 a0_1 a0_2 a0_3 l0_4 a1_0 a1_1 a1_2 a1_3 l1_4 = some r) ∧ Aside0 (kq ≤ kj14) ∧ Aside0 (wc.heap[gb243]? = some (.cells #[.int .i64 a0_0, .int .i64 a0_1, .string a0_2, .int .i64 a0_3,(.slice A0_4 l0_4.length c0_4)] 35 (0,0))) ∧ Aside0 (wc.heap[gb244]? = some (.cells #[.int .i64 a1_0, .int .i64 a1_1, .string a1_2, .int .i64 a1_3,(.slice A1_4 l1_4.length c1_4)] 35 (0,0))) ∧ Aside0 (Below w.heap.size w wc))
     case first =>
      have H:=HC21.out
      clear HC21
      by_cases c22 : x5_14 = 0
      ·rw [if_pos c22] at H
       have c22b0 : (x5_14 == 0) = true:=beq_iff_eq.mpr c22
       have c22b1 : (x5_14 != 0) = false:=bne_eq_false_iff_eq.mpr c22
       clear c22
       (first|rw [c22b0]|(simp only [i64_w,i32_w];rw [c22b0])|skip)
       replace H:=Option.bind_eq_some_iff.mp H
       obtain ⟨t248,A230,H⟩:=H
       replace H : (windlassref3_Compare.j2 kj14 t248 a0_0 a0_1 a0_2 a0_3 l0_4 a1_0 a1_1 a1_2 a1_3 l1_4) = some r:=H
       have A23:=Aside0.mk A230
       clear A230
       have H':=Aside0.mk H
       clear H
       have hnb24:=NB243_244.out
       have hnc24:=NB244_243.out
       have hcz25_0 : wc.cell? ⟨gb243,0,none⟩ = some (.int .i64 a0_0):=(blk_cell BK243.out 0).trans rfl
       have hcz25_1 : wc.cell? ⟨gb243,1,none⟩ = some (.int .i64 a0_1):=(blk_cell BK243.out 1).trans rfl
       have hcz25_2 : wc.cell? ⟨gb243,2,none⟩ = some (.string a0_2):=(blk_cell BK243.out 2).trans rfl
       have hcz25_3 : wc.cell? ⟨gb243,3,none⟩ = some (.int .i64 a0_3):=(blk_cell BK243.out 3).trans rfl
       have hcz25_4 : wc.cell? ⟨gb243,4,none⟩ = some (.slice A0_4 l0_4.length c0_4):=(blk_cell BK243.out 4).trans rfl
       have hfz25_0:=blk_frozen BK243.out 0
       have hfz25_1:=blk_frozen BK243.out 1
       have hfz25_2:=blk_frozen BK243.out 2
       have hfz25_3:=blk_frozen BK243.out 3
       have hfz25_4:=blk_frozen BK243.out 4
       have hcz26_0 : wc.cell? ⟨gb244,0,none⟩ = some (.int .i64 a1_0):=(blk_cell BK244.out 0).trans rfl
       have hcz26_1 : wc.cell? ⟨gb244,1,none⟩ = some (.int .i64 a1_1):=(blk_cell BK244.out 1).trans rfl
       have hcz26_2 : wc.cell? ⟨gb244,2,none⟩ = some (.string a1_2):=(blk_cell BK244.out 2).trans rfl
       have hcz26_3 : wc.cell? ⟨gb244,3,none⟩ = some (.int .i64 a1_3):=(blk_cell BK244.out 3).trans rfl
       have hcz26_4 : wc.cell? ⟨gb244,4,none⟩ = some (.slice A1_4 l1_4.length c1_4):=(blk_cell BK244.out 4).trans rfl
       have hfz26_0:=blk_frozen BK244.out 0
       have hfz26_1:=blk_frozen BK244.out 1
       have hfz26_2:=blk_frozen BK244.out 2
       have hfz26_3:=blk_frozen BK244.out 3
       have hfz26_4:=blk_frozen BK244.out 4
       go_wp2_with (first|((with_reducible refine gate_callee (f:=65) rfl ?_);refine goesL_ (some 56) rfl rfl Try.func65 (by kernel_rfl) rfl #[.bool (decide (a0_3 < a1_3)), .bool (decide (a0_3 > a1_3))] rfl aG ?_;(with_reducible refine (windlassref3_order.calls (decide (a0_3 < a1_3)) (decide (a0_3 > a1_3)) t248 _ A23.out).mono ?_);rintro e w' ⟨rfl,⟨nd,rfl⟩⟩;refine ⟨_,rfl,?_⟩))
       go_meet
       case rel => exact ⟨_,(t248),(by first|rfl|(simp;done)|(simp [*];done)),H',⟨by have:=HJ3.out;have:=HJ14.out;first|omega|exact Nat.le_refl _⟩,⟨by (with_reducible repeat (first|refine blk_drewN ?_ _|refine blk_drew ?_|refine blk_alloc ?_ _));exact BK243.out⟩,⟨by (with_reducible repeat (first|refine blk_drewN ?_ _|refine blk_drew ?_|refine blk_alloc ?_ _));exact BK244.out⟩,⟨by repeat (first|(with_reducible first|exact HB.out|apply below_alloc|apply pw_below_drewN|apply below_drew1|refine below_set ?_ GE243.out|refine below_set ?_ GE244.out)|exact HB.out)⟩⟩
      rw [if_neg c22] at H
      have c22b0 : (x5_14 == 0) = false:=beq_eq_false_iff_ne.mpr c22
      have c22b1 : (x5_14 != 0) = true:=bne_iff_ne.mpr c22
      (first|rw [c22b0]|(simp only [i64_w,i32_w];rw [c22b0])|skip)
      have H':=Aside0.mk H
      clear H
      go_wp2
      go_meet
      case rel => exact ⟨_,(x5_14),(by first|rfl|(simp;done)|(simp [*];done)),H',⟨by have:=HJ3.out;have:=HJ14.out;first|omega|exact Nat.le_refl _⟩,⟨by (with_reducible repeat (first|refine blk_drewN ?_ _|refine blk_drew ?_|refine blk_alloc ?_ _));exact BK243.out⟩,⟨by (with_reducible repeat (first|refine blk_drewN ?_ _|refine blk_drew ?_|refine blk_alloc ?_ _));exact BK244.out⟩,⟨by repeat (first|(with_reducible first|exact HB.out|apply below_alloc|apply pw_below_drewN|apply below_drew1|refine below_set ?_ GE243.out|refine below_set ?_ GE244.out)|exact HB.out)⟩⟩
     case rest =>
      clear HC21
      try clear c1
      try clear c2
      try clear p2
      try clear c4
      try clear c6
      try clear c7
      try clear c10
      try clear c10b0
      try clear c10b1
      try clear c12
      try clear c16
      try clear c16b0
      try clear c16b1
      try clear c18
      try clear c22
      try clear c22b0
      try clear c22b1
      try clear c24
      try clear hcz13_0
      try clear hcz13_1
      try clear hcz13_2
      try clear hcz13_3
      try clear hcz13_4
      try clear hcz14_0
      try clear hcz14_1
      try clear hcz14_2
      try clear hcz14_3
      try clear hcz14_4
      try clear hcz19_0
      try clear hcz19_1
      try clear hcz19_2
      try clear hcz19_3
      try clear hcz19_4
      try clear hcz20_0
      try clear hcz20_1
      try clear hcz20_2
      try clear hcz20_3
      try clear hcz20_4
      try clear hcz25_0
      try clear hcz25_1
      try clear hcz25_2
      try clear hcz25_3
      try clear hcz25_4
      try clear hcz26_0
      try clear hcz26_1
      try clear hcz26_2
      try clear hcz26_3
      try clear hcz26_4
      try clear hcz8_0
      try clear hcz8_1
      try clear hcz8_2
      try clear hcz8_3
      try clear hcz8_4
      try clear hcz9_0
      try clear hcz9_1
      try clear hcz9_2
      try clear hcz9_3
      try clear hcz9_4
      try clear hfz13_0
      try clear hfz13_1
      try clear hfz13_2
      try clear hfz13_3
      try clear hfz13_4
      try clear hfz14_0
      try clear hfz14_1
      try clear hfz14_2
      try clear hfz14_3
      try clear hfz14_4
      try clear hfz19_0
      try clear hfz19_1
      try clear hfz19_2
      try clear hfz19_3
      try clear hfz19_4
      try clear hfz20_0
      try clear hfz20_1
      try clear hfz20_2
      try clear hfz20_3
      try clear hfz20_4
      try clear hfz25_0
      try clear hfz25_1
      try clear hfz25_2
      try clear hfz25_3
      try clear hfz25_4
      try clear hfz26_0
      try clear hfz26_1
      try clear hfz26_2
      try clear hfz26_3
      try clear hfz26_4
      try clear hfz8_0
      try clear hfz8_1
      try clear hfz8_2
      try clear hfz8_3
      try clear hfz8_4
      try clear hfz9_0
      try clear hfz9_1
      try clear hfz9_2
      try clear hfz9_3
      try clear hfz9_4
      try clear p2
      obtain ⟨kq,x5_20,rfl,HA,HJ20,BK243,BK244,HB⟩:=hcut
      cases kq with
      | zero => exact absurd HA.out (by simp [windlassref3_Compare.j2])
      | succ kj20 =>
       have H:=HA.out
       clear HA
       simp only [windlassref3_Compare.j2] at H
       have H':=Aside0.mk H
       clear H
       go_wp2
       go_loopg [5,6] kj20 (fun kq v5 v6 w' => ∃ (x5_4 : Int) (x6_4 : Int),v5 = .int .i64 x5_4 ∧ v6 = .int .i64 x6_4 ∧ Aside0 (windlassref3_Compare.l0 kq x5_4 x6_4 a0_0 a0_1 a0_2 a0_3 l0_4 a1_0 a1_1 a1_2 a1_3 l1_4 = some r) ∧ Aside0 (kq ≤ kj20) ∧ Aside0 (w'.heap[gb243]? = some (.cells #[.int .i64 a0_0, .int .i64 a0_1, .string a0_2, .int .i64 a0_3,(.slice A0_4 l0_4.length c0_4)] 35 (0,0))) ∧ Aside0 (w'.heap[gb244]? = some (.cells #[.int .i64 a1_0, .int .i64 a1_1, .string a1_2, .int .i64 a1_3,(.slice A1_4 l1_4.length c1_4)] 35 (0,0))) ∧ Aside0 (Below w.heap.size w w'))
       case atStart => exact ⟨(x5_20),(0),(by first|rfl|(simp;done)|(simp [*];done)),(by first|rfl|(simp;done)|(simp [*];done)),H',⟨Nat.le_refl _⟩,⟨by (with_reducible repeat (first|refine blk_drewN ?_ _|refine blk_drew ?_|refine blk_alloc ?_ _));exact BK243.out⟩,⟨by (with_reducible repeat (first|refine blk_drewN ?_ _|refine blk_drew ?_|refine blk_alloc ?_ _));exact BK244.out⟩,⟨by repeat (first|(with_reducible first|exact HB.out|apply below_alloc|apply pw_below_drewN|apply below_drew1|refine below_set ?_ GE243.out|refine below_set ?_ GE244.out)|exact HB.out)⟩⟩
       case round =>
        clear H'
        try clear c1
        try clear c2
        try clear p2
        try clear c4
        try clear c6
        try clear c7
        try clear c10
        try clear c10b0
        try clear c10b1
        try clear c12
        try clear c16
        try clear c16b0
        try clear c16b1
        try clear c18
        try clear c22
        try clear c22b0
        try clear c22b1
        try clear c24
        try clear hcz13_0
        try clear hcz13_1
        try clear hcz13_2
        try clear hcz13_3
        try clear hcz13_4
        try clear hcz14_0
        try clear hcz14_1
        try clear hcz14_2
        try clear hcz14_3
        try clear hcz14_4
        try clear hcz19_0
        try clear hcz19_1
        try clear hcz19_2
        try clear hcz19_3
        try clear hcz19_4
        try clear hcz20_0
        try clear hcz20_1
        try clear hcz20_2
        try clear hcz20_3
        try clear hcz20_4
        try clear hcz25_0
        try clear hcz25_1
        try clear hcz25_2
        try clear hcz25_3
        try clear hcz25_4
        try clear hcz26_0
        try clear hcz26_1
        try clear hcz26_2
        try clear hcz26_3
        try clear hcz26_4
        try clear hcz8_0
        try clear hcz8_1
        try clear hcz8_2
        try clear hcz8_3
        try clear hcz8_4
        try clear hcz9_0
        try clear hcz9_1
        try clear hcz9_2
        try clear hcz9_3
        try clear hcz9_4
        try clear hfz13_0
        try clear hfz13_1
        try clear hfz13_2
        try clear hfz13_3
        try clear hfz13_4
        try clear hfz14_0
        try clear hfz14_1
        try clear hfz14_2
        try clear hfz14_3
        try clear hfz14_4
        try clear hfz19_0
        try clear hfz19_1
        try clear hfz19_2
        try clear hfz19_3
        try clear hfz19_4
        try clear hfz20_0
        try clear hfz20_1
        try clear hfz20_2
        try clear hfz20_3
        try clear hfz20_4
        try clear hfz25_0
        try clear hfz25_1
        try clear hfz25_2
        try clear hfz25_3
        try clear hfz25_4
        try clear hfz26_0
        try clear hfz26_1
        try clear hfz26_2
        try clear hfz26_3
        try clear hfz26_4
        try clear hfz8_0
        try clear hfz8_1
        try clear hfz8_2
        try clear hfz8_3
        try clear hfz8_4
        try clear hfz9_0
        try clear hfz9_1
        try clear hfz9_2
        try clear hfz9_3
        try clear hfz9_4
        try clear p2
        obtain ⟨x5_4,x6_4,rfl,rfl,HA,HK4,BK243,BK244,HB⟩:=hrel
        cases gk with
        | zero => exact absurd HA.out (by simp [windlassref3_Compare.l0])
        | succ k4 =>
         have H:=HA.out
         clear HA
         simp only [windlassref3_Compare.l0] at H
         by_cases c27 : x6_4 < (l0_4.length : Int)
         ·rw [if_pos c27] at H
          have c27b0 : decide (x6_4 < (l0_4.length : Int)) = true:=decide_eq_true c27
          clear c27
          by_cases c28 : x6_4 < (l1_4.length : Int)
          ·rw [if_pos c28] at H
           have c28b0 : decide (x6_4 < (l1_4.length : Int)) = true:=decide_eq_true c28
           clear c28
           by_cases c29 : x5_4 = 0
           ·rw [if_pos c29] at H
            have c29b0 : (x5_4 == 0) = true:=beq_iff_eq.mpr c29
            have c29b1 : (x5_4 != 0) = false:=bne_eq_false_iff_eq.mpr c29
            clear c29
            by_cases c30 : 0 ≤ x6_4
            ·rw [if_pos c30] at H
             have c30b0 : decide (0 ≤ x6_4) = true:=decide_eq_true c30
             clear c30
             replace H:=Option.bind_eq_some_iff.mp H
             obtain ⟨t251,A310,H⟩:=H
             replace H : (windlassref3_Compare.l0 k4 t251 (wrap64 (x6_4 + 1)) a0_0 a0_1 a0_2 a0_3 l0_4 a1_0 a1_1 a1_2 a1_3 l1_4) = some r:=H
             have A31:=Aside0.mk A310
             clear A310
             have H':=Aside0.mk H
             clear H
             have hnb32:=NB243_244.out
             have hnc32:=NB244_243.out
             have hcz33_0 : wr.cell? ⟨gb243,0,none⟩ = some (.int .i64 a0_0):=(blk_cell BK243.out 0).trans rfl
             have hcz33_1 : wr.cell? ⟨gb243,1,none⟩ = some (.int .i64 a0_1):=(blk_cell BK243.out 1).trans rfl
             have hcz33_2 : wr.cell? ⟨gb243,2,none⟩ = some (.string a0_2):=(blk_cell BK243.out 2).trans rfl
             have hcz33_3 : wr.cell? ⟨gb243,3,none⟩ = some (.int .i64 a0_3):=(blk_cell BK243.out 3).trans rfl
             have hcz33_4 : wr.cell? ⟨gb243,4,none⟩ = some (.slice A0_4 l0_4.length c0_4):=(blk_cell BK243.out 4).trans rfl
             have hfz33_0:=blk_frozen BK243.out 0
             have hfz33_1:=blk_frozen BK243.out 1
             have hfz33_2:=blk_frozen BK243.out 2
             have hfz33_3:=blk_frozen BK243.out 3
             have hfz33_4:=blk_frozen BK243.out 4
             have hcz34_0 : wr.cell? ⟨gb244,0,none⟩ = some (.int .i64 a1_0):=(blk_cell BK244.out 0).trans rfl
             have hcz34_1 : wr.cell? ⟨gb244,1,none⟩ = some (.int .i64 a1_1):=(blk_cell BK244.out 1).trans rfl
             have hcz34_2 : wr.cell? ⟨gb244,2,none⟩ = some (.string a1_2):=(blk_cell BK244.out 2).trans rfl
             have hcz34_3 : wr.cell? ⟨gb244,3,none⟩ = some (.int .i64 a1_3):=(blk_cell BK244.out 3).trans rfl
             have hcz34_4 : wr.cell? ⟨gb244,4,none⟩ = some (.slice A1_4 l1_4.length c1_4):=(blk_cell BK244.out 4).trans rfl
             have hfz34_0:=blk_frozen BK244.out 0
             have hfz34_1:=blk_frozen BK244.out 1
             have hfz34_2:=blk_frozen BK244.out 2
             have hfz34_3:=blk_frozen BK244.out 3
             have hfz34_4:=blk_frozen BK244.out 4
             try go_wp2
             replace BK243:=Aside0.mk (blk_drew BK243.out)
             replace BK244:=Aside0.mk (blk_drew BK244.out)
             replace HB:=Aside0.mk (below_drew1 HB.out)
             have p249 : 0 ≤ (x6_4 : Int):=of_decide_eq_true aX
             have q249 : x6_4 < (l0_4.length : Int):=of_decide_eq_true aX
             obtain ⟨ad249,A249_4,c249_4,e249,hx249_0,hx249_1,hx249_2,hx249_3,hx249_4,hl249_4,hi249_4⟩:=at_T35 HR0_4.out x6_4 p249 q249
             have hw249_4:=hx249_4
             have hw249_3:=hx249_3
             have hw249_2:=hx249_2
             have hw249_1:=hx249_1
             have hw249_0:=hx249_0
             cases e249
             replace hx249_0:=cB HB hx249_0
             replace hx249_1:=cB HB hx249_1
             replace hx249_2:=cB HB hx249_2
             replace hx249_3:=cB HB hx249_3
             replace hx249_4:=cB HB hx249_4
             have HR249_4:=Aside0.mk hi249_4
             have HC249_4:=Aside0.mk hl249_4
             clear hi249_4 hl249_4
             replace p249:=eq_true p249
             replace q249:=eq_true q249
             have p250 : 0 ≤ (x6_4 : Int):=of_decide_eq_true aX
             have q250 : x6_4 < (l1_4.length : Int):=of_decide_eq_true aX
             obtain ⟨ad250,A250_4,c250_4,e250,hx250_0,hx250_1,hx250_2,hx250_3,hx250_4,hl250_4,hi250_4⟩:=at_T35 HR1_4.out x6_4 p250 q250
             have hw250_4:=hx250_4
             have hw250_3:=hx250_3
             have hw250_2:=hx250_2
             have hw250_1:=hx250_1
             have hw250_0:=hx250_0
             cases e250
             replace hx250_0:=cB HB hx250_0
             replace hx250_1:=cB HB hx250_1
             replace hx250_2:=cB HB hx250_2
             replace hx250_3:=cB HB hx250_3
             replace hx250_4:=cB HB hx250_4
             have HR250_4:=Aside0.mk hi250_4
             have HC250_4:=Aside0.mk hl250_4
             clear hi250_4 hl250_4
             replace p250:=eq_true p250
             replace q250:=eq_true q250
             refine start_ (n:=12) (S:=fun w' => w'.cell? ⟨gb243,0,none⟩ = some (.int .i64 a0_0) ∧ w'.cell? ⟨gb243,1,none⟩ = some (.int .i64 a0_1) ∧ w'.cell? ⟨gb243,2,none⟩ = some (.string a0_2) ∧ w'.cell? ⟨gb243,3,none⟩ = some (.int .i64 a0_3) ∧ w'.cell? ⟨gb243,4,none⟩ = some (.slice (some ad249) l0_4.length c0_4) ∧ w'.cell? ⟨gb244,0,none⟩ = some (.int .i64 a1_0) ∧ w'.cell? ⟨gb244,1,none⟩ = some (.int .i64 a1_1) ∧ w'.cell? ⟨gb244,2,none⟩ = some (.string a1_2) ∧ w'.cell? ⟨gb244,3,none⟩ = some (.int .i64 a1_3) ∧ w'.cell? ⟨gb244,4,none⟩ = some (.slice (some ad250) l1_4.length c1_4) ∧ w'.cell? (ad249.add ((x6_4).toNat * 5)) = some (.int .i64 ((rd_T35 l0_4 x6_4).f0)) ∧ w'.cell? ⟨(ad249.add ((x6_4).toNat * 5)).block,(ad249.add ((x6_4).toNat * 5)).off + 1,none⟩ = some (.int .i64 ((rd_T35 l0_4 x6_4).f1)) ∧ w'.cell? ⟨(ad249.add ((x6_4).toNat * 5)).block,(ad249.add ((x6_4).toNat * 5)).off + 2,none⟩ = some (.string ((rd_T35 l0_4 x6_4).f2)) ∧ w'.cell? ⟨(ad249.add ((x6_4).toNat * 5)).block,(ad249.add ((x6_4).toNat * 5)).off + 3,none⟩ = some (.int .i64 ((rd_T35 l0_4 x6_4).f3)) ∧ w'.cell? ⟨(ad249.add ((x6_4).toNat * 5)).block,(ad249.add ((x6_4).toNat * 5)).off + 4,none⟩ = some (.slice A249_4 ((rd_T35 l0_4 x6_4).f4).length c249_4) ∧ w'.cell? (ad250.add ((x6_4).toNat * 5)) = some (.int .i64 ((rd_T35 l1_4 x6_4).f0)) ∧ w'.cell? ⟨(ad250.add ((x6_4).toNat * 5)).block,(ad250.add ((x6_4).toNat * 5)).off + 1,none⟩ = some (.int .i64 ((rd_T35 l1_4 x6_4).f1)) ∧ w'.cell? ⟨(ad250.add ((x6_4).toNat * 5)).block,(ad250.add ((x6_4).toNat * 5)).off + 2,none⟩ = some (.string ((rd_T35 l1_4 x6_4).f2)) ∧ w'.cell? ⟨(ad250.add ((x6_4).toNat * 5)).block,(ad250.add ((x6_4).toNat * 5)).off + 3,none⟩ = some (.int .i64 ((rd_T35 l1_4 x6_4).f3)) ∧ w'.cell? ⟨(ad250.add ((x6_4).toNat * 5)).block,(ad250.add ((x6_4).toNat * 5)).off + 4,none⟩ = some (.slice A250_4 ((rd_T35 l1_4 x6_4).f4).length c250_4)) (ds:=[]) #[fF,fF,fF,fF,fF,fF,fF,fF,fF,fF,fF,fF] (by kernel_rfl) rfl rfl ⟨(blk_cell BK243.out 0).trans rfl,(blk_cell BK243.out 1).trans rfl,(blk_cell BK243.out 2).trans rfl,(blk_cell BK243.out 3).trans rfl,(blk_cell BK243.out 4).trans rfl,(blk_cell BK244.out 0).trans rfl,(blk_cell BK244.out 1).trans rfl,(blk_cell BK244.out 2).trans rfl,(blk_cell BK244.out 3).trans rfl,(blk_cell BK244.out 4).trans rfl,(cB HB hw249_0),(cB HB hw249_1),(cB HB hw249_2),(cB HB hw249_3),(cB HB hw249_4),(cB HB hw250_0),(cB HB hw250_1),(cB HB hw250_2),(cB HB hw250_3),(cB HB hw250_4)⟩ (fun hHeld => ?_);refine with_tabW windlassref3_Compare.tab11 windlassref3_Compare.bits11 (fun HT_ HW_ => ?_)
             generalize wr.drew = w35 at BK243 BK244 HB HR249_4 HR250_4 hx249_0 hx249_1 hx249_2 hx249_3 hx249_4 hx250_0 hx250_1 hx250_2 hx250_3 hx250_4 hHeld ⊢
             refine pU 0 (some 75) HT_ rfl ?_
             refine pU 2 (some 77) HT_ rfl ?_
             refine pU 5 (some 80) HT_ rfl ?_
             refine pU 7 (some 82) HT_ rfl ?_
             refine tA 1 (some 76) HT_ HW_ hHeld rfl ?_
             refine pU 3 (some 78) HT_ rfl ?_
             refine tA 4 (some 79) HT_ HW_ hHeld rfl ?_
             refine tA 6 (some 81) HT_ HW_ hHeld rfl ?_
             refine pU 8 (some 83) HT_ rfl ?_
             refine tA 9 (some 84) HT_ HW_ hHeld rfl ?_
             refine oN 10 (some 85) HT_ rfl (fun K hK => ?_)
             refine goes_ Try.func45 (by kernel_rfl) rfl #[.agg #[.int .i64 ((rd_T35 l0_4 x6_4).f0), .int .i64 ((rd_T35 l0_4 x6_4).f1), .string ((rd_T35 l0_4 x6_4).f2), .int .i64 ((rd_T35 l0_4 x6_4).f3), .slice A249_4 ((rd_T35 l0_4 x6_4).f4).length c249_4], .agg #[.int .i64 ((rd_T35 l1_4 x6_4).f0), .int .i64 ((rd_T35 l1_4 x6_4).f1), .string ((rd_T35 l1_4 x6_4).f2), .int .i64 ((rd_T35 l1_4 x6_4).f3), .slice A250_4 ((rd_T35 l1_4 x6_4).f4).length c250_4]] (by rfl) rfl rfl aG ?_
             with_reducible refine (ih k4 (by have:=HJ3.out;have:=HJ14.out;have:=HJ20.out;have:=HK4.out;omega) ((rd_T35 l0_4 x6_4).f0) ((rd_T35 l0_4 x6_4).f1) ((rd_T35 l0_4 x6_4).f2) ((rd_T35 l0_4 x6_4).f3) _ _ ((rd_T35 l0_4 x6_4).f4) ((rd_T35 l1_4 x6_4).f0) ((rd_T35 l1_4 x6_4).f1) ((rd_T35 l1_4 x6_4).f2) ((rd_T35 l1_4 x6_4).f3) _ _ ((rd_T35 l1_4 x6_4).f4) t251 _ ?side1 ?side2 ?side3 ?side4 A31.out).mono ?_
             (case side1 => repeat (first|exact (Kd.C_below HR249_4.out HB.out)|(with_reducible refine Kd.C_alloc ?_ _)|(with_reducible refine Kd.C_drewN ?_ _)|(with_reducible refine Kd.C_drew ?_)))
             (case side2 => exact HC249_4.out)
             (case side3 => repeat (first|exact (Kd.C_below HR250_4.out HB.out)|(with_reducible refine Kd.C_alloc ?_ _)|(with_reducible refine Kd.C_drewN ?_ _)|(with_reducible refine Kd.C_drew ?_)))
             (case side4 => exact HC250_4.out)
             rintro e w36 ⟨rfl,hb⟩
             refine ⟨_,rfl,?_⟩
             replace BK243:=bB BK243 hb
             replace BK244:=bB BK244 hb
             replace HB:=Aside0.mk (below_step (bL2 HB GE243 GE244) hb)
             (try clear hb)
             (try clear hb2)
             (try clear hk)
             (try clear hi)
             refine hK.out _ _ ⟨(blk_cell BK243.out 0).trans rfl,(blk_cell BK243.out 1).trans rfl,(blk_cell BK243.out 2).trans rfl,(blk_cell BK243.out 3).trans rfl,(blk_cell BK243.out 4).trans rfl,(blk_cell BK244.out 0).trans rfl,(blk_cell BK244.out 1).trans rfl,(blk_cell BK244.out 2).trans rfl,(blk_cell BK244.out 3).trans rfl,(blk_cell BK244.out 4).trans rfl,(cB HB hw249_0),(cB HB hw249_1),(cB HB hw249_2),(cB HB hw249_3),(cB HB hw249_4),(cB HB hw250_0),(cB HB hw250_1),(cB HB hw250_2),(cB HB hw250_3),(cB HB hw250_4)⟩ (fun hHeld => ?_)
             clear hK K
             refine nO ?_
             refine pU 11 (some 5) HT_ rfl ?_
             refine done_ (done_of HT_.out (by kernel_rfl)) ?_
             try go_wp2
             go_roundg k4
             case measure => have:=HJ3.out;have:=HJ14.out;have:=HJ20.out;have:=HK4.out;omega
             case rel => exact ⟨(t251),(wrap64 (x6_4 + 1)),(by first|rfl|(simp;done)|(simp [*];done)),(by first|rfl|(simp;done)|(simp [*];done)),H',⟨by have:=HJ3.out;have:=HJ14.out;have:=HJ20.out;have:=HK4.out;omega⟩,⟨by (with_reducible repeat (first|refine blk_drewN ?_ _|refine blk_drew ?_|refine blk_alloc ?_ _));exact BK243.out⟩,⟨by (with_reducible repeat (first|refine blk_drewN ?_ _|refine blk_drew ?_|refine blk_alloc ?_ _));exact BK244.out⟩,⟨by repeat (first|(with_reducible first|exact HB.out|apply below_alloc|apply pw_below_drewN|apply below_drew1|refine below_set ?_ GE243.out|refine below_set ?_ GE244.out)|exact HB.out)⟩⟩
            rw [if_neg c30] at H
            exact absurd H (by simp)
           rw [if_neg c29] at H
           have c29b0 : (x5_4 == 0) = false:=beq_eq_false_iff_ne.mpr c29
           have c29b1 : (x5_4 != 0) = true:=bne_iff_ne.mpr c29
           obtain rfl:=Option.some.inj H
           have hnb37:=NB243_244.out
           have hnc37:=NB244_243.out
           have hcz38_0 : wr.cell? ⟨gb243,0,none⟩ = some (.int .i64 a0_0):=(blk_cell BK243.out 0).trans rfl
           have hcz38_1 : wr.cell? ⟨gb243,1,none⟩ = some (.int .i64 a0_1):=(blk_cell BK243.out 1).trans rfl
           have hcz38_2 : wr.cell? ⟨gb243,2,none⟩ = some (.string a0_2):=(blk_cell BK243.out 2).trans rfl
           have hcz38_3 : wr.cell? ⟨gb243,3,none⟩ = some (.int .i64 a0_3):=(blk_cell BK243.out 3).trans rfl
           have hcz38_4 : wr.cell? ⟨gb243,4,none⟩ = some (.slice A0_4 l0_4.length c0_4):=(blk_cell BK243.out 4).trans rfl
           have hfz38_0:=blk_frozen BK243.out 0
           have hfz38_1:=blk_frozen BK243.out 1
           have hfz38_2:=blk_frozen BK243.out 2
           have hfz38_3:=blk_frozen BK243.out 3
           have hfz38_4:=blk_frozen BK243.out 4
           have hcz39_0 : wr.cell? ⟨gb244,0,none⟩ = some (.int .i64 a1_0):=(blk_cell BK244.out 0).trans rfl
           have hcz39_1 : wr.cell? ⟨gb244,1,none⟩ = some (.int .i64 a1_1):=(blk_cell BK244.out 1).trans rfl
           have hcz39_2 : wr.cell? ⟨gb244,2,none⟩ = some (.string a1_2):=(blk_cell BK244.out 2).trans rfl
           have hcz39_3 : wr.cell? ⟨gb244,3,none⟩ = some (.int .i64 a1_3):=(blk_cell BK244.out 3).trans rfl
           have hcz39_4 : wr.cell? ⟨gb244,4,none⟩ = some (.slice A1_4 l1_4.length c1_4):=(blk_cell BK244.out 4).trans rfl
           have hfz39_0:=blk_frozen BK244.out 0
           have hfz39_1:=blk_frozen BK244.out 1
           have hfz39_2:=blk_frozen BK244.out 2
           have hfz39_3:=blk_frozen BK244.out 3
           have hfz39_4:=blk_frozen BK244.out 4
           go_wp2
           go_ret
           exact ⟨by first|rfl|(simp [errW_none,errW_some] <;> rfl)|(simp [*,errW_none,errW_some] <;> rfl),by repeat (first|(with_reducible first|exact HB.out|apply below_alloc|apply pw_below_drewN|apply below_drew1|refine below_set ?_ GE243.out|refine below_set ?_ GE244.out)|exact HB.out)⟩
          rw [if_neg c28] at H
          have c28b0 : decide (x6_4 < (l1_4.length : Int)) = false:=decide_eq_false c28
          clear c28
          by_cases c40 : x5_4 = 0
          ·rw [if_pos c40] at H
           have c40b0 : (x5_4 == 0) = true:=beq_iff_eq.mpr c40
           have c40b1 : (x5_4 != 0) = false:=bne_eq_false_iff_eq.mpr c40
           clear c40
           replace H:=Option.bind_eq_some_iff.mp H
           obtain ⟨t252,A410,H⟩:=H
           replace H : (some t252) = some r:=H
           have A41:=Aside0.mk A410
           clear A410
           obtain rfl:=Option.some.inj H
           have hnb42:=NB243_244.out
           have hnc42:=NB244_243.out
           have hcz43_0 : wr.cell? ⟨gb243,0,none⟩ = some (.int .i64 a0_0):=(blk_cell BK243.out 0).trans rfl
           have hcz43_1 : wr.cell? ⟨gb243,1,none⟩ = some (.int .i64 a0_1):=(blk_cell BK243.out 1).trans rfl
           have hcz43_2 : wr.cell? ⟨gb243,2,none⟩ = some (.string a0_2):=(blk_cell BK243.out 2).trans rfl
           have hcz43_3 : wr.cell? ⟨gb243,3,none⟩ = some (.int .i64 a0_3):=(blk_cell BK243.out 3).trans rfl
           have hcz43_4 : wr.cell? ⟨gb243,4,none⟩ = some (.slice A0_4 l0_4.length c0_4):=(blk_cell BK243.out 4).trans rfl
           have hfz43_0:=blk_frozen BK243.out 0
           have hfz43_1:=blk_frozen BK243.out 1
           have hfz43_2:=blk_frozen BK243.out 2
           have hfz43_3:=blk_frozen BK243.out 3
           have hfz43_4:=blk_frozen BK243.out 4
           have hcz44_0 : wr.cell? ⟨gb244,0,none⟩ = some (.int .i64 a1_0):=(blk_cell BK244.out 0).trans rfl
           have hcz44_1 : wr.cell? ⟨gb244,1,none⟩ = some (.int .i64 a1_1):=(blk_cell BK244.out 1).trans rfl
           have hcz44_2 : wr.cell? ⟨gb244,2,none⟩ = some (.string a1_2):=(blk_cell BK244.out 2).trans rfl
           have hcz44_3 : wr.cell? ⟨gb244,3,none⟩ = some (.int .i64 a1_3):=(blk_cell BK244.out 3).trans rfl
           have hcz44_4 : wr.cell? ⟨gb244,4,none⟩ = some (.slice A1_4 l1_4.length c1_4):=(blk_cell BK244.out 4).trans rfl
           have hfz44_0:=blk_frozen BK244.out 0
           have hfz44_1:=blk_frozen BK244.out 1
           have hfz44_2:=blk_frozen BK244.out 2
           have hfz44_3:=blk_frozen BK244.out 3
           have hfz44_4:=blk_frozen BK244.out 4
           go_wp2_with (first|((with_reducible refine gate_callee (f:=65) rfl ?_);refine goesL_ (some 102) rfl rfl Try.func65 (by kernel_rfl) rfl #[.bool (decide ((l0_4.length : Int) < (l1_4.length : Int))), .bool (decide ((l0_4.length : Int) > (l1_4.length : Int)))] rfl aG ?_;(with_reducible refine (windlassref3_order.calls (decide ((l0_4.length : Int) < (l1_4.length : Int))) (decide ((l0_4.length : Int) > (l1_4.length : Int))) t252 _ A41.out).mono ?_);rintro e w' ⟨rfl,⟨nd,rfl⟩⟩;refine ⟨_,rfl,?_⟩))
           go_ret
           exact ⟨by first|rfl|(simp [errW_none,errW_some] <;> rfl)|(simp [*,errW_none,errW_some] <;> rfl),by repeat (first|(with_reducible first|exact HB.out|apply below_alloc|apply pw_below_drewN|apply below_drew1|refine below_set ?_ GE243.out|refine below_set ?_ GE244.out)|exact HB.out)⟩
          rw [if_neg c40] at H
          have c40b0 : (x5_4 == 0) = false:=beq_eq_false_iff_ne.mpr c40
          have c40b1 : (x5_4 != 0) = true:=bne_iff_ne.mpr c40
          obtain rfl:=Option.some.inj H
          have hnb45:=NB243_244.out
          have hnc45:=NB244_243.out
          have hcz46_0 : wr.cell? ⟨gb243,0,none⟩ = some (.int .i64 a0_0):=(blk_cell BK243.out 0).trans rfl
          have hcz46_1 : wr.cell? ⟨gb243,1,none⟩ = some (.int .i64 a0_1):=(blk_cell BK243.out 1).trans rfl
          have hcz46_2 : wr.cell? ⟨gb243,2,none⟩ = some (.string a0_2):=(blk_cell BK243.out 2).trans rfl
          have hcz46_3 : wr.cell? ⟨gb243,3,none⟩ = some (.int .i64 a0_3):=(blk_cell BK243.out 3).trans rfl
          have hcz46_4 : wr.cell? ⟨gb243,4,none⟩ = some (.slice A0_4 l0_4.length c0_4):=(blk_cell BK243.out 4).trans rfl
          have hfz46_0:=blk_frozen BK243.out 0
          have hfz46_1:=blk_frozen BK243.out 1
          have hfz46_2:=blk_frozen BK243.out 2
          have hfz46_3:=blk_frozen BK243.out 3
          have hfz46_4:=blk_frozen BK243.out 4
          have hcz47_0 : wr.cell? ⟨gb244,0,none⟩ = some (.int .i64 a1_0):=(blk_cell BK244.out 0).trans rfl
          have hcz47_1 : wr.cell? ⟨gb244,1,none⟩ = some (.int .i64 a1_1):=(blk_cell BK244.out 1).trans rfl
          have hcz47_2 : wr.cell? ⟨gb244,2,none⟩ = some (.string a1_2):=(blk_cell BK244.out 2).trans rfl
          have hcz47_3 : wr.cell? ⟨gb244,3,none⟩ = some (.int .i64 a1_3):=(blk_cell BK244.out 3).trans rfl
          have hcz47_4 : wr.cell? ⟨gb244,4,none⟩ = some (.slice A1_4 l1_4.length c1_4):=(blk_cell BK244.out 4).trans rfl
          have hfz47_0:=blk_frozen BK244.out 0
          have hfz47_1:=blk_frozen BK244.out 1
          have hfz47_2:=blk_frozen BK244.out 2
          have hfz47_3:=blk_frozen BK244.out 3
          have hfz47_4:=blk_frozen BK244.out 4
          go_wp2
          go_ret
          exact ⟨by first|rfl|(simp [errW_none,errW_some] <;> rfl)|(simp [*,errW_none,errW_some] <;> rfl),by repeat (first|(with_reducible first|exact HB.out|apply below_alloc|apply pw_below_drewN|apply below_drew1|refine below_set ?_ GE243.out|refine below_set ?_ GE244.out)|exact HB.out)⟩
         rw [if_neg c27] at H
         have c27b0 : decide (x6_4 < (l0_4.length : Int)) = false:=decide_eq_false c27
         clear c27
         by_cases c48 : x5_4 = 0
         ·rw [if_pos c48] at H
          have c48b0 : (x5_4 == 0) = true:=beq_iff_eq.mpr c48
          have c48b1 : (x5_4 != 0) = false:=bne_eq_false_iff_eq.mpr c48
          clear c48
          replace H:=Option.bind_eq_some_iff.mp H
          obtain ⟨t253,A490,H⟩:=H
          replace H : (some t253) = some r:=H
          have A49:=Aside0.mk A490
          clear A490
          obtain rfl:=Option.some.inj H
          have hnb50:=NB243_244.out
          have hnc50:=NB244_243.out
          have hcz51_0 : wr.cell? ⟨gb243,0,none⟩ = some (.int .i64 a0_0):=(blk_cell BK243.out 0).trans rfl
          have hcz51_1 : wr.cell? ⟨gb243,1,none⟩ = some (.int .i64 a0_1):=(blk_cell BK243.out 1).trans rfl
          have hcz51_2 : wr.cell? ⟨gb243,2,none⟩ = some (.string a0_2):=(blk_cell BK243.out 2).trans rfl
          have hcz51_3 : wr.cell? ⟨gb243,3,none⟩ = some (.int .i64 a0_3):=(blk_cell BK243.out 3).trans rfl
          have hcz51_4 : wr.cell? ⟨gb243,4,none⟩ = some (.slice A0_4 l0_4.length c0_4):=(blk_cell BK243.out 4).trans rfl
          have hfz51_0:=blk_frozen BK243.out 0
          have hfz51_1:=blk_frozen BK243.out 1
          have hfz51_2:=blk_frozen BK243.out 2
          have hfz51_3:=blk_frozen BK243.out 3
          have hfz51_4:=blk_frozen BK243.out 4
          have hcz52_0 : wr.cell? ⟨gb244,0,none⟩ = some (.int .i64 a1_0):=(blk_cell BK244.out 0).trans rfl
          have hcz52_1 : wr.cell? ⟨gb244,1,none⟩ = some (.int .i64 a1_1):=(blk_cell BK244.out 1).trans rfl
          have hcz52_2 : wr.cell? ⟨gb244,2,none⟩ = some (.string a1_2):=(blk_cell BK244.out 2).trans rfl
          have hcz52_3 : wr.cell? ⟨gb244,3,none⟩ = some (.int .i64 a1_3):=(blk_cell BK244.out 3).trans rfl
          have hcz52_4 : wr.cell? ⟨gb244,4,none⟩ = some (.slice A1_4 l1_4.length c1_4):=(blk_cell BK244.out 4).trans rfl
          have hfz52_0:=blk_frozen BK244.out 0
          have hfz52_1:=blk_frozen BK244.out 1
          have hfz52_2:=blk_frozen BK244.out 2
          have hfz52_3:=blk_frozen BK244.out 3
          have hfz52_4:=blk_frozen BK244.out 4
          go_wp2_with (first|((with_reducible refine gate_callee (f:=65) rfl ?_);refine goesL_ (some 102) rfl rfl Try.func65 (by kernel_rfl) rfl #[.bool (decide ((l0_4.length : Int) < (l1_4.length : Int))), .bool (decide ((l0_4.length : Int) > (l1_4.length : Int)))] rfl aG ?_;(with_reducible refine (windlassref3_order.calls (decide ((l0_4.length : Int) < (l1_4.length : Int))) (decide ((l0_4.length : Int) > (l1_4.length : Int))) t253 _ A49.out).mono ?_);rintro e w' ⟨rfl,⟨nd,rfl⟩⟩;refine ⟨_,rfl,?_⟩))
          go_ret
          exact ⟨by first|rfl|(simp [errW_none,errW_some] <;> rfl)|(simp [*,errW_none,errW_some] <;> rfl),by repeat (first|(with_reducible first|exact HB.out|apply below_alloc|apply pw_below_drewN|apply below_drew1|refine below_set ?_ GE243.out|refine below_set ?_ GE244.out)|exact HB.out)⟩
         rw [if_neg c48] at H
         have c48b0 : (x5_4 == 0) = false:=beq_eq_false_iff_ne.mpr c48
         have c48b1 : (x5_4 != 0) = true:=bne_iff_ne.mpr c48
         obtain rfl:=Option.some.inj H
         have hnb53:=NB243_244.out
         have hnc53:=NB244_243.out
         have hcz54_0 : wr.cell? ⟨gb243,0,none⟩ = some (.int .i64 a0_0):=(blk_cell BK243.out 0).trans rfl
         have hcz54_1 : wr.cell? ⟨gb243,1,none⟩ = some (.int .i64 a0_1):=(blk_cell BK243.out 1).trans rfl
         have hcz54_2 : wr.cell? ⟨gb243,2,none⟩ = some (.string a0_2):=(blk_cell BK243.out 2).trans rfl
         have hcz54_3 : wr.cell? ⟨gb243,3,none⟩ = some (.int .i64 a0_3):=(blk_cell BK243.out 3).trans rfl
         have hcz54_4 : wr.cell? ⟨gb243,4,none⟩ = some (.slice A0_4 l0_4.length c0_4):=(blk_cell BK243.out 4).trans rfl
         have hfz54_0:=blk_frozen BK243.out 0
         have hfz54_1:=blk_frozen BK243.out 1
         have hfz54_2:=blk_frozen BK243.out 2
         have hfz54_3:=blk_frozen BK243.out 3
         have hfz54_4:=blk_frozen BK243.out 4
         go_wp2
         go_ret
         exact ⟨by first|rfl|(simp [errW_none,errW_some] <;> rfl)|(simp [*,errW_none,errW_some] <;> rfl),by repeat (first|(with_reducible first|exact HB.out|apply below_alloc|apply pw_below_drewN|apply below_drew1|refine below_set ?_ GE243.out|refine below_set ?_ GE244.out)|exact HB.out)⟩

end Go.Proofs.Ytnokieaebnmljaa.PAll
/- What the document's Compare reckons is cmpD. -/
namespace Go.Proofs.Ytnokieaebnmljaa.PAll
open Go Go.Proofs Go.RowKit Go.Shelf Go.Proofs.YtnokieaebnmljaaW.PrintWords
set_option linter.unusedVariables false
set_option linter.unusedSimpArgs false
theorem orderI (a b : Int) : windlassref3_order.f (decide (a < b)) (decide (a > b)) = some (ordI a b) := by
  unfold windlassref3_order.f ordI
  by_cases h : a < b
  · simp [h]
  · by_cases h' : a > b <;> simp [h, h']
theorem orderB (a b : ByteArray) : windlassref3_order.f (Op.bytesLess a.toList b.toList) (!Op.bytesLess a.toList b.toList && !(a.toList == b.toList)) = some (ordB a b) := by
  unfold windlassref3_order.f ordB
  by_cases h : Op.bytesLess a.toList b.toList = true
  · simp [h]
  · by_cases e : a = b
    · subst e; simp [h]
    · have e' : ¬ a.toList = b.toList := fun h => e (ba_eq h)
      simp [h, e, e']
theorem ref_loop (d : Nat) (ih : ∀ (k : Nat) (x y : S35), 1010 * d ≤ k → dw d x → dw d y → windlassref3_Compare.f k x.f0 x.f1 x.f2 x.f3 x.f4 y.f0 y.f1 y.f2 y.f3 y.f4 = some (cmpD d x y)) (a0 a1 : Int) (a2 : ByteArray) (a3 : Int) (xs : List S35) (b0 b1 : Int) (b2 : ByteArray) (b3 : Int) (ys : List S35) (hxl : xs.length ≤ 1000) (hyl : ys.length ≤ 1000) (hx : ∀ x ∈ xs, dw d x) (hy : ∀ y ∈ ys, dw d y) :
    ∀ (n k : Nat) (c : Int) (i : Nat), xs.length - i ≤ n → 1010 * d + n + 1 ≤ k → i ≤ xs.length → i ≤ ys.length → windlassref3_Compare.l0 k c (i : Int) a0 a1 a2 a3 xs b0 b1 b2 b3 ys = some (nz c (lexL (cmpD d) (xs.drop i) (ys.drop i))) := by
  intro n
  induction n with
  | zero =>
    intro k c i hn hk hi hj
    obtain ⟨k, rfl⟩ : ∃ j, k = j + 1 := ⟨k - 1, by omega⟩
    unfold windlassref3_Compare.l0
    have hi' : i = xs.length := by omega
    subst hi'
    rw [if_neg (by omega)]
    simp only [orderI, Option.bind_some, List.drop_length, nz]
    by_cases hc : c = 0
    · rw [if_pos hc, if_pos hc]
      by_cases he : xs.length = ys.length
      · rw [he, List.drop_length]; simp [ordI, lexL]
      · obtain ⟨y, t, ht⟩ : ∃ y t, ys.drop xs.length = y :: t := ⟨_, _, List.drop_eq_getElem_cons (by omega)⟩
        rw [ht]; simp only [lexL, ordI]; rw [if_pos (by omega)]
    · rw [if_neg hc, if_neg hc]
  | succ n hrec =>
    intro k c i hn hk hi hj
    obtain ⟨k, rfl⟩ : ∃ j, k = j + 1 := ⟨k - 1, by omega⟩
    by_cases hlt : i < xs.length
    · unfold windlassref3_Compare.l0
      rw [if_pos (by omega)]
      by_cases hlt2 : i < ys.length
      · rw [if_pos (show (i : Int) < (ys.length : Int) by omega), if_pos (show (0 : Int) ≤ (i : Int) by omega), List.drop_eq_getElem_cons hlt, List.drop_eq_getElem_cons hlt2]
        have e1 : rd_T35 xs (i : Int) = xs[i] := by simp [rd_T35, hlt]
        have e2 : rd_T35 ys (i : Int) = ys[i] := by simp [rd_T35, hlt2]
        rw [e1, e2, ih k xs[i] ys[i] (by omega) (hx _ (List.getElem_mem _)) (hy _ (List.getElem_mem _))]
        simp only [Option.bind_some, lexL]
        have ew : wrap64 ((i : Int) + 1) = ((i + 1 : Nat) : Int) := by unfold wrap64; omega
        rw [ew, hrec k _ (i + 1) (by omega) (by omega) (by omega) (by omega)]
        unfold nz
        by_cases hc : c = 0
        · rw [if_pos hc, if_pos hc]
        · rw [if_neg hc, if_neg hc]
      · rw [if_neg (by omega)]
        have hi' : i = ys.length := by omega
        subst hi'
        simp only [orderI, Option.bind_some, List.drop_length, nz]
        rw [List.drop_eq_getElem_cons hlt]
        by_cases hc : c = 0
        · rw [if_pos hc, if_pos hc]
          simp only [lexL, ordI]; rw [if_neg (by omega), if_pos (by omega)]
        · rw [if_neg hc, if_neg hc]
    · unfold windlassref3_Compare.l0
      have hi' : i = xs.length := by omega
      subst hi'
      rw [if_neg (by omega)]
      simp only [orderI, Option.bind_some, List.drop_length, nz]
      by_cases hc : c = 0
      · rw [if_pos hc, if_pos hc]
        by_cases he : xs.length = ys.length
        · rw [he, List.drop_length]; simp [ordI, lexL]
        · obtain ⟨y, t, ht⟩ : ∃ y t, ys.drop xs.length = y :: t := ⟨_, _, List.drop_eq_getElem_cons (by omega)⟩
          rw [ht]; simp only [lexL, ordI]; rw [if_pos (by omega)]
      · rw [if_neg hc, if_neg hc]
theorem ref_cmpD : ∀ (d k : Nat) (x y : S35), 1010 * d ≤ k → dw d x → dw d y → windlassref3_Compare.f k x.f0 x.f1 x.f2 x.f3 x.f4 y.f0 y.f1 y.f2 y.f3 y.f4 = some (cmpD d x y)
  | 0, _, _, _, _, h, _ => h.elim
  | d + 1, k, x, y, hk, hx, hy => by
    obtain ⟨k, rfl⟩ : ∃ j, k = j + 1 + 1 + 1 + 1 := ⟨k - 4, by omega⟩
    have hl := fun c => ref_loop d (fun k a b hk ha hb => ref_cmpD d k a b hk ha hb) x.f0 x.f1 x.f2 x.f3 x.f4 y.f0 y.f1 y.f2 y.f3 y.f4 hx.1 hy.1 hx.2 hy.2 1000 k c 0 (by have := hx.1; omega) (by omega) (Nat.zero_le _) (Nat.zero_le _)
    simp only [List.drop_zero, Int.natCast_zero] at hl
    simp only [windlassref3_Compare.f, windlassref3_Compare.j0, windlassref3_Compare.j1, windlassref3_Compare.j2, orderI, orderB, Option.bind_some, cmpD]
    have hl' : ∀ c, windlassref3_Compare.l0 k c 0 x.f0 x.f1 x.f2 x.f3 x.f4 y.f0 y.f1 y.f2 y.f3 y.f4 = some (nz c (lexL (cmpD d) x.f4 y.f4)) := fun c => by simpa using hl c
    simp only [hl', nz]
    by_cases h0 : ordI x.f0 y.f0 = 0 <;> by_cases h1 : ordI x.f1 y.f1 = 0 <;> by_cases h2 : ordB x.f2 y.f2 = 0 <;> by_cases h3 : ordI x.f3 y.f3 = 0 <;> simp [h0, h1, h2, h3]
end Go.Proofs.Ytnokieaebnmljaa.PAll
-- Laid by a program of this seat (wip/xprint.py over the kit's print).
namespace Go.Proofs.Ytnokieaebnmljaa.PAll
open Go.RowKit Go.Proofs.YtnokieaebnmljaaW.PrintWords Go.Proofs.YtnokieaebnmljaaW.PrintLast Go.Proofs.YtnokieaebnmljaaW.PrintMore
attribute [local go_sem] max2_int min2_int max_two min_two max_three min_three max_four min_four   -- for this text's walks alone
set_option linter.unusedVariables false
set_option linter.unusedSimpArgs false

/-! ### windlassref3_Same: function 24 -/
def windlassref3_Same.f (k : Nat) (a0_0 : Int) (a0_1 : Int) (a0_2 : ByteArray) (a0_3 : Int) (l0_4 : List (S35)) (a1_0 : Int) (a1_1 : Int) (a1_2 : ByteArray) (a1_3 : Int) (l1_4 : List (S35)) : Option (Bool) := (windlassref3_Compare.f k a0_0 a0_1 a0_2 a0_3 l0_4 a1_0 a1_1 a1_2 a1_3 l1_4).bind fun t256 => (some (t256 == 0))
set_option maxHeartbeats 8000000 in
set_option maxRecDepth 100000 in
theorem windlassref3_Same.calls (k : Nat) (a0_0 : Int) (a0_1 : Int) (a0_2 : ByteArray) (a0_3 : Int) (A0_4 : Option Addr) (c0_4 : Nat) (l0_4 : List (S35)) (a1_0 : Int) (a1_1 : Int) (a1_2 : ByteArray) (a1_3 : Int) (A1_4 : Option Addr) (c1_4 : Nat) (l1_4 : List (S35)) (r : Bool) (w : World) (hr0_4 : Kd.C k35 w A0_4 l0_4.length l0_4) (hc0_4 : l0_4.length ≤ c0_4) (hr1_4 : Kd.C k35 w A1_4 l1_4.length l1_4) (hc1_4 : l1_4.length ≤ c1_4) (h : windlassref3_Same.f k a0_0 a0_1 a0_2 a0_3 l0_4 a1_0 a1_1 a1_2 a1_3 l1_4 = some r) :
    Calls Try.prog 24 #[.agg #[.int .i64 a0_0, .int .i64 a0_1, .string a0_2, .int .i64 a0_3, .slice A0_4 l0_4.length c0_4], .agg #[.int .i64 a1_0, .int .i64 a1_1, .string a1_2, .int .i64 a1_3, .slice A1_4 l1_4.length c1_4]] w fun e w' => e = .returned (.bool r) ∧ Below w.heap.size w w' := by
  have hu35 := Try.underlying35
  have HR0_4 := Aside0.mk hr0_4
  have HC0_4 := Aside0.mk hc0_4
  clear hr0_4 hc0_4
  have HR1_4 := Aside0.mk hr1_4
  have HC1_4 := Aside0.mk hc1_4
  clear hr1_4 hc1_4
  have HB := Aside0.mk (Below.refl w.heap.size w)
  have H : ((windlassref3_Compare.f k a0_0 a0_1 a0_2 a0_3 l0_4 a1_0 a1_1 a1_2 a1_3 l1_4).bind fun t256 => (some (t256 == 0))) = some r := h
  clear h
  replace H := Option.bind_eq_some_iff.mp H
  obtain ⟨t256, A30, H⟩ := H
  replace H : (some (t256 == 0)) = some r := H
  have A3 := Aside0.mk A30
  clear A30
  obtain rfl := Option.some.inj H
  go_enter Try.func24, Try.ntmps24
  go_wp2_with (first | ((with_reducible refine gate_dst (N := 2) rfl ?_); refine box_event ?hg (N := 2) ?hd (cs := #[.int .i64 a0_0, .int .i64 a0_1, .string a0_2, .int .i64 a0_3, .slice A0_4 l0_4.length c0_4]) (t := 35) ?hr ?_; (case hd => rfl); (case hg => rfl); (case hr => first | (go_simp; done) | (go_simp; rfl)); intro gb254 hg w4 hbox hb; have BK254:=Aside0.mk (hbox);have GW254:=Aside0.mk ((by rw [hg]; exact (below_size (bL0 HB)) : w.heap.size ≤ gb254));have GE254:=Aside0.mk ((by rw [hg]; exact (below_size (bL0 HB)) : w.heap.size ≤ gb254));replace HB:=bS HB hb; clear hb hbox hg) | ((with_reducible refine gate_dst (N := 3) rfl ?_); refine box_event ?hg (N := 3) ?hd (cs := #[.int .i64 a1_0, .int .i64 a1_1, .string a1_2, .int .i64 a1_3, .slice A1_4 l1_4.length c1_4]) (t := 35) ?hr ?_; (case hd => rfl); (case hg => rfl); (case hr => first | (go_simp; done) | (go_simp; rfl)); intro gb255 hg w5 hbox hb; have BK255:=Aside0.mk (hbox);have GW255:=Aside0.mk ((by rw [hg]; exact (below_size (bL1 HB GE254)) : w.heap.size ≤ gb255));have GE255:=Aside0.mk ((by rw [hg]; exact (below_size (bL1 HB GE254)) : w.heap.size ≤ gb255));replace HB:=Aside0.mk (below_step (bL1 HB GE254) hb);have NB254_255:=Aside0.mk ((by rw [hg]; exact Nat.ne_of_lt (blk_lt (bK BK254)) : gb254 ≠ gb255));have NB255_254:=Aside0.mk ((by rw [hg]; exact Nat.ne_of_gt (blk_lt (bK BK254)) : gb255 ≠ gb254));replace BK254:=bB BK254 hb; clear hb hbox hg; have hnb6 := NB254_255.out; have hnc6 := NB255_254.out; have hcz7_0 : w5.cell? ⟨gb254, 0, none⟩ = some (.int .i64 a0_0) := (blk_cell BK254.out 0).trans rfl; have hcz7_1 : w5.cell? ⟨gb254, 1, none⟩ = some (.int .i64 a0_1) := (blk_cell BK254.out 1).trans rfl; have hcz7_2 : w5.cell? ⟨gb254, 2, none⟩ = some (.string a0_2) := (blk_cell BK254.out 2).trans rfl; have hcz7_3 : w5.cell? ⟨gb254, 3, none⟩ = some (.int .i64 a0_3) := (blk_cell BK254.out 3).trans rfl; have hcz7_4 : w5.cell? ⟨gb254, 4, none⟩ = some (.slice A0_4 l0_4.length c0_4) := (blk_cell BK254.out 4).trans rfl; have hfz7_0 := blk_frozen BK254.out 0; have hfz7_1 := blk_frozen BK254.out 1; have hfz7_2 := blk_frozen BK254.out 2; have hfz7_3 := blk_frozen BK254.out 3; have hfz7_4 := blk_frozen BK254.out 4; have hcz8_0 : w5.cell? ⟨gb255, 0, none⟩ = some (.int .i64 a1_0) := (blk_cell BK255.out 0).trans rfl; have hcz8_1 : w5.cell? ⟨gb255, 1, none⟩ = some (.int .i64 a1_1) := (blk_cell BK255.out 1).trans rfl; have hcz8_2 : w5.cell? ⟨gb255, 2, none⟩ = some (.string a1_2) := (blk_cell BK255.out 2).trans rfl; have hcz8_3 : w5.cell? ⟨gb255, 3, none⟩ = some (.int .i64 a1_3) := (blk_cell BK255.out 3).trans rfl; have hcz8_4 : w5.cell? ⟨gb255, 4, none⟩ = some (.slice A1_4 l1_4.length c1_4) := (blk_cell BK255.out 4).trans rfl; have hfz8_0 := blk_frozen BK255.out 0; have hfz8_1 := blk_frozen BK255.out 1; have hfz8_2 := blk_frozen BK255.out 2; have hfz8_3 := blk_frozen BK255.out 3; have hfz8_4 := blk_frozen BK255.out 4) | ((with_reducible refine gate_callee (f := 45) rfl ?_); refine goesL_ (some 7) rfl rfl Try.func45 (by kernel_rfl) rfl #[.agg #[.int .i64 a0_0, .int .i64 a0_1, .string a0_2, .int .i64 a0_3, .slice A0_4 l0_4.length c0_4], .agg #[.int .i64 a1_0, .int .i64 a1_1, .string a1_2, .int .i64 a1_3, .slice A1_4 l1_4.length c1_4]] rfl aG ?_; (with_reducible refine (windlassref3_Compare.calls k a0_0 a0_1 a0_2 a0_3 _ _ l0_4 a1_0 a1_1 a1_2 a1_3 _ _ l1_4 t256 _ ?side1 ?side2 ?side3 ?side4 A3.out).mono ?_); (case side1 => repeat (first | exact (Kd.C_below HR0_4.out HB.out) | (with_reducible refine Kd.C_alloc ?_ _) | (with_reducible refine Kd.C_drewN ?_ _) | (with_reducible refine Kd.C_drew ?_))); (case side2 => exact HC0_4.out); (case side3 => repeat (first | exact (Kd.C_below HR1_4.out HB.out) | (with_reducible refine Kd.C_alloc ?_ _) | (with_reducible refine Kd.C_drewN ?_ _) | (with_reducible refine Kd.C_drew ?_))); (case side4 => exact HC1_4.out); rintro e w9 ⟨rfl, hb⟩; refine ⟨_, rfl, ?_⟩; replace BK254:=bB BK254 hb;replace BK255:=bB BK255 hb;replace HB:=Aside0.mk (below_step (bL2 HB GE254 GE255) hb); (try clear hb); (try clear hb2); (try clear hk); (try clear hi)))
  go_ret
  exact ⟨by first | rfl | (simp [errW_none, errW_some] <;> rfl) | (simp [*, errW_none, errW_some] <;> rfl), by repeat (first | (with_reducible first | exact HB.out | apply below_alloc | apply pw_below_drewN | apply below_drew1 | refine below_set ?_ GE254.out | refine below_set ?_ GE255.out) | exact HB.out)⟩

end Go.Proofs.Ytnokieaebnmljaa.PAll
-- Laid by a program of this seat (wip/xprint.py over the kit's print).
namespace Go.Proofs.Ytnokieaebnmljaa.PAll
open Go.RowKit Go.Proofs.YtnokieaebnmljaaW.PrintWords Go.Proofs.YtnokieaebnmljaaW.PrintLast Go.Proofs.YtnokieaebnmljaaW.PrintMore
attribute [local go_sem] max2_int min2_int max_two min_two max_three min_three max_four min_four   -- for this text's walks alone
set_option linter.unusedVariables false
set_option linter.unusedSimpArgs false

/-! ### windlassref4_at: function 43 -/
mutual
def windlassref4_at.j0 : Nat → Int → Bool → List (List (S82)) → Int → Int → ByteArray → Int → List (S35) → Option (Int × Bool)
 | 0,_,_,_,_,_,_,_,_ => none
 | k + 1,x1,x18,x258000,x259000,x259001,x259002,x259003,x259004 => if x18 = true then (some (0,false)) else (if 0 ≤ x1 then (if x1 < (x258000.length : Int) then (windlassref4_at.l0 k (rd_L4 x258000 x1) 0 x259000 x259001 x259002 x259003 x259004) else (none)) else (none))
def windlassref4_at.l0 : Nat → List (S82) → Int → Int → Int → ByteArray → Int → List (S35) → Option (Int × Bool)
 | 0,_,_,_,_,_,_,_ => none
 | k + 1,x8,x9,x259000,x259001,x259002,x259003,x259004 => if x9 < (x8.length : Int) then (if 0 ≤ x9 then ((windlassref3_Compare.f k ((rd_T82 x8 x9).f0.f0) ((rd_T82 x8 x9).f0.f1) ((rd_T82 x8 x9).f0.f2) ((rd_T82 x8 x9).f0.f3) ((rd_T82 x8 x9).f0.f4) x259000 x259001 x259002 x259003 x259004).bind fun t261 => (if t261 < 0 then (windlassref4_at.l0 k x8 (wrap64 (x9 + 1)) x259000 x259001 x259002 x259003 x259004) else ((windlassref3_Same.f k ((rd_T82 x8 x9).f0.f0) ((rd_T82 x8 x9).f0.f1) ((rd_T82 x8 x9).f0.f2) ((rd_T82 x8 x9).f0.f3) ((rd_T82 x8 x9).f0.f4) x259000 x259001 x259002 x259003 x259004).bind fun t263 => (some (x9,t263))))) else (none)) else (some (x9,false))
end
def windlassref4_at.f (k : Nat) (l0_0 : List (List (S82))) (a1 : Int) (a2_0 : Int) (a2_1 : Int) (a2_2 : ByteArray) (a2_3 : Int) (l2_4 : List (S35)) : Option (Int × Bool):=if a1 < 0 then (windlassref4_at.j0 k a1 true l0_0 a2_0 a2_1 a2_2 a2_3 l2_4) else (windlassref4_at.j0 k a1 (decide (a1 ≥ (l0_0.length : Int))) l0_0 a2_0 a2_1 a2_2 a2_3 l2_4)
def windlassref4_at.T5 : Bool × List (List Nat × List Nat):=(true,[([],[]),([],[]),([1],[1]),([0,2],[0,2]),([3],[3]),([4],[4]),([4],[4]),([5,6,4],[4,5,6]),([7,4],[4,7]),([8,4],[4,8]),([4],[4]),([9,10,4,4],[4,9,10]),([11,4],[4,11]),([4,12],[4,12])])
def windlassref4_at.B5 : List Nat:=[0,0,2,7,15,31,31,127,255,511,31,2047,4095,8191]
theorem windlassref4_at.tab5 : rtab .any (opsOf Try.f43 5) = windlassref4_at.T5:=by kernel_rfl
theorem windlassref4_at.bits5 : waitsOk windlassref4_at.T5.2 windlassref4_at.B5 = true:=by kernel_rfl
def windlassref4_at.T7 : Bool × List (List Nat × List Nat):=(true,[([],[]),([],[]),([],[]),([2],[2]),([1,3],[1,3]),([4],[4]),([5],[5]),([5],[5]),([6,7,5],[5,6,7]),([8,5],[5,8]),([9,5],[5,9]),([5],[5]),([10,11,5,5],[5,10,11]),([5,12],[5,12]),([0,12,0],[0]),([13,14,0,1,2,3,4,5,6,7,8,9,10,11,12,13,14],[13])])
def windlassref4_at.B7 : List Nat:=[0,0,0,4,14,30,62,62,254,510,1022,62,4094,8190,8191,32767]
theorem windlassref4_at.tab7 : rtab .any (opsOf Try.f43 7) = windlassref4_at.T7:=by kernel_rfl
theorem windlassref4_at.bits7 : waitsOk windlassref4_at.T7.2 windlassref4_at.B7 = true:=by kernel_rfl
set_option maxHeartbeats 8000000 in
set_option maxRecDepth 100000 in
theorem windlassref4_at.calls (k : Nat) (A0_0 : Option Addr) (c0_0 : Nat) (l0_0 : List (List (S82))) (a1 : Int) (a2_0 : Int) (a2_1 : Int) (a2_2 : ByteArray) (a2_3 : Int) (A2_4 : Option Addr) (c2_4 : Nat) (l2_4 : List (S35)) (r1 : Int) (r2 : Bool) (w : World) (hr0_0 : Kd.C (Kd.slice 82 k82) w A0_0 l0_0.length l0_0) (hc0_0 : l0_0.length ≤ c0_0) (hr2_4 : Kd.C k35 w A2_4 l2_4.length l2_4) (hc2_4 : l2_4.length ≤ c2_4) (h : windlassref4_at.f k l0_0 a1 a2_0 a2_1 a2_2 a2_3 l2_4 = some (r1,r2)) :
  Calls Try.prog 43 #[.agg #[.slice A0_0 l0_0.length c0_0], .int .i64 a1, .agg #[.int .i64 a2_0, .int .i64 a2_1, .string a2_2, .int .i64 a2_3, .slice A2_4 l2_4.length c2_4]] w fun e w' => e = .returned (.tuple #[.int .i64 r1, .bool r2]) ∧ Below w.heap.size w w':=by
 have hu27:=Try.underlying27
 have hu35:=Try.underlying35
 have HR0_0:=Aside0.mk hr0_0
 have HC0_0:=Aside0.mk hc0_0
 clear hr0_0 hc0_0
 have HR2_4:=Aside0.mk hr2_4
 have HC2_4:=Aside0.mk hc2_4
 clear hr2_4 hc2_4
 have HB:=Aside0.mk (Below.refl w.heap.size w)
 have H : (if a1 < 0 then (windlassref4_at.j0 k a1 true l0_0 a2_0 a2_1 a2_2 a2_3 l2_4) else (windlassref4_at.j0 k a1 (decide (a1 ≥ (l0_0.length : Int))) l0_0 a2_0 a2_1 a2_2 a2_3 l2_4)) = some (r1,r2):=h
 clear h
 have HC4:=Aside0.mk H
 clear H
 go_enter Try.func43,Try.ntmps43
 go_upto_region 1 with (first|((with_reducible refine gate_dst (N:=3) rfl ?_);(try (refine gate_guard (by rfl) ?_;dsimp only));refine box_event ?hg (N:=3) ?hd (cs:=#[.slice A0_0 l0_0.length c0_0]) (t:=27) ?hr ?_;(case hd => rfl);(case hg => rfl);(case hr => first|(go_simp;done)|(go_simp;rfl));intro gb257 hg w5 hbox hb;have BK257:=Aside0.mk (hbox);have GW257:=Aside0.mk ((by rw [hg];exact (below_size (bL0 HB)) : w.heap.size ≤ gb257));have GE257:=Aside0.mk ((by rw [hg];exact (below_size (bL0 HB)) : w.heap.size ≤ gb257));replace HB:=bS HB hb;clear hb hbox hg)|((with_reducible refine gate_dst (N:=5) rfl ?_);(try (refine gate_guard (by rfl) ?_;dsimp only));refine box_event ?hg (N:=5) ?hd (cs:=#[.int .i64 a2_0, .int .i64 a2_1, .string a2_2, .int .i64 a2_3, .slice A2_4 l2_4.length c2_4]) (t:=35) ?hr ?_;(case hd => rfl);(case hg => rfl);(case hr => first|(go_simp;done)|(go_simp;rfl));intro gb258 hg w6 hbox hb;have BK258:=Aside0.mk (hbox);have GW258:=Aside0.mk ((by rw [hg];exact (below_size (bL1 HB GE257)) : w.heap.size ≤ gb258));have GE258:=Aside0.mk ((by rw [hg];exact (below_size (bL1 HB GE257)) : w.heap.size ≤ gb258));replace HB:=Aside0.mk (below_step (bL1 HB GE257) hb);have NB257_258:=Aside0.mk ((by rw [hg];exact Nat.ne_of_lt (blk_lt (bK BK257)) : gb257 ≠ gb258));have NB258_257:=Aside0.mk ((by rw [hg];exact Nat.ne_of_gt (blk_lt (bK BK257)) : gb258 ≠ gb257));replace BK257:=bB BK257 hb;clear hb hbox hg))
 (try go_frame)
 go_cut [18] (fun v18 wc => ∃ (kq : Nat) (x18_3 : Bool),v18 = .bool x18_3 ∧ Aside0 (windlassref4_at.j0 kq a1 x18_3 l0_0 a2_0 a2_1 a2_2 a2_3 l2_4 = some (r1,r2)) ∧ Aside0 (kq ≤ k) ∧ Aside0 (wc.heap[gb257]? = some (.cells #[(.slice A0_0 l0_0.length c0_0)] 27 (0,0))) ∧ Aside0 (wc.heap[gb258]? = some (.cells #[.int .i64 a2_0, .int .i64 a2_1, .string a2_2, .int .i64 a2_3,(.slice A2_4 l2_4.length c2_4)] 35 (0,0))) ∧ Aside0 (Below w.heap.size w wc))
 case first =>
  have H:=HC4.out
  clear HC4
  by_cases c7 : a1 < 0
  ·rw [if_pos c7] at H
   have c7b0 : decide (a1 < 0) = true:=decide_eq_true c7
   clear c7
   (first|rw [c7b0]|(simp only [i64_w,i32_w];rw [c7b0])|skip)
   have H':=Aside0.mk H
   clear H
   go_wp2
   go_meet
   case rel => exact ⟨_,(true),(by first|rfl|(simp;done)|(simp [*];done)),H',⟨by first|omega|exact Nat.le_refl _⟩,⟨by (with_reducible repeat (first|refine blk_drewN ?_ _|refine blk_drew ?_|refine blk_alloc ?_ _));exact BK257.out⟩,⟨by (with_reducible repeat (first|refine blk_drewN ?_ _|refine blk_drew ?_|refine blk_alloc ?_ _));exact BK258.out⟩,⟨by repeat (first|(with_reducible first|exact HB.out|apply below_alloc|apply pw_below_drewN|apply below_drew1|refine below_set ?_ GE257.out|refine below_set ?_ GE258.out)|exact HB.out)⟩⟩
  rw [if_neg c7] at H
  have c7b0 : decide (a1 < 0) = false:=decide_eq_false c7
  clear c7
  (first|rw [c7b0]|(simp only [i64_w,i32_w];rw [c7b0])|skip)
  have H':=Aside0.mk H
  clear H
  have hnb8:=NB257_258.out
  have hnc8:=NB258_257.out
  have hcz9_0 : w6.cell? ⟨gb257,0,none⟩ = some (.slice A0_0 l0_0.length c0_0):=(blk_cell BK257.out 0).trans rfl
  have hfz9_0:=blk_frozen BK257.out 0
  go_wp2
  go_meet
  case rel => exact ⟨_,(decide (a1 ≥ (l0_0.length : Int))),(by first|rfl|(simp;done)|(simp [*];done)),H',⟨by first|omega|exact Nat.le_refl _⟩,⟨by (with_reducible repeat (first|refine blk_drewN ?_ _|refine blk_drew ?_|refine blk_alloc ?_ _));exact BK257.out⟩,⟨by (with_reducible repeat (first|refine blk_drewN ?_ _|refine blk_drew ?_|refine blk_alloc ?_ _));exact BK258.out⟩,⟨by repeat (first|(with_reducible first|exact HB.out|apply below_alloc|apply pw_below_drewN|apply below_drew1|refine below_set ?_ GE257.out|refine below_set ?_ GE258.out)|exact HB.out)⟩⟩
 case rest =>
  clear HC4
  try clear c2
  try clear p2
  try clear c4
  try clear c7
  try clear c7b0
  try clear c8
  try clear hcz9_0
  try clear hfz9_0
  obtain ⟨kq,x18_3,rfl,HA,HJ3,BK257,BK258,HB⟩:=hcut
  cases kq with
  | zero => exact absurd HA.out (by simp [windlassref4_at.j0])
  | succ kj3 =>
   have H:=HA.out
   clear HA
   simp only [windlassref4_at.j0] at H
   by_cases c10 : x18_3 = true
   ·subst c10
    have H1 : (some (0,false)) = some (r1,r2):=by rw [if_pos rfl] at H;exact H
    clear H
    have H:=H1
    clear H1
    simp only [Option.some.injEq,Prod.mk.injEq] at H
    obtain ⟨rfl,rfl⟩:=H
    go_wp2
    go_ret2
    exact ⟨by first|rfl|(simp [errW_none,errW_some] <;> rfl)|(simp [*,errW_none,errW_some] <;> rfl),by repeat (first|(with_reducible first|exact HB.out|apply below_alloc|apply pw_below_drewN|apply below_drew1|refine below_set ?_ GE257.out|refine below_set ?_ GE258.out)|exact HB.out)⟩
   replace c10:=Bool.eq_false_iff.mpr c10
   subst c10
   have H1 : (if 0 ≤ a1 then (if a1 < (l0_0.length : Int) then (windlassref4_at.l0 kj3 (rd_L4 l0_0 a1) 0 a2_0 a2_1 a2_2 a2_3 l2_4) else (none)) else (none)) = some (r1,r2):=by rw [if_neg (show ¬ (false = true) by decide)] at H;exact H
   clear H
   have H:=H1
   clear H1
   by_cases c11 : 0 ≤ a1
   ·rw [if_pos c11] at H
    have c11b0 : decide (0 ≤ a1) = true:=decide_eq_true c11
    clear c11
    by_cases c12 : a1 < (l0_0.length : Int)
    ·rw [if_pos c12] at H
     have c12b0 : decide (a1 < (l0_0.length : Int)) = true:=decide_eq_true c12
     clear c12
     have H':=Aside0.mk H
     clear H
     have hnb13:=NB257_258.out
     have hnc13:=NB258_257.out
     have hcz14_0 : wc.cell? ⟨gb257,0,none⟩ = some (.slice A0_0 l0_0.length c0_0):=(blk_cell BK257.out 0).trans rfl
     have hfz14_0:=blk_frozen BK257.out 0
     have p259 : 0 ≤ (a1 : Int):=of_decide_eq_true aX
     have q259 : a1 < (l0_0.length : Int):=of_decide_eq_true aX
     obtain ⟨ad259,A259_0,c259_0,e259,hx259_0,hl259_0,hi259_0⟩:=at_L4 HR0_0.out a1 p259 q259
     cases e259
     replace hx259_0:=cB HB hx259_0
     have HR259_0:=Aside0.mk hi259_0
     have HC259_0:=Aside0.mk hl259_0
     clear hi259_0 hl259_0
     replace p259:=eq_true p259
     replace q259:=eq_true q259
     go_wp2
     go_loopg [9] kj3 (fun kq v9 w' => ∃ (x9_2 : Int),v9 = .int .i64 x9_2 ∧ Aside0 (windlassref4_at.l0 kq (rd_L4 l0_0 a1) x9_2 a2_0 a2_1 a2_2 a2_3 l2_4 = some (r1,r2)) ∧ Aside0 (kq ≤ kj3) ∧ Aside0 (w'.heap[gb257]? = some (.cells #[(.slice (some ad259) l0_0.length c0_0)] 27 (0,0))) ∧ Aside0 (w'.heap[gb258]? = some (.cells #[.int .i64 a2_0, .int .i64 a2_1, .string a2_2, .int .i64 a2_3,(.slice A2_4 l2_4.length c2_4)] 35 (0,0))) ∧ Aside0 (Below w.heap.size w w'))
     case atStart => exact ⟨(0),(by first|rfl|(simp;done)|(simp [*];done)),H',⟨Nat.le_refl _⟩,⟨by (with_reducible repeat (first|refine blk_drewN ?_ _|refine blk_drew ?_|refine blk_alloc ?_ _));exact BK257.out⟩,⟨by (with_reducible repeat (first|refine blk_drewN ?_ _|refine blk_drew ?_|refine blk_alloc ?_ _));exact BK258.out⟩,⟨by repeat (first|(with_reducible first|exact HB.out|apply below_alloc|apply pw_below_drewN|apply below_drew1|refine below_set ?_ GE257.out|refine below_set ?_ GE258.out)|exact HB.out)⟩⟩
     case round =>
      clear H'
      try clear c1
      try clear c2
      try clear p2
      try clear q2
      try clear hx2
      try clear c4
      try clear c7
      try clear c7b0
      try clear c8
      try clear c10
      try clear c11
      try clear c11b0
      try clear c12
      try clear c12b0
      try clear c13
      try clear hcz14_0
      try clear hcz9_0
      try clear hfz14_0
      try clear hfz9_0
      try clear hx259_0
      try clear p2
      try clear p259
      try clear q259
      obtain ⟨x9_2,rfl,HA,HK2,BK257,BK258,HB⟩:=hrel
      cases gk with
      | zero => exact absurd HA.out (by simp [windlassref4_at.l0])
      | succ k2 =>
       have H:=HA.out
       clear HA
       simp only [windlassref4_at.l0] at H
       by_cases c15 : x9_2 < ((rd_L4 l0_0 a1).length : Int)
       ·rw [if_pos c15] at H
        have c15b0 : decide (x9_2 < ((rd_L4 l0_0 a1).length : Int)) = true:=decide_eq_true c15
        clear c15
        by_cases c16 : 0 ≤ x9_2
        ·rw [if_pos c16] at H
         have c16b0 : decide (0 ≤ x9_2) = true:=decide_eq_true c16
         clear c16
         replace H:=Option.bind_eq_some_iff.mp H
         obtain ⟨t261,A170,H⟩:=H
         replace H : (if t261 < 0 then (windlassref4_at.l0 k2 (rd_L4 l0_0 a1) (wrap64 (x9_2 + 1)) a2_0 a2_1 a2_2 a2_3 l2_4) else ((windlassref3_Same.f k2 ((rd_T82 (rd_L4 l0_0 a1) x9_2).f0.f0) ((rd_T82 (rd_L4 l0_0 a1) x9_2).f0.f1) ((rd_T82 (rd_L4 l0_0 a1) x9_2).f0.f2) ((rd_T82 (rd_L4 l0_0 a1) x9_2).f0.f3) ((rd_T82 (rd_L4 l0_0 a1) x9_2).f0.f4) a2_0 a2_1 a2_2 a2_3 l2_4).bind fun t263 => (some (x9_2,t263)))) = some (r1,r2):=H
         have A17:=Aside0.mk A170
         clear A170
         by_cases c18 : t261 < 0
         ·rw [if_pos c18] at H
          have c18b0 : decide (t261 < 0) = true:=decide_eq_true c18
          clear c18
          have H':=Aside0.mk H
          clear H
          try go_wp2
          replace BK257:=Aside0.mk (blk_drew BK257.out)
          replace BK258:=Aside0.mk (blk_drew BK258.out)
          replace HB:=Aside0.mk (below_drew1 HB.out)
          have p260 : 0 ≤ (x9_2 : Int):=of_decide_eq_true aX
          have q260 : x9_2 < ((rd_L4 l0_0 a1).length : Int):=of_decide_eq_true aX
          obtain ⟨ad260,A260_4,c260_4,A260_9,c260_9,e260,hx260_0,hx260_1,hx260_2,hx260_3,hx260_4,hx260_5,hx260_6,hx260_7,hx260_8,hx260_9,hl260_4,hi260_4,hl260_9,hi260_9⟩:=at_T82 HR259_0.out x9_2 p260 q260
          have hw260_9:=hx260_9
          have hw260_8:=hx260_8
          have hw260_7:=hx260_7
          have hw260_6:=hx260_6
          have hw260_5:=hx260_5
          have hw260_4:=hx260_4
          have hw260_3:=hx260_3
          have hw260_2:=hx260_2
          have hw260_1:=hx260_1
          have hw260_0:=hx260_0
          cases e260
          replace hx260_0:=cB HB hx260_0
          replace hx260_1:=cB HB hx260_1
          replace hx260_2:=cB HB hx260_2
          replace hx260_3:=cB HB hx260_3
          replace hx260_4:=cB HB hx260_4
          replace hx260_5:=cB HB hx260_5
          replace hx260_6:=cB HB hx260_6
          replace hx260_7:=cB HB hx260_7
          replace hx260_8:=cB HB hx260_8
          replace hx260_9:=cB HB hx260_9
          have HR260_4:=Aside0.mk hi260_4
          have HC260_4:=Aside0.mk hl260_4
          clear hi260_4 hl260_4
          have HR260_9:=Aside0.mk hi260_9
          have HC260_9:=Aside0.mk hl260_9
          clear hi260_9 hl260_9
          replace p260:=eq_true p260
          replace q260:=eq_true q260
          refine start_ (n:=14) (S:=fun w' => w'.cell? ⟨gb258,0,none⟩ = some (.int .i64 a2_0) ∧ w'.cell? ⟨gb258,1,none⟩ = some (.int .i64 a2_1) ∧ w'.cell? ⟨gb258,2,none⟩ = some (.string a2_2) ∧ w'.cell? ⟨gb258,3,none⟩ = some (.int .i64 a2_3) ∧ w'.cell? ⟨gb258,4,none⟩ = some (.slice A2_4 l2_4.length c2_4) ∧ w'.cell? (ad260.add ((x9_2).toNat * 10)) = some (.int .i64 ((rd_T82 (rd_L4 l0_0 a1) x9_2).f0.f0)) ∧ w'.cell? ⟨(ad260.add ((x9_2).toNat * 10)).block,(ad260.add ((x9_2).toNat * 10)).off + 1,none⟩ = some (.int .i64 ((rd_T82 (rd_L4 l0_0 a1) x9_2).f0.f1)) ∧ w'.cell? ⟨(ad260.add ((x9_2).toNat * 10)).block,(ad260.add ((x9_2).toNat * 10)).off + 2,none⟩ = some (.string ((rd_T82 (rd_L4 l0_0 a1) x9_2).f0.f2)) ∧ w'.cell? ⟨(ad260.add ((x9_2).toNat * 10)).block,(ad260.add ((x9_2).toNat * 10)).off + 3,none⟩ = some (.int .i64 ((rd_T82 (rd_L4 l0_0 a1) x9_2).f0.f3)) ∧ w'.cell? ⟨(ad260.add ((x9_2).toNat * 10)).block,(ad260.add ((x9_2).toNat * 10)).off + 4,none⟩ = some (.slice A260_4 ((rd_T82 (rd_L4 l0_0 a1) x9_2).f0.f4).length c260_4) ∧ w'.cell? ⟨(ad260.add ((x9_2).toNat * 10)).block,(ad260.add ((x9_2).toNat * 10)).off + 5,none⟩ = some (.int .i64 ((rd_T82 (rd_L4 l0_0 a1) x9_2).f1.f0)) ∧ w'.cell? ⟨(ad260.add ((x9_2).toNat * 10)).block,(ad260.add ((x9_2).toNat * 10)).off + 6,none⟩ = some (.int .i64 ((rd_T82 (rd_L4 l0_0 a1) x9_2).f1.f1)) ∧ w'.cell? ⟨(ad260.add ((x9_2).toNat * 10)).block,(ad260.add ((x9_2).toNat * 10)).off + 7,none⟩ = some (.string ((rd_T82 (rd_L4 l0_0 a1) x9_2).f1.f2)) ∧ w'.cell? ⟨(ad260.add ((x9_2).toNat * 10)).block,(ad260.add ((x9_2).toNat * 10)).off + 8,none⟩ = some (.int .i64 ((rd_T82 (rd_L4 l0_0 a1) x9_2).f1.f3)) ∧ w'.cell? ⟨(ad260.add ((x9_2).toNat * 10)).block,(ad260.add ((x9_2).toNat * 10)).off + 9,none⟩ = some (.slice A260_9 ((rd_T82 (rd_L4 l0_0 a1) x9_2).f1.f4).length c260_9)) (ds:=[]) #[fF,fF,fF,fF,fF,fF,fF,fF,fF,fF,fF,fF,fF,fF] (by kernel_rfl) rfl rfl ⟨(blk_cell BK258.out 0).trans rfl,(blk_cell BK258.out 1).trans rfl,(blk_cell BK258.out 2).trans rfl,(blk_cell BK258.out 3).trans rfl,(blk_cell BK258.out 4).trans rfl,(cB HB hw260_0),(cB HB hw260_1),(cB HB hw260_2),(cB HB hw260_3),(cB HB hw260_4),(cB HB hw260_5),(cB HB hw260_6),(cB HB hw260_7),(cB HB hw260_8),(cB HB hw260_9)⟩ (fun hHeld => ?_);refine with_tabW windlassref4_at.tab5 windlassref4_at.bits5 (fun HT_ HW_ => ?_)
          generalize wr.drew = w19 at BK257 BK258 HB HR260_4 HR260_9 hx260_0 hx260_1 hx260_2 hx260_3 hx260_4 hx260_5 hx260_6 hx260_7 hx260_8 hx260_9 hHeld ⊢
          refine pU 0 (some 24) HT_ rfl ?_
          refine pU 1 (some 25) HT_ rfl ?_
          refine pU 2 (some 26) HT_ rfl ?_
          refine pU 3 (some 27) HT_ rfl ?_
          refine pU 4 (some 28) HT_ rfl ?_
          refine pU 5 (some 29) HT_ rfl ?_
          refine pU 6 (some 30) HT_ rfl ?_
          refine pU 7 (some 31) HT_ rfl ?_
          refine pU 8 (some 32) HT_ rfl ?_
          refine tA 9 (some 33) HT_ HW_ hHeld rfl ?_
          refine tA 10 (some 34) HT_ HW_ hHeld rfl ?_
          refine oN 11 (some 35) HT_ rfl (fun K hK => ?_)
          refine goes_ Try.func45 (by kernel_rfl) rfl #[.agg #[.int .i64 ((rd_T82 (rd_L4 l0_0 a1) x9_2).f0.f0), .int .i64 ((rd_T82 (rd_L4 l0_0 a1) x9_2).f0.f1), .string ((rd_T82 (rd_L4 l0_0 a1) x9_2).f0.f2), .int .i64 ((rd_T82 (rd_L4 l0_0 a1) x9_2).f0.f3), .slice A260_4 ((rd_T82 (rd_L4 l0_0 a1) x9_2).f0.f4).length c260_4], .agg #[.int .i64 a2_0, .int .i64 a2_1, .string a2_2, .int .i64 a2_3, .slice A2_4 l2_4.length c2_4]] (by rfl) rfl rfl aG ?_
          with_reducible refine (windlassref3_Compare.calls k2 ((rd_T82 (rd_L4 l0_0 a1) x9_2).f0.f0) ((rd_T82 (rd_L4 l0_0 a1) x9_2).f0.f1) ((rd_T82 (rd_L4 l0_0 a1) x9_2).f0.f2) ((rd_T82 (rd_L4 l0_0 a1) x9_2).f0.f3) _ _ ((rd_T82 (rd_L4 l0_0 a1) x9_2).f0.f4) a2_0 a2_1 a2_2 a2_3 _ _ l2_4 t261 _ ?side1 ?side2 ?side3 ?side4 A17.out).mono ?_
          (case side1 => repeat (first|exact (Kd.C_below HR260_4.out HB.out)|(with_reducible refine Kd.C_alloc ?_ _)|(with_reducible refine Kd.C_drewN ?_ _)|(with_reducible refine Kd.C_drew ?_)))
          (case side2 => exact HC260_4.out)
          (case side3 => repeat (first|exact (Kd.C_below HR2_4.out HB.out)|(with_reducible refine Kd.C_alloc ?_ _)|(with_reducible refine Kd.C_drewN ?_ _)|(with_reducible refine Kd.C_drew ?_)))
          (case side4 => exact HC2_4.out)
          rintro e w20 ⟨rfl,hb⟩
          refine ⟨_,rfl,?_⟩
          replace BK257:=bB BK257 hb
          replace BK258:=bB BK258 hb
          replace HB:=Aside0.mk (below_step (bL2 HB GE257 GE258) hb)
          (try clear hb)
          (try clear hb2)
          (try clear hk)
          (try clear hi)
          refine hK.out _ _ ⟨(blk_cell BK258.out 0).trans rfl,(blk_cell BK258.out 1).trans rfl,(blk_cell BK258.out 2).trans rfl,(blk_cell BK258.out 3).trans rfl,(blk_cell BK258.out 4).trans rfl,(cB HB hw260_0),(cB HB hw260_1),(cB HB hw260_2),(cB HB hw260_3),(cB HB hw260_4),(cB HB hw260_5),(cB HB hw260_6),(cB HB hw260_7),(cB HB hw260_8),(cB HB hw260_9)⟩ (fun hHeld => ?_)
          clear hK K
          refine nO ?_
          refine pU 12 (some 36) HT_ rfl ?_
          refine pU 13 (some 37) HT_ rfl ?_
          refine done_ (done_of HT_.out (by kernel_rfl)) ?_
          try go_wp2
          go_roundg k2
          case measure => have:=HJ3.out;have:=HK2.out;omega
          case rel => exact ⟨(wrap64 (x9_2 + 1)),(by first|rfl|(simp;done)|(simp [*];done)),H',⟨by have:=HJ3.out;have:=HK2.out;omega⟩,⟨by (with_reducible repeat (first|refine blk_drewN ?_ _|refine blk_drew ?_|refine blk_alloc ?_ _));exact BK257.out⟩,⟨by (with_reducible repeat (first|refine blk_drewN ?_ _|refine blk_drew ?_|refine blk_alloc ?_ _));exact BK258.out⟩,⟨by repeat (first|(with_reducible first|exact HB.out|apply below_alloc|apply pw_below_drewN|apply below_drew1|refine below_set ?_ GE257.out|refine below_set ?_ GE258.out)|exact HB.out)⟩⟩
         rw [if_neg c18] at H
         have c18b0 : decide (t261 < 0) = false:=decide_eq_false c18
         clear c18
         replace H:=Option.bind_eq_some_iff.mp H
         obtain ⟨t263,A210,H⟩:=H
         replace H : (some (x9_2,t263)) = some (r1,r2):=H
         have A21:=Aside0.mk A210
         clear A210
         simp only [Option.some.injEq,Prod.mk.injEq] at H
         obtain ⟨rfl,rfl⟩:=H
         try go_wp2
         replace BK257:=Aside0.mk (blk_drew BK257.out)
         replace BK258:=Aside0.mk (blk_drew BK258.out)
         replace HB:=Aside0.mk (below_drew1 HB.out)
         have p260 : 0 ≤ (x9_2 : Int):=of_decide_eq_true aX
         have q260 : x9_2 < ((rd_L4 l0_0 a1).length : Int):=of_decide_eq_true aX
         obtain ⟨ad260,A260_4,c260_4,A260_9,c260_9,e260,hx260_0,hx260_1,hx260_2,hx260_3,hx260_4,hx260_5,hx260_6,hx260_7,hx260_8,hx260_9,hl260_4,hi260_4,hl260_9,hi260_9⟩:=at_T82 HR259_0.out x9_2 p260 q260
         have hw260_9:=hx260_9
         have hw260_8:=hx260_8
         have hw260_7:=hx260_7
         have hw260_6:=hx260_6
         have hw260_5:=hx260_5
         have hw260_4:=hx260_4
         have hw260_3:=hx260_3
         have hw260_2:=hx260_2
         have hw260_1:=hx260_1
         have hw260_0:=hx260_0
         cases e260
         replace hx260_0:=cB HB hx260_0
         replace hx260_1:=cB HB hx260_1
         replace hx260_2:=cB HB hx260_2
         replace hx260_3:=cB HB hx260_3
         replace hx260_4:=cB HB hx260_4
         replace hx260_5:=cB HB hx260_5
         replace hx260_6:=cB HB hx260_6
         replace hx260_7:=cB HB hx260_7
         replace hx260_8:=cB HB hx260_8
         replace hx260_9:=cB HB hx260_9
         have HR260_4:=Aside0.mk hi260_4
         have HC260_4:=Aside0.mk hl260_4
         clear hi260_4 hl260_4
         have HR260_9:=Aside0.mk hi260_9
         have HC260_9:=Aside0.mk hl260_9
         clear hi260_9 hl260_9
         replace p260:=eq_true p260
         replace q260:=eq_true q260
         refine start_ (n:=14) (S:=fun w' => w'.cell? ⟨gb258,0,none⟩ = some (.int .i64 a2_0) ∧ w'.cell? ⟨gb258,1,none⟩ = some (.int .i64 a2_1) ∧ w'.cell? ⟨gb258,2,none⟩ = some (.string a2_2) ∧ w'.cell? ⟨gb258,3,none⟩ = some (.int .i64 a2_3) ∧ w'.cell? ⟨gb258,4,none⟩ = some (.slice A2_4 l2_4.length c2_4) ∧ w'.cell? (ad260.add ((x9_2).toNat * 10)) = some (.int .i64 ((rd_T82 (rd_L4 l0_0 a1) x9_2).f0.f0)) ∧ w'.cell? ⟨(ad260.add ((x9_2).toNat * 10)).block,(ad260.add ((x9_2).toNat * 10)).off + 1,none⟩ = some (.int .i64 ((rd_T82 (rd_L4 l0_0 a1) x9_2).f0.f1)) ∧ w'.cell? ⟨(ad260.add ((x9_2).toNat * 10)).block,(ad260.add ((x9_2).toNat * 10)).off + 2,none⟩ = some (.string ((rd_T82 (rd_L4 l0_0 a1) x9_2).f0.f2)) ∧ w'.cell? ⟨(ad260.add ((x9_2).toNat * 10)).block,(ad260.add ((x9_2).toNat * 10)).off + 3,none⟩ = some (.int .i64 ((rd_T82 (rd_L4 l0_0 a1) x9_2).f0.f3)) ∧ w'.cell? ⟨(ad260.add ((x9_2).toNat * 10)).block,(ad260.add ((x9_2).toNat * 10)).off + 4,none⟩ = some (.slice A260_4 ((rd_T82 (rd_L4 l0_0 a1) x9_2).f0.f4).length c260_4) ∧ w'.cell? ⟨(ad260.add ((x9_2).toNat * 10)).block,(ad260.add ((x9_2).toNat * 10)).off + 5,none⟩ = some (.int .i64 ((rd_T82 (rd_L4 l0_0 a1) x9_2).f1.f0)) ∧ w'.cell? ⟨(ad260.add ((x9_2).toNat * 10)).block,(ad260.add ((x9_2).toNat * 10)).off + 6,none⟩ = some (.int .i64 ((rd_T82 (rd_L4 l0_0 a1) x9_2).f1.f1)) ∧ w'.cell? ⟨(ad260.add ((x9_2).toNat * 10)).block,(ad260.add ((x9_2).toNat * 10)).off + 7,none⟩ = some (.string ((rd_T82 (rd_L4 l0_0 a1) x9_2).f1.f2)) ∧ w'.cell? ⟨(ad260.add ((x9_2).toNat * 10)).block,(ad260.add ((x9_2).toNat * 10)).off + 8,none⟩ = some (.int .i64 ((rd_T82 (rd_L4 l0_0 a1) x9_2).f1.f3)) ∧ w'.cell? ⟨(ad260.add ((x9_2).toNat * 10)).block,(ad260.add ((x9_2).toNat * 10)).off + 9,none⟩ = some (.slice A260_9 ((rd_T82 (rd_L4 l0_0 a1) x9_2).f1.f4).length c260_9)) (ds:=[]) #[fF,fF,fF,fF,fF,fF,fF,fF,fF,fF,fF,fF,fF,fF] (by kernel_rfl) rfl rfl ⟨(blk_cell BK258.out 0).trans rfl,(blk_cell BK258.out 1).trans rfl,(blk_cell BK258.out 2).trans rfl,(blk_cell BK258.out 3).trans rfl,(blk_cell BK258.out 4).trans rfl,(cB HB hw260_0),(cB HB hw260_1),(cB HB hw260_2),(cB HB hw260_3),(cB HB hw260_4),(cB HB hw260_5),(cB HB hw260_6),(cB HB hw260_7),(cB HB hw260_8),(cB HB hw260_9)⟩ (fun hHeld => ?_);refine with_tabW windlassref4_at.tab5 windlassref4_at.bits5 (fun HT_ HW_ => ?_)
         generalize wr.drew = w22 at BK257 BK258 HB HR260_4 HR260_9 hx260_0 hx260_1 hx260_2 hx260_3 hx260_4 hx260_5 hx260_6 hx260_7 hx260_8 hx260_9 hHeld ⊢
         refine pU 0 (some 24) HT_ rfl ?_
         refine pU 1 (some 25) HT_ rfl ?_
         refine pU 2 (some 26) HT_ rfl ?_
         refine pU 3 (some 27) HT_ rfl ?_
         refine pU 4 (some 28) HT_ rfl ?_
         refine pU 5 (some 29) HT_ rfl ?_
         refine pU 6 (some 30) HT_ rfl ?_
         refine pU 7 (some 31) HT_ rfl ?_
         refine pU 8 (some 32) HT_ rfl ?_
         refine tA 9 (some 33) HT_ HW_ hHeld rfl ?_
         refine tA 10 (some 34) HT_ HW_ hHeld rfl ?_
         refine oN 11 (some 35) HT_ rfl (fun K hK => ?_)
         refine goes_ Try.func45 (by kernel_rfl) rfl #[.agg #[.int .i64 ((rd_T82 (rd_L4 l0_0 a1) x9_2).f0.f0), .int .i64 ((rd_T82 (rd_L4 l0_0 a1) x9_2).f0.f1), .string ((rd_T82 (rd_L4 l0_0 a1) x9_2).f0.f2), .int .i64 ((rd_T82 (rd_L4 l0_0 a1) x9_2).f0.f3), .slice A260_4 ((rd_T82 (rd_L4 l0_0 a1) x9_2).f0.f4).length c260_4], .agg #[.int .i64 a2_0, .int .i64 a2_1, .string a2_2, .int .i64 a2_3, .slice A2_4 l2_4.length c2_4]] (by rfl) rfl rfl aG ?_
         with_reducible refine (windlassref3_Compare.calls k2 ((rd_T82 (rd_L4 l0_0 a1) x9_2).f0.f0) ((rd_T82 (rd_L4 l0_0 a1) x9_2).f0.f1) ((rd_T82 (rd_L4 l0_0 a1) x9_2).f0.f2) ((rd_T82 (rd_L4 l0_0 a1) x9_2).f0.f3) _ _ ((rd_T82 (rd_L4 l0_0 a1) x9_2).f0.f4) a2_0 a2_1 a2_2 a2_3 _ _ l2_4 t261 _ ?side1 ?side2 ?side3 ?side4 A17.out).mono ?_
         (case side1 => repeat (first|exact (Kd.C_below HR260_4.out HB.out)|(with_reducible refine Kd.C_alloc ?_ _)|(with_reducible refine Kd.C_drewN ?_ _)|(with_reducible refine Kd.C_drew ?_)))
         (case side2 => exact HC260_4.out)
         (case side3 => repeat (first|exact (Kd.C_below HR2_4.out HB.out)|(with_reducible refine Kd.C_alloc ?_ _)|(with_reducible refine Kd.C_drewN ?_ _)|(with_reducible refine Kd.C_drew ?_)))
         (case side4 => exact HC2_4.out)
         rintro e w23 ⟨rfl,hb⟩
         refine ⟨_,rfl,?_⟩
         replace BK257:=bB BK257 hb
         replace BK258:=bB BK258 hb
         replace HB:=Aside0.mk (below_step (bL2 HB GE257 GE258) hb)
         (try clear hb)
         (try clear hb2)
         (try clear hk)
         (try clear hi)
         refine hK.out _ _ ⟨(blk_cell BK258.out 0).trans rfl,(blk_cell BK258.out 1).trans rfl,(blk_cell BK258.out 2).trans rfl,(blk_cell BK258.out 3).trans rfl,(blk_cell BK258.out 4).trans rfl,(cB HB hw260_0),(cB HB hw260_1),(cB HB hw260_2),(cB HB hw260_3),(cB HB hw260_4),(cB HB hw260_5),(cB HB hw260_6),(cB HB hw260_7),(cB HB hw260_8),(cB HB hw260_9)⟩ (fun hHeld => ?_)
         clear hK K
         refine nO ?_
         refine pU 12 (some 36) HT_ rfl ?_
         refine pU 13 (some 37) HT_ rfl ?_
         refine done_ (done_of HT_.out (by kernel_rfl)) ?_
         try go_wp2
         replace BK257:=Aside0.mk (blk_drew BK257.out)
         replace BK258:=Aside0.mk (blk_drew BK258.out)
         replace HB:=Aside0.mk (below_drew1 HB.out)
         have p262 : 0 ≤ (x9_2 : Int):=of_decide_eq_true aX
         have q262 : x9_2 < ((rd_L4 l0_0 a1).length : Int):=of_decide_eq_true aX
         obtain ⟨ad262,A262_4,c262_4,A262_9,c262_9,e262,hx262_0,hx262_1,hx262_2,hx262_3,hx262_4,hx262_5,hx262_6,hx262_7,hx262_8,hx262_9,hl262_4,hi262_4,hl262_9,hi262_9⟩:=at_T82 HR259_0.out x9_2 p262 q262
         have hw262_9:=hx262_9
         have hw262_8:=hx262_8
         have hw262_7:=hx262_7
         have hw262_6:=hx262_6
         have hw262_5:=hx262_5
         have hw262_4:=hx262_4
         have hw262_3:=hx262_3
         have hw262_2:=hx262_2
         have hw262_1:=hx262_1
         have hw262_0:=hx262_0
         obtain rfl : ad260 = ad262:=(by injection e262)
         replace hx262_0:=cB HB hx262_0
         replace hx262_1:=cB HB hx262_1
         replace hx262_2:=cB HB hx262_2
         replace hx262_3:=cB HB hx262_3
         replace hx262_4:=cB HB hx262_4
         replace hx262_5:=cB HB hx262_5
         replace hx262_6:=cB HB hx262_6
         replace hx262_7:=cB HB hx262_7
         replace hx262_8:=cB HB hx262_8
         replace hx262_9:=cB HB hx262_9
         have HR262_4:=Aside0.mk hi262_4
         have HC262_4:=Aside0.mk hl262_4
         clear hi262_4 hl262_4
         have HR262_9:=Aside0.mk hi262_9
         have HC262_9:=Aside0.mk hl262_9
         clear hi262_9 hl262_9
         replace p262:=eq_true p262
         replace q262:=eq_true q262
         refine start_ (n:=16) (S:=fun w' => w'.cell? ⟨gb258,0,none⟩ = some (.int .i64 a2_0) ∧ w'.cell? ⟨gb258,1,none⟩ = some (.int .i64 a2_1) ∧ w'.cell? ⟨gb258,2,none⟩ = some (.string a2_2) ∧ w'.cell? ⟨gb258,3,none⟩ = some (.int .i64 a2_3) ∧ w'.cell? ⟨gb258,4,none⟩ = some (.slice A2_4 l2_4.length c2_4) ∧ w'.cell? (ad260.add ((x9_2).toNat * 10)) = some (.int .i64 ((rd_T82 (rd_L4 l0_0 a1) x9_2).f0.f0)) ∧ w'.cell? ⟨(ad260.add ((x9_2).toNat * 10)).block,(ad260.add ((x9_2).toNat * 10)).off + 1,none⟩ = some (.int .i64 ((rd_T82 (rd_L4 l0_0 a1) x9_2).f0.f1)) ∧ w'.cell? ⟨(ad260.add ((x9_2).toNat * 10)).block,(ad260.add ((x9_2).toNat * 10)).off + 2,none⟩ = some (.string ((rd_T82 (rd_L4 l0_0 a1) x9_2).f0.f2)) ∧ w'.cell? ⟨(ad260.add ((x9_2).toNat * 10)).block,(ad260.add ((x9_2).toNat * 10)).off + 3,none⟩ = some (.int .i64 ((rd_T82 (rd_L4 l0_0 a1) x9_2).f0.f3)) ∧ w'.cell? ⟨(ad260.add ((x9_2).toNat * 10)).block,(ad260.add ((x9_2).toNat * 10)).off + 4,none⟩ = some (.slice A262_4 ((rd_T82 (rd_L4 l0_0 a1) x9_2).f0.f4).length c262_4) ∧ w'.cell? ⟨(ad260.add ((x9_2).toNat * 10)).block,(ad260.add ((x9_2).toNat * 10)).off + 5,none⟩ = some (.int .i64 ((rd_T82 (rd_L4 l0_0 a1) x9_2).f1.f0)) ∧ w'.cell? ⟨(ad260.add ((x9_2).toNat * 10)).block,(ad260.add ((x9_2).toNat * 10)).off + 6,none⟩ = some (.int .i64 ((rd_T82 (rd_L4 l0_0 a1) x9_2).f1.f1)) ∧ w'.cell? ⟨(ad260.add ((x9_2).toNat * 10)).block,(ad260.add ((x9_2).toNat * 10)).off + 7,none⟩ = some (.string ((rd_T82 (rd_L4 l0_0 a1) x9_2).f1.f2)) ∧ w'.cell? ⟨(ad260.add ((x9_2).toNat * 10)).block,(ad260.add ((x9_2).toNat * 10)).off + 8,none⟩ = some (.int .i64 ((rd_T82 (rd_L4 l0_0 a1) x9_2).f1.f3)) ∧ w'.cell? ⟨(ad260.add ((x9_2).toNat * 10)).block,(ad260.add ((x9_2).toNat * 10)).off + 9,none⟩ = some (.slice A262_9 ((rd_T82 (rd_L4 l0_0 a1) x9_2).f1.f4).length c262_9)) (ds:=[]) #[fF,fF,fF,fF,fF,fF,fF,fF,fF,fF,fF,fF,fF,fF,fF,fF] (by kernel_rfl) rfl rfl ⟨(blk_cell BK258.out 0).trans rfl,(blk_cell BK258.out 1).trans rfl,(blk_cell BK258.out 2).trans rfl,(blk_cell BK258.out 3).trans rfl,(blk_cell BK258.out 4).trans rfl,(cB HB hw262_0),(cB HB hw262_1),(cB HB hw262_2),(cB HB hw262_3),(cB HB hw262_4),(cB HB hw262_5),(cB HB hw262_6),(cB HB hw262_7),(cB HB hw262_8),(cB HB hw262_9)⟩ (fun hHeld => ?_);refine with_tabW windlassref4_at.tab7 windlassref4_at.bits7 (fun HT_ HW_ => ?_)
         generalize w23.drew = w24 at BK257 BK258 HB HR262_4 HR262_9 hx262_0 hx262_1 hx262_2 hx262_3 hx262_4 hx262_5 hx262_6 hx262_7 hx262_8 hx262_9 hHeld ⊢
         refine pU 0 (some 40) HT_ rfl ?_
         refine pU 1 (some 41) HT_ rfl ?_
         refine pU 2 (some 42) HT_ rfl ?_
         refine pU 3 (some 43) HT_ rfl ?_
         refine pU 4 (some 44) HT_ rfl ?_
         refine pU 5 (some 45) HT_ rfl ?_
         refine pU 6 (some 46) HT_ rfl ?_
         refine pU 7 (some 47) HT_ rfl ?_
         refine pU 8 (some 48) HT_ rfl ?_
         refine pU 9 (some 49) HT_ rfl ?_
         refine tA 10 (some 50) HT_ HW_ hHeld rfl ?_
         refine tA 11 (some 51) HT_ HW_ hHeld rfl ?_
         refine oN 12 (some 52) HT_ rfl (fun K hK => ?_)
         refine goes_ Try.func24 (by kernel_rfl) rfl #[.agg #[.int .i64 ((rd_T82 (rd_L4 l0_0 a1) x9_2).f0.f0), .int .i64 ((rd_T82 (rd_L4 l0_0 a1) x9_2).f0.f1), .string ((rd_T82 (rd_L4 l0_0 a1) x9_2).f0.f2), .int .i64 ((rd_T82 (rd_L4 l0_0 a1) x9_2).f0.f3), .slice A262_4 ((rd_T82 (rd_L4 l0_0 a1) x9_2).f0.f4).length c262_4], .agg #[.int .i64 a2_0, .int .i64 a2_1, .string a2_2, .int .i64 a2_3, .slice A2_4 l2_4.length c2_4]] (by rfl) rfl rfl aG ?_
         with_reducible refine (windlassref3_Same.calls k2 ((rd_T82 (rd_L4 l0_0 a1) x9_2).f0.f0) ((rd_T82 (rd_L4 l0_0 a1) x9_2).f0.f1) ((rd_T82 (rd_L4 l0_0 a1) x9_2).f0.f2) ((rd_T82 (rd_L4 l0_0 a1) x9_2).f0.f3) _ _ ((rd_T82 (rd_L4 l0_0 a1) x9_2).f0.f4) a2_0 a2_1 a2_2 a2_3 _ _ l2_4 t263 _ ?side1 ?side2 ?side3 ?side4 A21.out).mono ?_
         (case side1 => repeat (first|exact (Kd.C_below HR262_4.out HB.out)|(with_reducible refine Kd.C_alloc ?_ _)|(with_reducible refine Kd.C_drewN ?_ _)|(with_reducible refine Kd.C_drew ?_)))
         (case side2 => exact HC262_4.out)
         (case side3 => repeat (first|exact (Kd.C_below HR2_4.out HB.out)|(with_reducible refine Kd.C_alloc ?_ _)|(with_reducible refine Kd.C_drewN ?_ _)|(with_reducible refine Kd.C_drew ?_)))
         (case side4 => exact HC2_4.out)
         rintro e w25 ⟨rfl,hb⟩
         refine ⟨_,rfl,?_⟩
         replace BK257:=bB BK257 hb
         replace BK258:=bB BK258 hb
         replace HB:=Aside0.mk (below_step (bL2 HB GE257 GE258) hb)
         (try clear hb)
         (try clear hb2)
         (try clear hk)
         (try clear hi)
         refine hK.out _ _ ⟨(blk_cell BK258.out 0).trans rfl,(blk_cell BK258.out 1).trans rfl,(blk_cell BK258.out 2).trans rfl,(blk_cell BK258.out 3).trans rfl,(blk_cell BK258.out 4).trans rfl,(cB HB hw262_0),(cB HB hw262_1),(cB HB hw262_2),(cB HB hw262_3),(cB HB hw262_4),(cB HB hw262_5),(cB HB hw262_6),(cB HB hw262_7),(cB HB hw262_8),(cB HB hw262_9)⟩ (fun hHeld => ?_)
         clear hK K
         refine nO ?_
         refine pU 13 (some 53) HT_ rfl ?_
         refine pU 14 (some 6) HT_ rfl ?_
         refine pU 15 (some 7) HT_ rfl ?_
         refine done_ (done_of HT_.out (by kernel_rfl)) ?_
         try go_wp2
         go_ret2
         exact ⟨by first|rfl|(simp [errW_none,errW_some] <;> rfl)|(simp [*,errW_none,errW_some] <;> rfl),by repeat (first|(with_reducible first|exact HB.out|apply below_alloc|apply pw_below_drewN|apply below_drew1|refine below_set ?_ GE257.out|refine below_set ?_ GE258.out)|exact HB.out)⟩
        rw [if_neg c16] at H
        exact absurd H (by simp)
       rw [if_neg c15] at H
       have c15b0 : decide (x9_2 < ((rd_L4 l0_0 a1).length : Int)) = false:=decide_eq_false c15
       clear c15
       simp only [Option.some.injEq,Prod.mk.injEq] at H
       obtain ⟨rfl,rfl⟩:=H
       try go_wp2
       replace BK257:=Aside0.mk (blk_drew BK257.out)
       replace BK258:=Aside0.mk (blk_drew BK258.out)
       replace HB:=Aside0.mk (below_drew1 HB.out)
       refine start_ (n:=14) (S:=fun w' => True) (ds:=[]) #[fF,fF,fF,fF,fF,fF,fF,fF,fF,fF,fF,fF,fF,fF] (by kernel_rfl) rfl rfl trivial (fun hHeld => ?_);refine with_tabW windlassref4_at.tab5 windlassref4_at.bits5 (fun HT_ HW_ => ?_)
       generalize wr.drew = w26 at BK257 BK258 HB hHeld ⊢
       refine pU 0 (some 24) HT_ rfl ?_
       refine pU 1 (some 25) HT_ rfl ?_
       refine pU 2 (some 26) HT_ rfl ?_
       refine pU 3 (some 27) HT_ rfl ?_
       refine pU 4 (some 28) HT_ rfl ?_
       refine pO 5 (some 29) HT_ rfl ?_
       refine pO 6 (some 30) HT_ rfl ?_
       refine pO 7 (some 31) HT_ rfl ?_
       refine pO 8 (some 32) HT_ rfl ?_
       refine pO 9 (some 33) HT_ rfl ?_
       refine pO 10 (some 34) HT_ rfl ?_
       refine pO 11 (some 35) HT_ rfl ?_
       refine pO 12 (some 36) HT_ rfl ?_
       refine pU 13 (some 37) HT_ rfl ?_
       refine done_ (done_of HT_.out (by kernel_rfl)) ?_
       try go_wp2
       replace BK257:=Aside0.mk (blk_drew BK257.out)
       replace BK258:=Aside0.mk (blk_drew BK258.out)
       replace HB:=Aside0.mk (below_drew1 HB.out)
       refine start_ (n:=16) (S:=fun w' => True) (ds:=[]) #[fF,fF,fF,fF,fF,fF,fF,fF,fF,fF,fF,fF,fF,fF,fF,fF] (by kernel_rfl) rfl rfl trivial (fun hHeld => ?_);refine with_tabW windlassref4_at.tab7 windlassref4_at.bits7 (fun HT_ HW_ => ?_)
       generalize w26.drew = w27 at BK257 BK258 HB hHeld ⊢
       refine pU 0 (some 40) HT_ rfl ?_
       refine pU 1 (some 41) HT_ rfl ?_
       refine pU 2 (some 42) HT_ rfl ?_
       refine pU 3 (some 43) HT_ rfl ?_
       refine pU 4 (some 44) HT_ rfl ?_
       refine pU 5 (some 45) HT_ rfl ?_
       refine pO 6 (some 46) HT_ rfl ?_
       refine pO 7 (some 47) HT_ rfl ?_
       refine pO 8 (some 48) HT_ rfl ?_
       refine pO 9 (some 49) HT_ rfl ?_
       refine pO 10 (some 50) HT_ rfl ?_
       refine pO 11 (some 51) HT_ rfl ?_
       refine pO 12 (some 52) HT_ rfl ?_
       refine pU 13 (some 53) HT_ rfl ?_
       refine pU 14 (some 6) HT_ rfl ?_
       refine pU 15 (some 7) HT_ rfl ?_
       refine done_ (done_of HT_.out (by kernel_rfl)) ?_
       try go_wp2
       go_ret2
       exact ⟨by first|rfl|(simp [errW_none,errW_some] <;> rfl)|(simp [*,errW_none,errW_some] <;> rfl),by repeat (first|(with_reducible first|exact HB.out|apply below_alloc|apply pw_below_drewN|apply below_drew1|refine below_set ?_ GE257.out|refine below_set ?_ GE258.out)|exact HB.out)⟩
    rw [if_neg c12] at H
    exact absurd H (by simp)
   rw [if_neg c11] at H
   exact absurd H (by simp)

end Go.Proofs.Ytnokieaebnmljaa.PAll
namespace Go.Proofs.Ytnokieaebnmljaa.PAll
open Go Go.Proofs Go.RowKit Go.Shelf Go.Proofs.YtnokieaebnmljaaW.PrintWords Go.Proofs.YtnokieaebnmljaaW.PrintLast Go.Proofs.YtnokieaebnmljaaW.PrintMore
attribute [local go_sem] Oper.semAt_some
set_option linter.unusedVariables false
set_option linter.unusedSimpArgs false

/-- An entry as a row's element has it. -/
structure EE (w0 : World) (ok : Nat → Prop) where
  x : S82
  A4 : Option Addr
  c4 : Nat
  le4 : x.f0.f4.length ≤ c4
  rd4 : Kd.F k35 w0 ok A4 x.f0.f4.length x.f0.f4
  A9 : Option Addr
  c9 : Nat
  le9 : x.f1.f4.length ≤ c9
  rd9 : Kd.F k35 w0 ok A9 x.f1.f4.length x.f1.f4
def EE.v {w0 : World} {ok : Nat → Prop} (e : EE w0 ok) : Value := .agg #[.int .i64 e.x.f0.f0, .int .i64 e.x.f0.f1, .string e.x.f0.f2, .int .i64 e.x.f0.f3, .slice e.A4 e.x.f0.f4.length e.c4, .int .i64 e.x.f1.f0, .int .i64 e.x.f1.f1, .string e.x.f1.f2, .int .i64 e.x.f1.f3, .slice e.A9 e.x.f1.f4.length e.c9]
def RowE {w0 : World} {ok : Nat → Prop} (W : World) (A : Option Addr) (n : Nat) (es : List (EE w0 ok)) : Prop :=
  n = es.length ∧ ∀ i (h : i < es.length), ∃ ad, A = some ad ∧ W.cell? (ad.add (i * 10)) = some (.int .i64 es[i].x.f0.f0) ∧ W.cell? ⟨(ad.add (i * 10)).block, (ad.add (i * 10)).off + 1, none⟩ = some (.int .i64 es[i].x.f0.f1) ∧ W.cell? ⟨(ad.add (i * 10)).block, (ad.add (i * 10)).off + 2, none⟩ = some (.string es[i].x.f0.f2) ∧ W.cell? ⟨(ad.add (i * 10)).block, (ad.add (i * 10)).off + 3, none⟩ = some (.int .i64 es[i].x.f0.f3) ∧ W.cell? ⟨(ad.add (i * 10)).block, (ad.add (i * 10)).off + 4, none⟩ = some (.slice es[i].A4 es[i].x.f0.f4.length es[i].c4) ∧ W.cell? ⟨(ad.add (i * 10)).block, (ad.add (i * 10)).off + 5, none⟩ = some (.int .i64 es[i].x.f1.f0) ∧ W.cell? ⟨(ad.add (i * 10)).block, (ad.add (i * 10)).off + 6, none⟩ = some (.int .i64 es[i].x.f1.f1) ∧ W.cell? ⟨(ad.add (i * 10)).block, (ad.add (i * 10)).off + 7, none⟩ = some (.string es[i].x.f1.f2) ∧ W.cell? ⟨(ad.add (i * 10)).block, (ad.add (i * 10)).off + 8, none⟩ = some (.int .i64 es[i].x.f1.f3) ∧ W.cell? ⟨(ad.add (i * 10)).block, (ad.add (i * 10)).off + 9, none⟩ = some (.slice es[i].A9 es[i].x.f1.f4.length es[i].c9)
theorem rowE_of {w0 : World} {ok : Nat → Prop} {A : Option Addr} {l : List S82} (h : Kd.F k82 w0 ok A l.length l) : ∃ es : List (EE w0 ok), es.map (·.x) = l ∧ RowE w0 A l.length es := by
  have hx : ∀ i (hi : i < l.length), ∃ e : EE w0 ok, e.x = l[i] ∧ ∃ ad, A = some ad ∧ w0.cell? (ad.add (i * 10)) = some (.int .i64 e.x.f0.f0) ∧ w0.cell? ⟨(ad.add (i * 10)).block, (ad.add (i * 10)).off + 1, none⟩ = some (.int .i64 e.x.f0.f1) ∧ w0.cell? ⟨(ad.add (i * 10)).block, (ad.add (i * 10)).off + 2, none⟩ = some (.string e.x.f0.f2) ∧ w0.cell? ⟨(ad.add (i * 10)).block, (ad.add (i * 10)).off + 3, none⟩ = some (.int .i64 e.x.f0.f3) ∧ w0.cell? ⟨(ad.add (i * 10)).block, (ad.add (i * 10)).off + 4, none⟩ = some (.slice e.A4 e.x.f0.f4.length e.c4) ∧ w0.cell? ⟨(ad.add (i * 10)).block, (ad.add (i * 10)).off + 5, none⟩ = some (.int .i64 e.x.f1.f0) ∧ w0.cell? ⟨(ad.add (i * 10)).block, (ad.add (i * 10)).off + 6, none⟩ = some (.int .i64 e.x.f1.f1) ∧ w0.cell? ⟨(ad.add (i * 10)).block, (ad.add (i * 10)).off + 7, none⟩ = some (.string e.x.f1.f2) ∧ w0.cell? ⟨(ad.add (i * 10)).block, (ad.add (i * 10)).off + 8, none⟩ = some (.int .i64 e.x.f1.f3) ∧ w0.cell? ⟨(ad.add (i * 10)).block, (ad.add (i * 10)).off + 9, none⟩ = some (.slice e.A9 e.x.f1.f4.length e.c9) := by
    intro i hi
    obtain ⟨ad, cs, ha, hcl, hK, hcc, _⟩ := Kd.F_get h z82 (i : Int) (by omega) (by omega)
    have er : l.getD (i : Int).toNat z82 = l[i] := by simp [hi]
    rw [er] at hK
    rw [Int.toNat_natCast] at hcc
    obtain ⟨A4, c4, A9, c9, rfl, hle4, hr4, hle9, hr9⟩ := k82_openF hK
    rw [show k82.sz = 10 from rfl] at hcc
    replace hcc : ∀ j u, _ := hcc
    exact ⟨⟨l[i], A4, c4, hle4, hr4, A9, c9, hle9, hr9⟩, rfl, ad, ha, hcc 0 _ rfl, by rw [← add_field _ _ 1 (by omega)]; exact hcc 1 _ rfl, by rw [← add_field _ _ 2 (by omega)]; exact hcc 2 _ rfl, by rw [← add_field _ _ 3 (by omega)]; exact hcc 3 _ rfl, by rw [← add_field _ _ 4 (by omega)]; exact hcc 4 _ rfl, by rw [← add_field _ _ 5 (by omega)]; exact hcc 5 _ rfl, by rw [← add_field _ _ 6 (by omega)]; exact hcc 6 _ rfl, by rw [← add_field _ _ 7 (by omega)]; exact hcc 7 _ rfl, by rw [← add_field _ _ 8 (by omega)]; exact hcc 8 _ rfl, by rw [← add_field _ _ 9 (by omega)]; exact hcc 9 _ rfl⟩
  refine ⟨List.ofFn (fun i : Fin l.length => Classical.choose (hx i.1 i.2)), ?_, by simp, ?_⟩
  · apply List.ext_getElem
    · simp
    · intro i h1 h2
      simp only [List.getElem_map, List.getElem_ofFn]
      exact (Classical.choose_spec (hx i h2)).1
  · intro i hi
    have hi' : i < l.length := by simpa using hi
    simp only [List.getElem_ofFn]
    exact (Classical.choose_spec (hx i hi')).2
theorem RowE.below {w0 W : World} {ok : Nat → Prop} {A : Option Addr} {n : Nat} {es : List (EE w0 ok)} (h : Below w0.heap.size w0 W) (hr : RowE w0 A n es) : RowE W A n es :=
  ⟨hr.1, fun i hi => let ⟨ad, ha, h0, h1, h2, h3, h4, h5, h6, h7, h8, h9⟩ := hr.2 i hi; ⟨ad, ha, El.cell h h0, El.cell h h1, El.cell h h2, El.cell h h3, El.cell h h4, El.cell h h5, El.cell h h6, El.cell h h7, El.cell h h8, El.cell h h9⟩⟩
/-- A row's elements with their places. -/
def en {α : Type} (es : List α) : List (Nat × α) := (List.range es.length).zip es
theorem en_length {α : Type} (es : List α) : (en es).length = es.length := by simp [en]
theorem en_getElem {α : Type} (es : List α) (k : Nat) (h : k < (en es).length) (h' : k < es.length) : (en es)[k] = (k, es[k]) := by simp [en]
theorem en_take {α : Type} (es : List α) (k : Nat) (h : k < es.length) : (en es).take k ++ [(k, es[k])] = (en es).take (k + 1) := by
  have h2 : k < (en es).length := by rw [en_length]; exact h
  rw [List.take_succ_eq_append_getElem h2, en_getElem es k h2 h]

attribute [local go_sem] max2_int min2_int max_two min_two
set_option maxRecDepth 100000 in
set_option maxHeartbeats 2000000 in
/-- entries' closure where there is such a map. -/
theorem entries1_in (n : Nat) (hn : 1 ≤ n) (l B1 B2 : Nat) (w0 : World) (ok : Nat → Prop) (ad0 : Addr) (n0 c0 : Nat) (m : Int) (hm0 : 0 ≤ m) (hm1 : m < (n0 : Int)) (Am : Option Addr) (cm : Nat) (es : List (EE w0 ok))
    (hcell : w0.cell? (ad0.add m.toNat) = some (.slice Am es.length cm)) (hr : RowE w0 Am es.length es) (hl : es.length ≤ 9223372036854775807) (J Jx : List (Nat × EE w0 ok) → World → Prop)
    (hY : ∀ pre x W, J pre W → pre ++ [x] <+: en es → YieldAt Fence.wide (n - 1) Try.prog l #[.int .i64 (x.1 : Int), x.2.v] W fun e W' =>
      (e = .returned (.bool true) ∧ J (pre ++ [x]) W' ∧ Below w0.heap.size W W') ∨ (e = .returned (.bool false) ∧ Jx (pre ++ [x]) W'))
    (hJg : ∀ pre W W', J pre W → W.grownBy W' none → J pre W')
    (W : World) (hW : Below w0.heap.size w0 W) (hb1 : W.cell? ⟨B1, 0, none⟩ = some (.int .i64 m)) (hb2 : W.cell? ⟨B2, 0, none⟩ = some (.slice (some ad0) n0 c0)) (h0 : J [] W) :
    CallsIn Fence.wide n Try.prog 59 #[.func (.yield l) #[] #[], .pointer (some ⟨B1, 0, none⟩), .pointer (some ⟨B2, 0, none⟩)] W fun e W' => (∃ v, e = .returned v) ∧
      (J (en es) W' ∨ (∃ pre, pre <+: en es ∧ Jx pre W')) := by
  refine callsIn_of_wp Try.func59 rfl trivial ?_ rfl
  simp only [Try.ntmps59, List.size_toArray, List.length_cons, List.length_nil, Nat.reduceAdd, Nat.reduceSub, Array.replicate_succ, Array.replicate_zero, List.push_toArray, List.append_toArray, List.nil_append, List.cons_append]
  have hu27 := Try.underlying27
  have hu82 := Try.underlying82
  have hu35 := Try.underlying35
  have hcW := El.cell hW hcell
  have hm2 : decide (m < 0) = false := decide_eq_false (by omega)
  have hm3 : decide (m ≥ (n0 : Int)) = false := decide_eq_false (by omega)
  have HH := Aside0.mk (And.intro hY (And.intro hJg hr))
  clear hY hJg hr
  gi_wp2
  gi_loopw [21] (fun i wr => ∃ k : Nat, k ≤ es.length ∧ i = .int .i64 k ∧ J ((en es).take k) wr ∧ Below w0.heap.size w0 wr)
      (fun i _ => es.length - (intOf i).toNat)
  case atStart => exact ⟨0, Nat.zero_le _, rfl, h0, hW⟩
  case round =>
    obtain ⟨k, hk, rfl, hJs, hnx⟩ := hrel
    by_cases hlt : k < es.length
    · obtain ⟨ad1, rfl, p0, p1, p2, p3, p4, p5, p6, p7, p8, p9⟩ := (HH.out.2.2.below hnx).2 k hlt
      have hpre : (en es).take k ++ [(k, es[k])] <+: en es := by rw [en_take es k hlt]; exact List.take_prefix _ _
      have htk := en_take es k hlt
      generalize es[k] = e at p0 p1 p2 p3 p4 p5 p6 p7 p8 p9 hpre htk
      obtain ⟨fn, tmps, assign, body, hy, hR⟩ := HH.out.1 _ (k, e) (wr.alloc (Obj.cells #[.int .i64 e.x.f0.f0, .int .i64 e.x.f0.f1, .string e.x.f0.f2, .int .i64 e.x.f0.f3, .slice e.A4 e.x.f0.f4.length e.c4, .int .i64 e.x.f1.f0, .int .i64 e.x.f1.f1, .string e.x.f1.f2, .int .i64 e.x.f1.f3, .slice e.A9 e.x.f1.f4.length e.c9] 82)) (HH.out.2.1 _ _ _ hJs (World.grownBy_alloc wr _ none)) hpre
      rw [htk] at hR
      simp only [EE.v] at hy
      have hR' := hR.mono (R' := fun e_ W' => ∃ b : Bool, e_ = .returned (.bool b) ∧ ((b = true ∧ J ((en es).take (k + 1)) W' ∧ Below w0.heap.size (wr.alloc (Obj.cells #[.int .i64 e.x.f0.f0, .int .i64 e.x.f0.f1, .string e.x.f0.f2, .int .i64 e.x.f0.f3, .slice e.A4 e.x.f0.f4.length e.c4, .int .i64 e.x.f1.f0, .int .i64 e.x.f1.f1, .string e.x.f1.f2, .int .i64 e.x.f1.f3, .slice e.A9 e.x.f1.f4.length e.c9] 82)) W') ∨ (b = false ∧ Jx ((en es).take (k + 1)) W'))) (by
        rintro e_ W' (⟨rfl, h⟩ | ⟨rfl, h⟩)
        · exact ⟨true, rfl, .inl ⟨rfl, h⟩⟩
        · exact ⟨false, rfl, .inr ⟨rfl, h⟩⟩)
      clear hR htk hpre
      have HJs := Aside0.mk hJs
      have HNX := Aside0.mk hnx
      obtain ⟨L1, hL1⟩ : ∃ L1, L1 = (en es).take (k + 1) := ⟨_, rfl⟩
      rw [← hL1] at hR'
      have HL1 := Aside0.mk hL1
      clear hJs hL1
      have HLT := Aside0.mk hlt
      gi_wp2
      refine hR'.mono ?_
      rintro e_ W3 ⟨b, rfl, hb3_⟩
      have hb3 := Aside0.mk hb3_
      clear hb3_
      rcases hb3.out with ⟨rfl, hJ3, hk3⟩ | ⟨rfl, hJx3⟩
      · gi_wp2
        go_roundw
        case rel => exact ⟨k + 1, HLT.out, by simp, HL1.out ▸ hJ3, (HNX.out.alloc HNX.out.size _).trans hk3⟩
        case measure => have hlt := HLT.out; simp [intOf]; omega
      · gi_wp2
        refine bodyPost_ret (results_none rfl _ _ _) rfl ?_
        exact ⟨⟨_, rfl⟩, .inr ⟨L1, HL1.out ▸ List.take_prefix _ _, hJx3⟩⟩
    · obtain rfl : k = es.length := by omega
      gi_wp2
      go_end0
      rw [← en_length es, List.take_length] at hJs
      exact ⟨⟨_, rfl⟩, .inl hJs⟩

set_option maxHeartbeats 2000000 in
/-- .. and where there is none. -/
theorem entries0_in (n : Nat) (l B1 B2 : Nat) (A0 : Option Addr) (n0 c0 : Nat) (m : Int) (hm : m < 0 ∨ (n0 : Int) ≤ m) (J : World → Prop)
    (W : World) (hb1 : W.cell? ⟨B1, 0, none⟩ = some (.int .i64 m)) (hb2 : W.cell? ⟨B2, 0, none⟩ = some (.slice A0 n0 c0)) (h0 : J W) :
    CallsIn Fence.wide n Try.prog 59 #[.func (.yield l) #[] #[], .pointer (some ⟨B1, 0, none⟩), .pointer (some ⟨B2, 0, none⟩)] W fun e W' => (∃ v, e = .returned v) ∧ J W' := by
  refine callsIn_of_wp Try.func59 rfl trivial ?_ rfl
  simp only [Try.ntmps59, List.size_toArray, List.length_cons, List.length_nil, Nat.reduceAdd, Nat.reduceSub, Array.replicate_succ, Array.replicate_zero, List.push_toArray, List.append_toArray, List.nil_append, List.cons_append]
  have hu27 := Try.underlying27
  by_cases hlt : m < 0
  · have hm2 : decide (m < 0) = true := decide_eq_true hlt
    gi_wp2
    refine bodyPost_ret (results_none rfl _ _ _) rfl ?_
    exact ⟨⟨_, rfl⟩, h0⟩
  · have hm2 : decide (m < 0) = false := decide_eq_false hlt
    have hm3 : decide ((n0 : Int) ≤ m) = true := decide_eq_true (by omega)
    gi_wp2
    refine bodyPost_ret (results_none rfl _ _ _) rfl ?_
    exact ⟨⟨_, rfl⟩, h0⟩

/-- What entries gives of a state: the rows of its map m, if there is one. -/
def mapOf (l0 : List (List S82)) (m : Int) : List S82 := if 0 ≤ m ∧ m < (l0.length : Int) then rd_L4 l0 m else []
theorem entries_stops (w wl : World) (hwl : Below w.heap.size w wl) (ok : Nat → Prop) (B1 B2 : Nat) (A0 : Option Addr) (c0 : Nat) (l0 : List (List S82)) (m : Int) (hF : Kd.F (Kd.slice 82 k82) w ok A0 l0.length l0) (hB1 : B1 < wl.heap.size) (hB2 : B2 < wl.heap.size)
    (hb1 : wl.cell? ⟨B1, 0, none⟩ = some (.int .i64 m)) (hb2 : wl.cell? ⟨B2, 0, none⟩ = some (.slice A0 l0.length c0)) :
    ∃ es : List (EE w ok), es.map (·.x) = mapOf l0 m ∧ ∀ D : Nat × EE w ok → Prop, (∀ p ∈ en es, D p) →
      SeqStopsK Fence.wide 3 Try.prog 59 #[.pointer (some ⟨B1, 0, none⟩), .pointer (some ⟨B2, 0, none⟩)] (fun x : { p : Nat × EE w ok // D p } => #[.int .i64 (x.1.1 : Int), x.1.2.v]) (Below w.heap.size) (fun ys => ys.map (·.1) = en es) (fun pre => pre.map (·.1) <+: en es) (en es).length wl := by
  have hbx : ∀ {W' : World}, Below wl.heap.size wl W' → W'.cell? ⟨B1, 0, none⟩ = some (.int .i64 m) ∧ W'.cell? ⟨B2, 0, none⟩ = some (.slice A0 l0.length c0) := fun h =>
    ⟨(h.cell (p := ⟨B1, 0, none⟩) hB1).trans hb1, (h.cell (p := ⟨B2, 0, none⟩) hB2).trans hb2⟩
  by_cases hm : 0 ≤ m ∧ m < (l0.length : Int)
  · obtain ⟨ad, cs, rfl, hcl, hK, hcc, _⟩ := Kd.F_get hF ([] : List S82) m hm.1 hm.2
    obtain ⟨Am, cm, rfl, hle, hFm⟩ := Kd.FK_slice_open hK
    have hc0 := hcc 0 _ rfl
    rw [show (Kd.slice 82 k82).sz = 1 from rfl, Nat.mul_one, Nat.add_zero] at hc0
    obtain ⟨es, he, hr⟩ := rowE_of hFm
    refine ⟨es, by rw [he]; simp [mapOf, hm, rd_L4], fun D hD l J Jx W hW hJ hJx hY h0 => ?_⟩
    have hn := hr.1
    have hmax := Kd.F_max hFm
    rw [hn] at hc0 hr hmax
    refine (entries1_in 3 (by omega) l B1 B2 w ok ad l0.length c0 m hm.1 hm.2 Am cm es hc0 hr hmax (fun pre W => ∃ ys : List { p : Nat × EE w ok // D p }, ys.map (·.1) = pre ∧ J ys W) (fun pre W => ∃ ys : List { p : Nat × EE w ok // D p }, ys.map (·.1) = pre ∧ Jx ys W) ?_
      (fun pre X Y ⟨ys, h1, h2⟩ hg => ⟨ys, h1, hJ ys X Y none h2 hg (by simp)⟩) W (hwl.trans (hW.mono hwl.size)) (hbx hW).1 (hbx hW).2 ⟨[], rfl, h0⟩).mono ?_
    · rintro pre x W1 ⟨ys, rfl, hj⟩ hpre
      have hx : D x := hD x (hpre.subset (by simp))
      have hlen := hpre.length_le
      simp only [List.length_append, List.length_map, List.length_cons, List.length_nil] at hlen
      obtain ⟨fn, tmps, assign, body, hy, hR⟩ := hY ys ⟨x, hx⟩ W1 hj (by omega)
      refine ⟨fn, tmps, assign, body, hy, hR.mono ?_⟩
      rintro e W' (⟨rfl, h1, h2⟩ | ⟨rfl, h1⟩)
      · exact .inl ⟨rfl, ⟨_, by simp, h1⟩, h2⟩
      · exact .inr ⟨rfl, _, by simp, h1⟩
    · rintro e W' ⟨he, ⟨ys, h1, h2⟩ | ⟨pre, hp, ys, rfl, h⟩⟩
      · exact ⟨he, .inl ⟨ys, h1, h2⟩⟩
      · exact ⟨he, .inr ⟨ys, hp, h⟩⟩
  · refine ⟨[], by simp [mapOf, hm], fun D hD l J Jx W hW hJ hJx hY h0 => ?_⟩
    refine (entries0_in 3 l B1 B2 A0 l0.length c0 m (by omega) (fun W => J [] W) W (hbx hW).1 (hbx hW).2 h0).mono ?_
    rintro e W' ⟨he, h⟩
    exact ⟨he, .inl ⟨[], by simp [en], h⟩⟩
end Go.Proofs.Ytnokieaebnmljaa.PAll
namespace Go.Proofs.Ytnokieaebnmljaa.PAll
open Go Go.Proofs Go.RowKit Go.Shelf Go.Proofs.YtnokieaebnmljaaW.PrintWords Go.Proofs.YtnokieaebnmljaaW.PrintLast Go.Proofs.YtnokieaebnmljaaW.PrintMore
attribute [local go_sem] Oper.semAt_some
set_option linter.unusedVariables false
set_option linter.unusedSimpArgs false
/-- Five cells of a block, stored one by one. -/
abbrev set5 (W : World) (g : Nat) (v0 v1 v2 v3 v4 : Value) : World := ((((W.setCell ⟨g, 0, none⟩ v0).setCell ⟨g, 1, none⟩ v1).setCell ⟨g, 2, none⟩ v2).setCell ⟨g, 3, none⟩ v3).setCell ⟨g, 4, none⟩ v4
theorem set5_blk {W : World} {g t : Nat} {u0 u1 u2 u3 u4 : Value} (h : W.heap[g]? = some (.cells #[u0, u1, u2, u3, u4] t (0, 0))) (v0 v1 v2 v3 v4 : Value) : (set5 W g v0 v1 v2 v3 v4).heap[g]? = some (.cells #[v0, v1, v2, v3, v4] t (0, 0)) :=
  blk_put (cs := #[v0, v1, v2, v3, u4]) (blk_put (cs := #[v0, v1, v2, u3, u4]) (blk_put (cs := #[v0, v1, u2, u3, u4]) (blk_put (cs := #[v0, u1, u2, u3, u4]) (blk_put (cs := #[u0, u1, u2, u3, u4]) h 0 _ rfl) 1 _ rfl) 2 _ rfl) 3 _ rfl) 4 _ rfl
theorem set5_far {W : World} {g k : Nat} {o : Obj} (h : W.heap[k]? = some o) (hne : k ≠ g) (v0 v1 v2 v3 v4 : Value) : (set5 W g v0 v1 v2 v3 v4).heap[k]? = some o := by
  have hs := fun (X : World) (p : Addr) (u : Value) (hp : p.block = g) => Below.heap_setCell X p u k (by rw [hp]; exact hne)
  rw [hs _ _ _ rfl, hs _ _ _ rfl, hs _ _ _ rfl, hs _ _ _ rfl, hs _ _ _ rfl]
  exact h
theorem set5_below {n : Nat} {X W : World} {g : Nat} (h : Below n X W) (hg : n ≤ g) (v0 v1 v2 v3 v4 : Value) : Below n X (set5 W g v0 v1 v2 v3 v4) :=
  ((((h.setCell (p := ⟨g, 0, none⟩) hg _).setCell (p := ⟨g, 1, none⟩) hg _).setCell (p := ⟨g, 2, none⟩) hg _).setCell (p := ⟨g, 3, none⟩) hg _).setCell (p := ⟨g, 4, none⟩) hg _
theorem set5_keeps (W : World) (g : Nat) (v0 v1 v2 v3 v4 : Value) : KeepsOthers W (set5 W g v0 v1 v2 v3 v4) :=
  ((((KeepsOthers.setCell _ _ _).trans (KeepsOthers.setCell _ _ _)).trans (KeepsOthers.setCell _ _ _)).trans (KeepsOthers.setCell _ _ _)).trans (KeepsOthers.setCell _ _ _)
def heap_First.f (l0_0 : List (List S82)) (a1 : Int) : Option (Int × Int × ByteArray × Int × List S35 × Bool) :=
  match mapOf l0_0 a1 with
  | [] => some (0, 0, ⟨#[]⟩, 0, [], false)
  | e :: _ => some (e.f0.f0, e.f0.f1, e.f0.f2, e.f0.f3, e.f0.f4, true)
set_option maxHeartbeats 8000000 in
set_option maxRecDepth 100000 in
theorem heap_First.calls (P0_0_ : Nat → Prop) (A0_0 : Option Addr) (c0_0 : Nat) (l0_0 : List (List (S82))) (a1 : Int) (r1 : Int) (r2 : Int) (r3 : ByteArray) (r4 : Int) (r5 : List (S35)) (r6 : Bool) (w : World) (hs0_0 : Kd.V (Kd.slice 82 k82) 41 w w.heap.size (fun k_ => P0_0_ k_) (.slice A0_0 l0_0.length c0_0) l0_0) (h : heap_First.f l0_0 a1 = some (r1, r2, r3, r4, r5, r6)) :
    Calls Try.prog 13 #[.agg #[.slice A0_0 l0_0.length c0_0], .int .i64 a1] w fun e w' => ∃ v4_ : Value, e = .returned (.tuple #[.agg #[.int .i64 r1, .int .i64 r2, .string r3, .int .i64 r4, v4_], .bool r6]) ∧ Kd.V k35 35 w' w.heap.size (fun k_ => (P0_0_ k_ ∨ w.heap.size ≤ k_)) v4_ r5 ∧ Below w.heap.size w w' := by
  have hu27 := Try.underlying27
  have hu35 := Try.underlying35
  have hu82 := Try.underlying82
  have HF := Aside0.mk (Kd.V_F hs0_0)
  have HH := Aside0.mk h
  clear hs0_0 h
  refine (callsIn_wide (n := 5)).1 ?_
  refine callsIn_of_wp_marks Try.func13 rfl trivial ?_ rfl
  simp only [Try.ntmps13, List.size_toArray, List.length_cons, List.length_nil, Nat.reduceAdd, Nat.reduceSub, Array.replicate_succ, Array.replicate_zero, List.push_toArray, List.append_toArray, List.nil_append, List.cons_append]
  refine wpIn_wide.2 ?_
  refine wp_mono ?_ retOnly_imp
  go_wp2
  obtain ⟨wl, hwl⟩ : ∃ wl, wl = ((((w.alloc (Obj.cells #[.slice A0_0 l0_0.length c0_0] 27)).alloc (Obj.cells #[.int .i64 0, .int .i64 0, .string (⟨#[]⟩ : ByteArray), .int .i64 0, .slice none 0 0] 35)).alloc (Obj.cells #[.bool false] 4)).alloc (Obj.cells #[.slice A0_0 l0_0.length c0_0] 27)).alloc (Obj.cells #[.int .i64 a1] 3) := ⟨_, rfl⟩
  rw [← hwl]
  have hsz : wl.heap.size = w.heap.size + 5 := by rw [hwl]; simp
  have hB0 : Below w.heap.size w wl := by
    rw [hwl]
    exact (((((Below.refl _ w).alloc (Nat.le_refl _) _).alloc (by simp) _).alloc (by simp; omega) _).alloc (by simp; omega) _).alloc (by simp; omega) _
  have R4 : wl.heap[w.heap.size + 1]? = some (.cells #[.int .i64 0, .int .i64 0, .string (⟨#[]⟩ : ByteArray), .int .i64 0, .slice none 0 0] 35 (0, 0)) := by
    rw [hwl]
    exact blk_alloc (blk_alloc (blk_alloc (by have h_ := World.alloc_heap_new (w.alloc (Obj.cells #[.slice A0_0 l0_0.length c0_0] 27)) (Obj.cells #[.int .i64 0, .int .i64 0, .string (⟨#[]⟩ : ByteArray), .int .i64 0, .slice none 0 0] 35); rwa [World.size_alloc] at h_) _) _) _
  have R5 : wl.heap[w.heap.size + 1 + 1]? = some (.cells #[.bool false] 4 (0, 0)) := by
    rw [hwl]
    exact blk_alloc (blk_alloc (by have h_ := World.alloc_heap_new ((w.alloc (Obj.cells #[.slice A0_0 l0_0.length c0_0] 27)).alloc (Obj.cells #[.int .i64 0, .int .i64 0, .string (⟨#[]⟩ : ByteArray), .int .i64 0, .slice none 0 0] 35)) (Obj.cells #[.bool false] 4); rwa [World.size_alloc, World.size_alloc] at h_) _) _
  have hbS : wl.cell? ⟨w.heap.size + 1 + 1 + 1, 0, none⟩ = some (.slice A0_0 l0_0.length c0_0) := by
    have h_ := ((Boxed.new (((w.alloc (Obj.cells #[.slice A0_0 l0_0.length c0_0] 27)).alloc (Obj.cells #[.int .i64 0, .int .i64 0, .string (⟨#[]⟩ : ByteArray), .int .i64 0, .slice none 0 0] 35)).alloc (Obj.cells #[.bool false] 4)) 27 (.slice A0_0 l0_0.length c0_0)).alloc (Obj.cells #[.int .i64 a1] 3)).cell
    rw [World.size_alloc, World.size_alloc, World.size_alloc] at h_
    rw [hwl]
    exact h_
  have hbM : wl.cell? ⟨w.heap.size + 1 + 1 + 1 + 1, 0, none⟩ = some (.int .i64 a1) := by
    have h_ := (Boxed.new ((((w.alloc (Obj.cells #[.slice A0_0 l0_0.length c0_0] 27)).alloc (Obj.cells #[.int .i64 0, .int .i64 0, .string (⟨#[]⟩ : ByteArray), .int .i64 0, .slice none 0 0] 35)).alloc (Obj.cells #[.bool false] 4)).alloc (Obj.cells #[.slice A0_0 l0_0.length c0_0] 27)) 3 (.int .i64 a1)).cell
    rw [World.size_alloc, World.size_alloc, World.size_alloc, World.size_alloc] at h_
    rw [hwl]
    exact h_
  clear hwl
  obtain ⟨es, hes, hst⟩ := entries_stops w wl hB0 P0_0_ (w.heap.size + 1 + 1 + 1 + 1) (w.heap.size + 1 + 1 + 1) A0_0 c0_0 l0_0 a1 HF.out (by omega) (by omega) hbM hbS
  have HP := hst (fun _ => True) (fun _ _ => trivial)
  have HES := Aside0.mk hes
  have HB0 := Aside0.mk hB0
  have HSZ := Aside0.mk hsz
  clear hst hbS hbM hes hB0 hsz
  refine (wpIn_wide (n := 4)).1 ?_
  refine wpIn_rangeFunc_ownH (n := 4) rfl (by omega) (gf := 59) (lb := #[.pointer (some ⟨w.heap.size + 1 + 1 + 1 + 1, 0, none⟩), .pointer (some ⟨w.heap.size + 1 + 1 + 1, 0, none⟩)]) rfl trivial (enters_of Try.func59 (by kernel_rfl) rfl)
    HP belowK_t (belowK_b HB0.out.size) (Below.refl _ _) (fun _ => rfl)
    (fun pre W => pre = [] ∧ Aside0 (W.heap[w.heap.size + 1]? = some (.cells #[.int .i64 0, .int .i64 0, .string (⟨#[]⟩ : ByteArray), .int .i64 0, .slice none 0 0] 35 (0, 0))) ∧ Aside0 (W.heap[w.heap.size + 1 + 1]? = some (.cells #[.bool false] 4 (0, 0))) ∧ Aside0 (Below w.heap.size w W))
    (fun c pre W => c = .ret ∧ ∃ x, pre = [x] ∧ Aside0 (W.heap[w.heap.size + 1]? = some (.cells #[.int .i64 x.1.2.x.f0.f0, .int .i64 x.1.2.x.f0.f1, .string x.1.2.x.f0.f2, .int .i64 x.1.2.x.f0.f3, .slice x.1.2.A4 x.1.2.x.f0.f4.length x.1.2.c4] 35 (0, 0))) ∧ Aside0 (W.heap[w.heap.size + 1 + 1]? = some (.cells #[.bool true] 4 (0, 0))) ∧ Aside0 (Below w.heap.size w W))
    ?hI ?hIx ⟨rfl, ⟨R4⟩, ⟨R5⟩, HB0⟩
    (fun x a' W => ∃ Bx, Aside0 (w.heap.size + 1 + 1 < Bx) ∧ Aside0 (W.heap[Bx]? = some (.cells #[.int .i64 x.1.2.x.f0.f0, .int .i64 x.1.2.x.f0.f1, .string x.1.2.x.f0.f2, .int .i64 x.1.2.x.f0.f3, .slice x.1.2.A4 x.1.2.x.f0.f4.length x.1.2.c4, .int .i64 x.1.2.x.f1.f0, .int .i64 x.1.2.x.f1.f1, .string x.1.2.x.f1.f2, .int .i64 x.1.2.x.f1.f3, .slice x.1.2.A9 x.1.2.x.f1.f4.length x.1.2.c9] 82 (0, 0))) ∧ a' = { tmps := #[.agg #[.slice A0_0 l0_0.length c0_0], .int .i64 a1, .pointer (some ⟨w.heap.size, 0, none⟩), undef, .pointer (some ⟨w.heap.size + 1, 0, none⟩), .pointer (some ⟨w.heap.size + 1 + 1, 0, none⟩), undef, .pointer (some ⟨Bx, 0, none⟩), .agg #[.slice A0_0 l0_0.length c0_0], .int .i64 a1, .func (.func 59) #[] #[.pointer (some ⟨w.heap.size + 1 + 1 + 1 + 1, 0, none⟩), .pointer (some ⟨w.heap.size + 1 + 1 + 1, 0, none⟩)], .int .i64 (x.1.1 : Int), x.1.2.v, undef, undef, undef], defers := [] })
    ?hAx ?assign ?body ?done ?stop
  case hI => exact fun s X Y row hs hg hr => ⟨hs.1, blk_from hs.2.1 hg hr, blk_from hs.2.2.1 hg hr, below_from hs.2.2.2 (Nat.le_refl _) HB0.out.size hg hr⟩
  case hIx =>
    rintro c s X Y row ⟨hc, x, hx, h4, h5, hw⟩ hg hr
    exact ⟨hc, x, hx, blk_from h4 hg hr, blk_from h5 hg hr, below_from hw (Nat.le_refl _) HB0.out.size hg hr⟩
  case hAx =>
    rintro x a' s X Y row ⟨Bx, gx, bx, ha⟩ hg hr
    exact ⟨Bx, gx, blk_from bx hg hr, ha⟩
  case assign =>
    rintro l pre x W K ⟨h0, h4, h5, hB⟩ hK
    simp only [EE.v]
    gi_wp2
    have hlt := (Array.getElem?_eq_some_iff.1 h5.out).1
    exact hK _ _ ((KeepsOthers.alloc _ _).from _) ((Below.refl _ W).alloc hB.out.size _) ⟨h0, ⟨blk_alloc h4.out _⟩, ⟨blk_alloc h5.out _⟩, ⟨hB.out.alloc hB.out.size _⟩⟩ ⟨W.heap.size, ⟨hlt⟩, ⟨World.alloc_heap_new W _⟩, rfl⟩
  case body =>
    rintro l pre ⟨⟨ix, e⟩, hD⟩ a' W hl hrec ⟨h0, h4, h5, hB⟩ ⟨Bx, gx, bx, rfl⟩ hlt
    subst h0
    clear hlt
    have hx0 : W.cell? ⟨Bx, 0, none⟩ = some (.int .i64 e.x.f0.f0) := (blk_cell bx.out 0).trans rfl
    have hx1 : W.cell? ⟨Bx, 1, none⟩ = some (.int .i64 e.x.f0.f1) := (blk_cell bx.out 1).trans rfl
    have hx2 : W.cell? ⟨Bx, 2, none⟩ = some (.string e.x.f0.f2) := (blk_cell bx.out 2).trans rfl
    have hx3 : W.cell? ⟨Bx, 3, none⟩ = some (.int .i64 e.x.f0.f3) := (blk_cell bx.out 3).trans rfl
    have hx4 : W.cell? ⟨Bx, 4, none⟩ = some (.slice e.A4 e.x.f0.f4.length e.c4) := (blk_cell bx.out 4).trans rfl
    have hr0 : W.cell? ⟨w.heap.size + 1, 0, none⟩ = some (.int .i64 0) := (blk_cell h4.out 0).trans rfl
    have hr1 : W.cell? ⟨w.heap.size + 1, 1, none⟩ = some (.int .i64 0) := (blk_cell h4.out 1).trans rfl
    have hr2 : W.cell? ⟨w.heap.size + 1, 2, none⟩ = some (.string (⟨#[]⟩ : ByteArray)) := (blk_cell h4.out 2).trans rfl
    have hr3 : W.cell? ⟨w.heap.size + 1, 3, none⟩ = some (.int .i64 0) := (blk_cell h4.out 3).trans rfl
    have hr4 : W.cell? ⟨w.heap.size + 1, 4, none⟩ = some (.slice none 0 0) := (blk_cell h4.out 4).trans rfl
    have hq0 : W.cell? ⟨w.heap.size + 1 + 1, 0, none⟩ = some (.bool false) := (blk_cell h5.out 0).trans rfl
    have hs0 := blk_frozen h4.out 0
    have hs1 := blk_frozen h4.out 1
    have hs2 := blk_frozen h4.out 2
    have hs3 := blk_frozen h4.out 3
    have hs4 := blk_frozen h4.out 4
    have ht0 := blk_frozen h5.out 0
    gi_wp2
    have hne : w.heap.size + 1 ≠ w.heap.size + 1 + 1 := by omega
    refine ⟨((set5_keeps W _ _ _ _ _ _).trans (KeepsOthers.setCell _ _ _)).from _, rfl, ix, e, rfl, ⟨?_⟩, ⟨?_⟩, ⟨?_⟩⟩
    · exact (Below.heap_setCell _ _ _ _ hne).trans (set5_blk h4.out _ _ _ _ _)
    · exact Boxed.set (.bool true) (show Boxed (set5 W (w.heap.size + 1) _ _ _ _ _) (w.heap.size + 1 + 1) 4 (.bool false) from set5_far h5.out (Ne.symm hne) _ _ _ _ _)
    · exact (set5_below hB.out (by omega) _ _ _ _ _).setCell (p := ⟨w.heap.size + 1 + 1, 0, none⟩) (by simp; omega) _
  case done =>
    rintro D ys W hD hys ⟨h0, h4, h5, hB⟩ hK
    have hr0 : W.cell? ⟨w.heap.size + 1, 0, none⟩ = some (.int .i64 0) := (blk_cell h4.out 0).trans rfl
    have hr1 : W.cell? ⟨w.heap.size + 1, 1, none⟩ = some (.int .i64 0) := (blk_cell h4.out 1).trans rfl
    have hr2 : W.cell? ⟨w.heap.size + 1, 2, none⟩ = some (.string (⟨#[]⟩ : ByteArray)) := (blk_cell h4.out 2).trans rfl
    have hr3 : W.cell? ⟨w.heap.size + 1, 3, none⟩ = some (.int .i64 0) := (blk_cell h4.out 3).trans rfl
    have hr4 : W.cell? ⟨w.heap.size + 1, 4, none⟩ = some (.slice none 0 0) := (blk_cell h4.out 4).trans rfl
    have hq0 : W.cell? ⟨w.heap.size + 1 + 1, 0, none⟩ = some (.bool false) := (blk_cell h5.out 0).trans rfl
    have hs0 := blk_frozen h4.out 0
    have hs1 := blk_frozen h4.out 1
    have hs2 := blk_frozen h4.out 2
    have hs3 := blk_frozen h4.out 3
    have hs4 := blk_frozen h4.out 4
    have ht0 := blk_frozen h5.out 0
    have HK := Aside0.mk hK
    have HD := Aside0.mk hD
    have HYS := Aside0.mk hys
    clear hK hD hys
    go_wp2
    have hne : w.heap.size + 1 ≠ w.heap.size + 1 + 1 := by omega
    have hz : mapOf l0_0 a1 = [] := by
      rw [← HES.out]
      have hl := congrArg List.length HYS.out
      rw [h0, en_length] at hl
      rw [List.length_eq_zero_iff.mp hl.symm]
      rfl
    have hf := HH.out
    simp only [heap_First.f, hz, Option.some.injEq, Prod.mk.injEq] at hf
    obtain ⟨rfl, rfl, rfl, rfl, rfl, rfl⟩ := hf
    have hK' := ((set5_keeps W (w.heap.size + 1) (.int .i64 0) (.int .i64 0) (.string (⟨#[]⟩ : ByteArray)) (.int .i64 0) (.slice none 0 0)).trans (KeepsOthers.setCell _ ⟨w.heap.size + 1 + 1, 0, none⟩ (.bool false))).same D _ HK.out rfl
    have r4 := (Below.heap_setCell _ ⟨w.heap.size + 1 + 1, 0, none⟩ (.bool false) _ hne).trans (set5_blk h4.out (.int .i64 0) (.int .i64 0) (.string (⟨#[]⟩ : ByteArray)) (.int .i64 0) (.slice none 0 0))
    have r5 := Boxed.set (.bool false) (show Boxed (set5 W (w.heap.size + 1) (.int .i64 0) (.int .i64 0) (.string (⟨#[]⟩ : ByteArray)) (.int .i64 0) (.slice none 0 0)) (w.heap.size + 1 + 1) 4 (.bool false) from set5_far h5.out (Ne.symm hne) _ _ _ _ _)
    have q4 := (blk_from (B := 0) ⟨r4⟩ (grownBy_putObj' _ D (.deferred none)) (fun r e => by cases e; exact ⟨Nat.zero_le _, _, hK', rfl⟩)).out
    have q5 := (blk_from (B := 0) ⟨r5⟩ (grownBy_putObj' _ D (.deferred none)) (fun r e => by cases e; exact ⟨Nat.zero_le _, _, hK', rfl⟩)).out
    show LeavesInM Fence.wide 5 Try.prog Try.f13 _ _ _ .returning _
    refine ⟨by simp, .inl ⟨_, _, rfl, run_takeDeferred hK', ?_⟩⟩
    refine ⟨.tuple #[.agg #[.int .i64 0, .int .i64 0, .string (⟨#[]⟩ : ByteArray), .int .i64 0, .slice none 0 0], .bool false], ?_, _, rfl, Kd.V_nil _ _ _ _ _, ((set5_below hB.out (by omega) _ _ _ _ _).setCell (p := ⟨w.heap.size + 1 + 1, 0, none⟩) (by simp; omega) _).trans (belowK_b (w := w) (Nat.le_refl _) _ D _ _ (Nat.le_trans HB0.out.size HD.out) hK' rfl rfl)⟩
    have c0 := (blk_cell q4 0).trans rfl
    have c1 := (blk_cell q4 1).trans rfl
    have c2 := (blk_cell q4 2).trans rfl
    have c3 := (blk_cell q4 3).trans rfl
    have c4 := (blk_cell q4 4).trans rfl
    have c5 := (blk_cell q5 0).trans rfl
    simp [results, Try.f13, go_sem, c0, c1, c2, c3, c4, c5]
  case stop =>
    rintro D c pre W hD hpre ⟨rfl, x, rfl, h4, h5, hB⟩ hK
    obtain ⟨⟨ix, e⟩, hDx⟩ := x
    refine wpIn_wide.2 ?_
    have hz : ∃ es', mapOf l0_0 a1 = e.x :: es' := by
      rw [← HES.out]
      cases es with
      | nil => have := hpre.length_le; simp [en] at this
      | cons e0 es0 =>
        have hh := hpre
        rw [show en (e0 :: es0) = (0, e0) :: (List.range' 1 es0.length).zip es0 from by simp [en, List.range_eq_range', List.range'_succ]] at hh
        simp at hh
        exact ⟨es0.map (·.x), by simp [hh.2]⟩
    obtain ⟨es', hz⟩ := hz
    have hf := HH.out
    simp only [heap_First.f, hz, Option.some.injEq, Prod.mk.injEq] at hf
    obtain ⟨rfl, rfl, rfl, rfl, rfl, rfl⟩ := hf
    have HK := Aside0.mk hK
    clear hK hz hpre
    go_wp2
    have hK := HK.out
    have q4 := (blk_from (B := 0) h4 (grownBy_putObj' _ D (.deferred none)) (fun r e => by cases e; exact ⟨Nat.zero_le _, _, hK, rfl⟩)).out
    have q5 := (blk_from (B := 0) h5 (grownBy_putObj' _ D (.deferred none)) (fun r e => by cases e; exact ⟨Nat.zero_le _, _, hK, rfl⟩)).out
    have hBe := hB.out.trans (belowK_b (w := w) (Nat.le_refl _) W D (.deferred (some [])) (.deferred none) (Nat.le_trans HB0.out.size hD) hK rfl rfl)
    show LeavesInM Fence.wide 5 Try.prog Try.f13 _ _ _ .returning _
    refine ⟨by simp, .inl ⟨_, _, rfl, run_takeDeferred hK, ?_⟩⟩
    refine ⟨.tuple #[.agg #[.int .i64 e.x.f0.f0, .int .i64 e.x.f0.f1, .string e.x.f0.f2, .int .i64 e.x.f0.f3, .slice e.A4 e.x.f0.f4.length e.c4], .bool true], ?_, _, rfl, Kd.V_mk e.le4 (Kd.F_mono (Kd.F_below e.rd4 hBe) (fun k hk => .inl hk)), hBe⟩
    have c0 := (blk_cell q4 0).trans rfl
    have c1 := (blk_cell q4 1).trans rfl
    have c2 := (blk_cell q4 2).trans rfl
    have c3 := (blk_cell q4 3).trans rfl
    have c4 := (blk_cell q4 4).trans rfl
    have c5 := (blk_cell q5 0).trans rfl
    simp [results, Try.f13, go_sem, c0, c1, c2, c3, c4, c5]
end Go.Proofs.Ytnokieaebnmljaa.PAll
namespace Go.Proofs.Ytnokieaebnmljaa.PAll
open Go Go.Proofs Go.RowKit Go.Shelf Go.Proofs.YtnokieaebnmljaaW.PrintWords Go.Proofs.YtnokieaebnmljaaW.PrintLast Go.Proofs.YtnokieaebnmljaaW.PrintMore
attribute [local go_sem] Oper.semAt_some
set_option linter.unusedVariables false
set_option linter.unusedSimpArgs false
/-- How an entry's key stands to a key, in k rounds. -/
def ckey (k : Nat) (a2_0 a2_1 : Int) (a2_2 : ByteArray) (a2_3 : Int) (l2_4 : List S35) (e : S82) : Option Int := value_Compare.f k e.f0.f0 e.f0.f1 e.f0.f2 e.f0.f3 e.f0.f4 a2_0 a2_1 a2_2 a2_3 l2_4
def cval (k : Nat) (a2_0 a2_1 : Int) (a2_2 : ByteArray) (a2_3 : Int) (l2_4 : List S35) (e : S82) : Int := (ckey k a2_0 a2_1 a2_2 a2_3 l2_4 e).getD 0
/-- Every entry's key has been compared. -/
def call (k : Nat) (a2_0 a2_1 : Int) (a2_2 : ByteArray) (a2_3 : Int) (l2_4 : List S35) (l : List S82) : Prop := ∀ e ∈ l, ∃ c, ckey k a2_0 a2_1 a2_2 a2_3 l2_4 e = some c
def nextOf (c : S82 → Int) : List S82 → Int × Int × ByteArray × Int × List S35 × Bool
  | [] => (0, 0, ⟨#[]⟩, 0, [], false)
  | e :: es => if 0 < c e then (e.f0.f0, e.f0.f1, e.f0.f2, e.f0.f3, e.f0.f4, true) else nextOf c es
theorem nextOf_congr {c c' : S82 → Int} : ∀ l : List S82, (∀ e ∈ l, c e = c' e) → nextOf c l = nextOf c' l
  | [], _ => rfl
  | e :: es, h => by simp only [nextOf]; rw [h e (by simp), nextOf_congr es (fun x hx => h x (by simp [hx]))]
theorem nextOf_none {c : S82 → Int} : ∀ l : List S82, (∀ e ∈ l, ¬ 0 < c e) → nextOf c l = (0, 0, ⟨#[]⟩, 0, [], false)
  | [], _ => rfl
  | e :: es, h => by simp only [nextOf]; rw [if_neg (h e (by simp)), nextOf_none es (fun x hx => h x (by simp [hx]))]
theorem nextOf_at {c : S82 → Int} {e : S82} {t : List S82} (he : 0 < c e) : ∀ l : List S82, (∀ x ∈ l, ¬ 0 < c x) → nextOf c (l ++ e :: t) = (e.f0.f0, e.f0.f1, e.f0.f2, e.f0.f3, e.f0.f4, true)
  | [], _ => by simp [nextOf, he]
  | x :: l, h => by simp only [List.cons_append, nextOf]; rw [if_neg (h x (by simp)), nextOf_at he l (fun y hy => h y (by simp [hy]))]
open Classical in
noncomputable def heap_Next.f (k : Nat) (l0_0 : List (List S82)) (a1 : Int) (a2_0 : Int) (a2_1 : Int) (a2_2 : ByteArray) (a2_3 : Int) (l2_4 : List S35) : Option (Int × Int × ByteArray × Int × List S35 × Bool) :=
  if call k a2_0 a2_1 a2_2 a2_3 l2_4 (mapOf l0_0 a1) then some (nextOf (cval k a2_0 a2_1 a2_2 a2_3 l2_4) (mapOf l0_0 a1)) else none
set_option maxHeartbeats 8000000 in
set_option maxRecDepth 100000 in
theorem heap_Next.calls (k : Nat) (P0_0_ : Nat → Prop) (A0_0 : Option Addr) (c0_0 : Nat) (l0_0 : List (List (S82))) (a1 : Int) (a2_0 : Int) (a2_1 : Int) (a2_2 : ByteArray) (a2_3 : Int) (A2_4 : Option Addr) (c2_4 : Nat) (l2_4 : List (S35)) (r1 : Int) (r2 : Int) (r3 : ByteArray) (r4 : Int) (r5 : List (S35)) (r6 : Bool) (w : World) (hs0_0 : Kd.V (Kd.slice 82 k82) 41 w w.heap.size (fun k_ => P0_0_ k_) (.slice A0_0 l0_0.length c0_0) l0_0) (hr2_4 : Kd.C k35 w A2_4 l2_4.length l2_4) (hc2_4 : l2_4.length ≤ c2_4) (h : heap_Next.f k l0_0 a1 a2_0 a2_1 a2_2 a2_3 l2_4 = some (r1, r2, r3, r4, r5, r6)) :
    Calls Try.prog 15 #[.agg #[.slice A0_0 l0_0.length c0_0], .int .i64 a1, .agg #[.int .i64 a2_0, .int .i64 a2_1, .string a2_2, .int .i64 a2_3, .slice A2_4 l2_4.length c2_4]] w fun e w' => ∃ v4_ : Value, e = .returned (.tuple #[.agg #[.int .i64 r1, .int .i64 r2, .string r3, .int .i64 r4, v4_], .bool r6]) ∧ Kd.V k35 35 w' w.heap.size (fun k_ => (P0_0_ k_ ∨ w.heap.size ≤ k_)) v4_ r5 ∧ Below w.heap.size w w' := by
  have hu27 := Try.underlying27
  have hu35 := Try.underlying35
  have hu82 := Try.underlying82
  have HF := Aside0.mk (Kd.V_F hs0_0)
  have HR := Aside0.mk hr2_4
  have HC := Aside0.mk hc2_4
  obtain ⟨hall, hr⟩ : call k a2_0 a2_1 a2_2 a2_3 l2_4 (mapOf l0_0 a1) ∧ nextOf (cval k a2_0 a2_1 a2_2 a2_3 l2_4) (mapOf l0_0 a1) = (r1, r2, r3, r4, r5, r6) := by
    unfold heap_Next.f at h
    split at h
    · rename_i hc
      exact ⟨hc, Option.some.inj h⟩
    · exact absurd h (by simp)
  have HH := Aside0.mk hr
  have HA := Aside0.mk hall
  clear hs0_0 h hr hr2_4 hc2_4 hall
  refine (callsIn_wide (n := 5)).1 ?_
  refine callsIn_of_wp_marks Try.func15 rfl trivial ?_ rfl
  simp only [Try.ntmps15, List.size_toArray, List.length_cons, List.length_nil, Nat.reduceAdd, Nat.reduceSub, Array.replicate_succ, Array.replicate_zero, List.push_toArray, List.append_toArray, List.nil_append, List.cons_append]
  refine wpIn_wide.2 ?_
  refine wp_mono ?_ retOnly_imp
  go_wp2
  obtain ⟨wl, hwl⟩ : ∃ wl, wl = ((((((w.alloc (Obj.cells #[.slice A0_0 l0_0.length c0_0] 27)).alloc (Obj.cells #[.int .i64 a2_0, .int .i64 a2_1, .string a2_2, .int .i64 a2_3, .slice A2_4 l2_4.length c2_4] 35)).alloc (Obj.cells #[.int .i64 0, .int .i64 0, .string (⟨#[]⟩ : ByteArray), .int .i64 0, .slice none 0 0] 35)).alloc (Obj.cells #[.bool false] 4)).alloc (Obj.cells #[.slice A0_0 l0_0.length c0_0] 27)).alloc (Obj.cells #[.int .i64 a1] 3)) := ⟨_, rfl⟩
  rw [← hwl]
  have hsz : wl.heap.size = w.heap.size + 6 := by rw [hwl]; simp
  have hB0 : Below w.heap.size w wl := by
    rw [hwl]
    exact (((((((Below.refl _ w).alloc (Nat.le_refl _) _).alloc (by simp) _).alloc (by simp; omega) _).alloc (by simp; omega) _).alloc (by simp; omega) _).alloc (by simp; omega) _)
  have R1 : wl.heap[w.heap.size + 1]? = some (.cells #[.int .i64 a2_0, .int .i64 a2_1, .string a2_2, .int .i64 a2_3, .slice A2_4 l2_4.length c2_4] 35 (0, 0)) := by rw [hwl]; exact (blk_alloc (blk_alloc (blk_alloc (blk_alloc (by have h_ := World.alloc_heap_new (w.alloc (Obj.cells #[.slice A0_0 l0_0.length c0_0] 27)) (Obj.cells #[.int .i64 a2_0, .int .i64 a2_1, .string a2_2, .int .i64 a2_3, .slice A2_4 l2_4.length c2_4] 35); rwa [World.size_alloc] at h_) _) _) _) _)
  have R4 : wl.heap[w.heap.size + 1 + 1]? = some (.cells #[.int .i64 0, .int .i64 0, .string (⟨#[]⟩ : ByteArray), .int .i64 0, .slice none 0 0] 35 (0, 0)) := by rw [hwl]; exact (blk_alloc (blk_alloc (blk_alloc (by have h_ := World.alloc_heap_new ((w.alloc (Obj.cells #[.slice A0_0 l0_0.length c0_0] 27)).alloc (Obj.cells #[.int .i64 a2_0, .int .i64 a2_1, .string a2_2, .int .i64 a2_3, .slice A2_4 l2_4.length c2_4] 35)) (Obj.cells #[.int .i64 0, .int .i64 0, .string (⟨#[]⟩ : ByteArray), .int .i64 0, .slice none 0 0] 35); rwa [World.size_alloc, World.size_alloc] at h_) _) _) _)
  have R5 : wl.heap[w.heap.size + 1 + 1 + 1]? = some (.cells #[.bool false] 4 (0, 0)) := by rw [hwl]; exact (blk_alloc (blk_alloc (by have h_ := World.alloc_heap_new (((w.alloc (Obj.cells #[.slice A0_0 l0_0.length c0_0] 27)).alloc (Obj.cells #[.int .i64 a2_0, .int .i64 a2_1, .string a2_2, .int .i64 a2_3, .slice A2_4 l2_4.length c2_4] 35)).alloc (Obj.cells #[.int .i64 0, .int .i64 0, .string (⟨#[]⟩ : ByteArray), .int .i64 0, .slice none 0 0] 35)) (Obj.cells #[.bool false] 4); rwa [World.size_alloc, World.size_alloc, World.size_alloc] at h_) _) _)
  have RS : wl.heap[w.heap.size + 1 + 1 + 1 + 1]? = some (.cells #[.slice A0_0 l0_0.length c0_0] 27 (0, 0)) := by rw [hwl]; exact (blk_alloc (by have h_ := World.alloc_heap_new ((((w.alloc (Obj.cells #[.slice A0_0 l0_0.length c0_0] 27)).alloc (Obj.cells #[.int .i64 a2_0, .int .i64 a2_1, .string a2_2, .int .i64 a2_3, .slice A2_4 l2_4.length c2_4] 35)).alloc (Obj.cells #[.int .i64 0, .int .i64 0, .string (⟨#[]⟩ : ByteArray), .int .i64 0, .slice none 0 0] 35)).alloc (Obj.cells #[.bool false] 4)) (Obj.cells #[.slice A0_0 l0_0.length c0_0] 27); rwa [World.size_alloc, World.size_alloc, World.size_alloc, World.size_alloc] at h_) _)
  have RM : wl.heap[w.heap.size + 1 + 1 + 1 + 1 + 1]? = some (.cells #[.int .i64 a1] 3 (0, 0)) := by rw [hwl]; exact (by have h_ := World.alloc_heap_new (((((w.alloc (Obj.cells #[.slice A0_0 l0_0.length c0_0] 27)).alloc (Obj.cells #[.int .i64 a2_0, .int .i64 a2_1, .string a2_2, .int .i64 a2_3, .slice A2_4 l2_4.length c2_4] 35)).alloc (Obj.cells #[.int .i64 0, .int .i64 0, .string (⟨#[]⟩ : ByteArray), .int .i64 0, .slice none 0 0] 35)).alloc (Obj.cells #[.bool false] 4)).alloc (Obj.cells #[.slice A0_0 l0_0.length c0_0] 27)) (Obj.cells #[.int .i64 a1] 3); rwa [World.size_alloc, World.size_alloc, World.size_alloc, World.size_alloc, World.size_alloc] at h_)
  have hbS : wl.cell? ⟨w.heap.size + 1 + 1 + 1 + 1, 0, none⟩ = some (.slice A0_0 l0_0.length c0_0) := (blk_cell RS 0).trans rfl
  have hbM : wl.cell? ⟨w.heap.size + 1 + 1 + 1 + 1 + 1, 0, none⟩ = some (.int .i64 a1) := (blk_cell RM 0).trans rfl
  clear hwl RS RM
  obtain ⟨es, hes, hst⟩ := entries_stops w wl hB0 P0_0_ (w.heap.size + 1 + 1 + 1 + 1 + 1) (w.heap.size + 1 + 1 + 1 + 1) A0_0 c0_0 l0_0 a1 HF.out (by omega) (by omega) hbM hbS
  have hdef : ∀ p ∈ en es, ∃ c, ckey k a2_0 a2_1 a2_2 a2_3 l2_4 p.2.x = some c := by
    intro p hp
    refine HA.out p.2.x ?_
    rw [← hes]
    exact List.mem_map.2 ⟨p.2, (List.of_mem_zip hp).2, rfl⟩
  have HP := hst (fun p => ∃ c, ckey k a2_0 a2_1 a2_2 a2_3 l2_4 p.2.x = some c) hdef
  have HES := Aside0.mk hes
  have HB0 := Aside0.mk hB0
  have HSZ := Aside0.mk hsz
  clear hst hbS hbM hes hB0 hsz hdef
  obtain ⟨I, hI⟩ : ∃ I : List { p : Nat × EE w P0_0_ // ∃ c, ckey k a2_0 a2_1 a2_2 a2_3 l2_4 p.2.x = some c } → World → Prop, I = (fun pre W => Aside0 (∀ p ∈ pre, cval k a2_0 a2_1 a2_2 a2_3 l2_4 p.1.2.x ≤ 0) ∧ Aside0 (W.heap[w.heap.size + 1]? = some (.cells #[.int .i64 a2_0, .int .i64 a2_1, .string a2_2, .int .i64 a2_3, .slice A2_4 l2_4.length c2_4] 35 (0, 0))) ∧ Aside0 (W.heap[w.heap.size + 1 + 1]? = some (.cells #[.int .i64 0, .int .i64 0, .string (⟨#[]⟩ : ByteArray), .int .i64 0, .slice none 0 0] 35 (0, 0))) ∧ Aside0 (W.heap[w.heap.size + 1 + 1 + 1]? = some (.cells #[.bool false] 4 (0, 0))) ∧ Aside0 (Below w.heap.size w W)) := ⟨_, rfl⟩
  obtain ⟨Ix, hIx⟩ : ∃ Ix : Code → List { p : Nat × EE w P0_0_ // ∃ c, ckey k a2_0 a2_1 a2_2 a2_3 l2_4 p.2.x = some c } → World → Prop, Ix = (fun c pre W => c = .ret ∧ ∃ init x, pre = init ++ [x] ∧ Aside0 ((∀ p ∈ init, cval k a2_0 a2_1 a2_2 a2_3 l2_4 p.1.2.x ≤ 0) ∧ 0 < cval k a2_0 a2_1 a2_2 a2_3 l2_4 x.1.2.x) ∧ Aside0 (W.heap[w.heap.size + 1 + 1]? = some (.cells #[.int .i64 x.1.2.x.f0.f0, .int .i64 x.1.2.x.f0.f1, .string x.1.2.x.f0.f2, .int .i64 x.1.2.x.f0.f3, .slice x.1.2.A4 x.1.2.x.f0.f4.length x.1.2.c4] 35 (0, 0))) ∧ Aside0 (W.heap[w.heap.size + 1 + 1 + 1]? = some (.cells #[.bool true] 4 (0, 0))) ∧ Aside0 (Below w.heap.size w W)) := ⟨_, rfl⟩
  have HI := Aside0.mk (fun pre W => Iff.of_eq (congrFun (congrFun hI pre) W))
  have HIx := Aside0.mk (fun c pre W => Iff.of_eq (congrFun (congrFun (congrFun hIx c) pre) W))
  clear hI hIx
  refine (wpIn_wide (n := 4)).1 ?_
  refine wpIn_rangeFunc_ownH (n := 4) rfl (by omega) (gf := 59) (lb := #[.pointer (some ⟨w.heap.size + 1 + 1 + 1 + 1 + 1, 0, none⟩), .pointer (some ⟨w.heap.size + 1 + 1 + 1 + 1, 0, none⟩)]) rfl trivial (enters_of Try.func59 (by kernel_rfl) rfl)
    HP belowK_t (belowK_b HB0.out.size) (Below.refl _ _) (fun _ => rfl)
    I Ix
    ?hI ?hIx ((HI.out _ _).2 ⟨⟨by simp⟩, ⟨R1⟩, ⟨R4⟩, ⟨R5⟩, HB0⟩)
    (fun x a' W => ∃ Bx, Aside0 (w.heap.size + 1 + 1 + 1 < Bx) ∧ Aside0 (W.heap[Bx]? = some (.cells #[.int .i64 x.1.2.x.f0.f0, .int .i64 x.1.2.x.f0.f1, .string x.1.2.x.f0.f2, .int .i64 x.1.2.x.f0.f3, .slice x.1.2.A4 x.1.2.x.f0.f4.length x.1.2.c4, .int .i64 x.1.2.x.f1.f0, .int .i64 x.1.2.x.f1.f1, .string x.1.2.x.f1.f2, .int .i64 x.1.2.x.f1.f3, .slice x.1.2.A9 x.1.2.x.f1.f4.length x.1.2.c9] 82 (0, 0))) ∧ a' = { tmps := #[.agg #[.slice A0_0 l0_0.length c0_0], .int .i64 a1, .agg #[.int .i64 a2_0, .int .i64 a2_1, .string a2_2, .int .i64 a2_3, .slice A2_4 l2_4.length c2_4], .pointer (some ⟨w.heap.size, 0, none⟩), undef, .pointer (some ⟨w.heap.size + 1, 0, none⟩), .pointer (some ⟨w.heap.size + 1 + 1, 0, none⟩), .pointer (some ⟨w.heap.size + 1 + 1 + 1, 0, none⟩), undef, .pointer (some ⟨Bx, 0, none⟩), .agg #[.slice A0_0 l0_0.length c0_0], .int .i64 a1, .func (.func 59) #[] #[.pointer (some ⟨w.heap.size + 1 + 1 + 1 + 1 + 1, 0, none⟩), .pointer (some ⟨w.heap.size + 1 + 1 + 1 + 1, 0, none⟩)], .int .i64 (x.1.1 : Int), x.1.2.v, undef, undef, undef, undef, undef, undef, undef, undef], defers := [] })
    ?hAx ?assign ?body ?done ?stop
  case hI =>
    intro s X Y row hs_ hg hr
    have hs := (HI.out _ _).1 hs_
    exact (HI.out _ _).2 ⟨hs.1, blk_from hs.2.1 hg hr, blk_from hs.2.2.1 hg hr, blk_from hs.2.2.2.1 hg hr, below_from hs.2.2.2.2 (Nat.le_refl _) HB0.out.size hg hr⟩
  case hIx =>
    intro c s X Y row hs_ hg hr
    obtain ⟨hc, init, x, hx, h0, h4, h5, hw⟩ := (HIx.out _ _ _).1 hs_
    exact (HIx.out _ _ _).2 ⟨hc, init, x, hx, h0, blk_from h4 hg hr, blk_from h5 hg hr, below_from hw (Nat.le_refl _) HB0.out.size hg hr⟩
  case hAx =>
    rintro x a' s X Y row ⟨Bx, gx, bx, ha⟩ hg hr
    exact ⟨Bx, gx, blk_from bx hg hr, ha⟩
  case assign =>
    intro l pre x W K hi_ hK
    obtain ⟨H0, h1, h4, h5, hB⟩ := (HI.out _ _).1 hi_
    clear hi_
    simp only [EE.v]
    gi_wp2
    have hlt := (Array.getElem?_eq_some_iff.1 h5.out).1
    exact hK _ _ ((KeepsOthers.alloc _ _).from _) ((Below.refl _ W).alloc hB.out.size _) ((HI.out _ _).2 ⟨H0, ⟨blk_alloc h1.out _⟩, ⟨blk_alloc h4.out _⟩, ⟨blk_alloc h5.out _⟩, ⟨hB.out.alloc hB.out.size _⟩⟩) ⟨W.heap.size, ⟨hlt⟩, ⟨World.alloc_heap_new W _⟩, rfl⟩
  case body =>
    rintro l pre ⟨⟨ix, e⟩, c, hc⟩ a' W hl hrec hi_ ⟨Bx, gx, bx, rfl⟩ hlt
    obtain ⟨H0, h1, h4, h5, hB⟩ := (HI.out _ _).1 hi_
    have HC0 := Aside0.mk hc
    clear hlt hi_
    have hx0 : W.cell? ⟨Bx, 0, none⟩ = some (.int .i64 e.x.f0.f0) := (blk_cell bx.out 0).trans rfl
    have hx1 : W.cell? ⟨Bx, 1, none⟩ = some (.int .i64 e.x.f0.f1) := (blk_cell bx.out 1).trans rfl
    have hx2 : W.cell? ⟨Bx, 2, none⟩ = some (.string e.x.f0.f2) := (blk_cell bx.out 2).trans rfl
    have hx3 : W.cell? ⟨Bx, 3, none⟩ = some (.int .i64 e.x.f0.f3) := (blk_cell bx.out 3).trans rfl
    have hx4 : W.cell? ⟨Bx, 4, none⟩ = some (.slice e.A4 e.x.f0.f4.length e.c4) := (blk_cell bx.out 4).trans rfl
    have hk0 : W.cell? ⟨w.heap.size + 1, 0, none⟩ = some (.int .i64 a2_0) := (blk_cell h1.out 0).trans rfl
    have hk1 : W.cell? ⟨w.heap.size + 1, 1, none⟩ = some (.int .i64 a2_1) := (blk_cell h1.out 1).trans rfl
    have hk2 : W.cell? ⟨w.heap.size + 1, 2, none⟩ = some (.string a2_2) := (blk_cell h1.out 2).trans rfl
    have hk3 : W.cell? ⟨w.heap.size + 1, 3, none⟩ = some (.int .i64 a2_3) := (blk_cell h1.out 3).trans rfl
    have hk4 : W.cell? ⟨w.heap.size + 1, 4, none⟩ = some (.slice A2_4 l2_4.length c2_4) := (blk_cell h1.out 4).trans rfl
    have hd : 1 ≤ 4 - 1 - 1 := by omega
    have hcv : cval k a2_0 a2_1 a2_2 a2_3 l2_4 e.x = c := by simp [cval, show ckey k a2_0 a2_1 a2_2 a2_3 l2_4 e.x = some c from HC0.out]
    have HCV := Aside0.mk hcv
    clear hcv
    have hlt4 := Aside0.mk (Array.getElem?_eq_some_iff.1 h4.out).1
    have hlt5 := Aside0.mk (Array.getElem?_eq_some_iff.1 h5.out).1
    have hlt1 := Aside0.mk (Array.getElem?_eq_some_iff.1 h1.out).1
    have hltx := Aside0.mk (Array.getElem?_eq_some_iff.1 bx.out).1
    have hsz := Aside0.mk hB.out.size
    by_cases hpos : 0 < c
    · have hp1 : decide (c > 0) = true := decide_eq_true hpos
      have hp2 : decide (0 < c) = true := decide_eq_true hpos
      have HPOS := Aside0.mk hpos
      clear hpos
      gi_wp2
      refine ⟨trivial, ?_⟩
      refine (CallsIn.inRound l (callsIn_wide.2 (value_Compare.calls k e.x.f0.f0 e.x.f0.f1 e.x.f0.f2 e.x.f0.f3 e.A4 e.c4 e.x.f0.f4 a2_0 a2_1 a2_2 a2_3 A2_4 c2_4 l2_4 c _ (Kd.F_now (Kd.F_below e.rd4 hB.out)) e.le4 (Kd.C_below HR.out hB.out) HC.out HC0.out))).mono ?_
      rintro e_ W3 ⟨rfl, hb3⟩
      have B3 := Aside0.mk hb3
      have bx3 := Aside0.mk ((hb3.block Bx hltx.out).trans bx.out)
      have h43 := Aside0.mk ((hb3.block _ hlt4.out).trans h4.out)
      have h53 := Aside0.mk ((hb3.block _ hlt5.out).trans h5.out)
      clear hb3 hx0 hx1 hx2 hx3 hx4 hk0 hk1 hk2 hk3 hk4
      have hx0 : W3.cell? ⟨Bx, 0, none⟩ = some (.int .i64 e.x.f0.f0) := (blk_cell bx3.out 0).trans rfl
      have hx1 : W3.cell? ⟨Bx, 1, none⟩ = some (.int .i64 e.x.f0.f1) := (blk_cell bx3.out 1).trans rfl
      have hx2 : W3.cell? ⟨Bx, 2, none⟩ = some (.string e.x.f0.f2) := (blk_cell bx3.out 2).trans rfl
      have hx3 : W3.cell? ⟨Bx, 3, none⟩ = some (.int .i64 e.x.f0.f3) := (blk_cell bx3.out 3).trans rfl
      have hx4 : W3.cell? ⟨Bx, 4, none⟩ = some (.slice e.A4 e.x.f0.f4.length e.c4) := (blk_cell bx3.out 4).trans rfl
      have hr0 : W3.cell? ⟨w.heap.size + 1 + 1, 0, none⟩ = some (.int .i64 0) := (blk_cell h43.out 0).trans rfl
      have hr1 : W3.cell? ⟨w.heap.size + 1 + 1, 1, none⟩ = some (.int .i64 0) := (blk_cell h43.out 1).trans rfl
      have hr2 : W3.cell? ⟨w.heap.size + 1 + 1, 2, none⟩ = some (.string (⟨#[]⟩ : ByteArray)) := (blk_cell h43.out 2).trans rfl
      have hr3 : W3.cell? ⟨w.heap.size + 1 + 1, 3, none⟩ = some (.int .i64 0) := (blk_cell h43.out 3).trans rfl
      have hr4 : W3.cell? ⟨w.heap.size + 1 + 1, 4, none⟩ = some (.slice none 0 0) := (blk_cell h43.out 4).trans rfl
      have hs0 := blk_frozen h43.out 0
      have hs1 := blk_frozen h43.out 1
      have hs2 := blk_frozen h43.out 2
      have hs3 := blk_frozen h43.out 3
      have hs4 := blk_frozen h43.out 4
      have hq0 : W3.cell? ⟨w.heap.size + 1 + 1 + 1, 0, none⟩ = some (.bool false) := (blk_cell h53.out 0).trans rfl
      have ht0 := blk_frozen h53.out 0
      dsimp only
      gi_wp2
      have hne : w.heap.size + 1 + 1 ≠ w.heap.size + 1 + 1 + 1 := by omega
      have hb3 := B3.out
      refine ⟨(keeps_of_below hb3).trans (((set5_keeps W3 _ _ _ _ _ _).trans (KeepsOthers.setCell _ _ _)).from _), (HIx.out _ _ _).2 ⟨rfl, pre, _, rfl, ⟨⟨H0.out, by show 0 < cval k a2_0 a2_1 a2_2 a2_3 l2_4 e.x; rw [HCV.out]; exact HPOS.out⟩⟩, ⟨?_⟩, ⟨?_⟩, ⟨?_⟩⟩⟩
      · exact (Below.heap_setCell _ _ _ _ hne).trans (set5_blk h43.out _ _ _ _ _)
      · exact Boxed.set (.bool true) (show Boxed (set5 W3 (w.heap.size + 1 + 1) _ _ _ _ _) (w.heap.size + 1 + 1 + 1) 4 (.bool false) from set5_far h53.out (Ne.symm hne) _ _ _ _ _)
      · exact (set5_below (hB.out.trans (hb3.mono hsz.out)) (by omega) _ _ _ _ _).setCell (p := ⟨w.heap.size + 1 + 1 + 1, 0, none⟩) (by simp; omega) _
    · have hp1 : decide (c > 0) = false := decide_eq_false hpos
      have hp2 : decide (0 < c) = false := decide_eq_false hpos
      have HPOS := Aside0.mk hpos
      clear hpos
      gi_wp2
      refine ⟨trivial, ?_⟩
      refine (CallsIn.inRound l (callsIn_wide.2 (value_Compare.calls k e.x.f0.f0 e.x.f0.f1 e.x.f0.f2 e.x.f0.f3 e.A4 e.c4 e.x.f0.f4 a2_0 a2_1 a2_2 a2_3 A2_4 c2_4 l2_4 c _ (Kd.F_now (Kd.F_below e.rd4 hB.out)) e.le4 (Kd.C_below HR.out hB.out) HC.out HC0.out))).mono ?_
      rintro e_ W3 ⟨rfl, hb3⟩
      have B3 := Aside0.mk hb3
      clear hb3
      dsimp only
      gi_wp2
      have hb3 := B3.out
      refine ⟨keeps_of_below hb3, hb3.mono hsz.out, (HI.out _ _).2 ⟨⟨?_⟩, ⟨(hb3.block _ hlt1.out).trans h1.out⟩, ⟨(hb3.block _ hlt4.out).trans h4.out⟩, ⟨(hb3.block _ hlt5.out).trans h5.out⟩, ⟨hB.out.trans (hb3.mono hsz.out)⟩⟩⟩
      intro p hp
      rcases List.mem_append.1 hp with hp | hp
      · exact H0.out p hp
      · obtain rfl := List.mem_singleton.1 hp
        show cval k a2_0 a2_1 a2_2 a2_3 l2_4 e.x ≤ 0
        rw [HCV.out]
        have := HPOS.out
        omega
  case done =>
    intro D ys W hD hys hi_ hK
    obtain ⟨H0, h1, h4, h5, hB⟩ := (HI.out _ _).1 hi_
    clear hi_
    have hr0 : W.cell? ⟨w.heap.size + 1 + 1, 0, none⟩ = some (.int .i64 0) := (blk_cell h4.out 0).trans rfl
    have hr1 : W.cell? ⟨w.heap.size + 1 + 1, 1, none⟩ = some (.int .i64 0) := (blk_cell h4.out 1).trans rfl
    have hr2 : W.cell? ⟨w.heap.size + 1 + 1, 2, none⟩ = some (.string (⟨#[]⟩ : ByteArray)) := (blk_cell h4.out 2).trans rfl
    have hr3 : W.cell? ⟨w.heap.size + 1 + 1, 3, none⟩ = some (.int .i64 0) := (blk_cell h4.out 3).trans rfl
    have hr4 : W.cell? ⟨w.heap.size + 1 + 1, 4, none⟩ = some (.slice none 0 0) := (blk_cell h4.out 4).trans rfl
    have hs0 := blk_frozen h4.out 0
    have hs1 := blk_frozen h4.out 1
    have hs2 := blk_frozen h4.out 2
    have hs3 := blk_frozen h4.out 3
    have hs4 := blk_frozen h4.out 4
    have hq0 : W.cell? ⟨w.heap.size + 1 + 1 + 1, 0, none⟩ = some (.bool false) := (blk_cell h5.out 0).trans rfl
    have ht0 := blk_frozen h5.out 0
    have HK := Aside0.mk hK
    have HD := Aside0.mk hD
    have HYS := Aside0.mk hys
    clear hK hD hys
    go_wp2
    have hne : w.heap.size + 1 + 1 ≠ w.heap.size + 1 + 1 + 1 := by omega
    have hz : nextOf (cval k a2_0 a2_1 a2_2 a2_3 l2_4) (mapOf l0_0 a1) = (0, 0, ⟨#[]⟩, 0, [], false) := by
      rw [← HES.out]
      refine nextOf_none _ (fun x hx => ?_)
      obtain ⟨e, he, rfl⟩ := List.mem_map.1 hx
      have he2 : ∃ p ∈ en es, p.2 = e := by
        obtain ⟨i, hi, rfl⟩ := List.getElem_of_mem he
        exact ⟨(en es)[i]'(by rw [en_length]; exact hi), List.getElem_mem _, by rw [en_getElem es i _ hi]⟩
      obtain ⟨p, hp, rfl⟩ := he2
      rw [← HYS.out] at hp
      obtain ⟨q, hq, rfl⟩ := List.mem_map.1 hp
      exact Int.not_lt.2 (H0.out q hq)
    have hf := HH.out
    rw [hz] at hf
    simp only [Prod.mk.injEq] at hf
    obtain ⟨rfl, rfl, rfl, rfl, rfl, rfl⟩ := hf
    have hK' := ((set5_keeps W (w.heap.size + 1 + 1) (.int .i64 0) (.int .i64 0) (.string (⟨#[]⟩ : ByteArray)) (.int .i64 0) (.slice none 0 0)).trans (KeepsOthers.setCell _ ⟨w.heap.size + 1 + 1 + 1, 0, none⟩ (.bool false))).same D _ HK.out rfl
    have r4 := (Below.heap_setCell _ ⟨w.heap.size + 1 + 1 + 1, 0, none⟩ (.bool false) _ hne).trans (set5_blk h4.out (.int .i64 0) (.int .i64 0) (.string (⟨#[]⟩ : ByteArray)) (.int .i64 0) (.slice none 0 0))
    have r5 := Boxed.set (.bool false) (show Boxed (set5 W (w.heap.size + 1 + 1) (.int .i64 0) (.int .i64 0) (.string (⟨#[]⟩ : ByteArray)) (.int .i64 0) (.slice none 0 0)) (w.heap.size + 1 + 1 + 1) 4 (.bool false) from set5_far h5.out (Ne.symm hne) _ _ _ _ _)
    have q4 := (blk_from (B := 0) ⟨r4⟩ (grownBy_putObj' _ D (.deferred none)) (fun r e => by cases e; exact ⟨Nat.zero_le _, _, hK', rfl⟩)).out
    have q5 := (blk_from (B := 0) ⟨r5⟩ (grownBy_putObj' _ D (.deferred none)) (fun r e => by cases e; exact ⟨Nat.zero_le _, _, hK', rfl⟩)).out
    show LeavesInM Fence.wide 5 Try.prog Try.f15 _ _ _ .returning _
    refine ⟨by simp, .inl ⟨_, _, rfl, run_takeDeferred hK', ?_⟩⟩
    refine ⟨.tuple #[.agg #[.int .i64 0, .int .i64 0, .string (⟨#[]⟩ : ByteArray), .int .i64 0, .slice none 0 0], .bool false], ?_, _, rfl, Kd.V_nil _ _ _ _ _, ((set5_below hB.out (by omega) _ _ _ _ _).setCell (p := ⟨w.heap.size + 1 + 1 + 1, 0, none⟩) (by simp; omega) _).trans (belowK_b (w := w) (Nat.le_refl _) _ D _ _ (Nat.le_trans HB0.out.size HD.out) hK' rfl rfl)⟩
    have c0 := (blk_cell q4 0).trans rfl
    have c1 := (blk_cell q4 1).trans rfl
    have c2 := (blk_cell q4 2).trans rfl
    have c3 := (blk_cell q4 3).trans rfl
    have c4 := (blk_cell q4 4).trans rfl
    have c5 := (blk_cell q5 0).trans rfl
    simp [results, Try.f15, go_sem, c0, c1, c2, c3, c4, c5]
  case stop =>
    intro D c pre W hD hpre hi_ hK
    obtain ⟨rfl, init, x, rfl, h0, h4, h5, hB⟩ := (HIx.out _ _ _).1 hi_
    clear hi_
    obtain ⟨⟨ix, e⟩, hDx⟩ := x
    refine wpIn_wide.2 ?_
    have hz : nextOf (cval k a2_0 a2_1 a2_2 a2_3 l2_4) (mapOf l0_0 a1) = (e.x.f0.f0, e.x.f0.f1, e.x.f0.f2, e.x.f0.f3, e.x.f0.f4, true) := by
      rw [← HES.out]
      obtain ⟨t, ht⟩ := hpre
      have h2 := congrArg (List.map (fun p : Nat × EE w P0_0_ => p.2.x)) ht
      rw [show (en es).map (fun p : Nat × EE w P0_0_ => p.2.x) = es.map (·.x) from by rw [show (fun p : Nat × EE w P0_0_ => p.2.x) = (fun e : EE w P0_0_ => e.x) ∘ Prod.snd from rfl, ← List.map_map, en, List.map_snd_zip (by simp)]] at h2
      rw [← h2, List.map_append, List.map_append, List.map_append, List.map_cons, List.map_nil, List.append_assoc, List.map_cons, List.map_nil, List.singleton_append]
      refine nextOf_at h0.out.2 _ (fun y hy => ?_)
      rw [List.map_map] at hy
      obtain ⟨q, hq, rfl⟩ := List.mem_map.1 hy
      exact Int.not_lt.2 (h0.out.1 q hq)
    have hf := HH.out
    rw [hz] at hf
    simp only [Prod.mk.injEq] at hf
    obtain ⟨rfl, rfl, rfl, rfl, rfl, rfl⟩ := hf
    have HK := Aside0.mk hK
    clear hK hz hpre h0
    go_wp2
    have hK := HK.out
    have q4 := (blk_from (B := 0) h4 (grownBy_putObj' _ D (.deferred none)) (fun r e => by cases e; exact ⟨Nat.zero_le _, _, hK, rfl⟩)).out
    have q5 := (blk_from (B := 0) h5 (grownBy_putObj' _ D (.deferred none)) (fun r e => by cases e; exact ⟨Nat.zero_le _, _, hK, rfl⟩)).out
    have hBe := hB.out.trans (belowK_b (w := w) (Nat.le_refl _) W D (.deferred (some [])) (.deferred none) (Nat.le_trans HB0.out.size hD) hK rfl rfl)
    show LeavesInM Fence.wide 5 Try.prog Try.f15 _ _ _ .returning _
    refine ⟨by simp, .inl ⟨_, _, rfl, run_takeDeferred hK, ?_⟩⟩
    refine ⟨.tuple #[.agg #[.int .i64 e.x.f0.f0, .int .i64 e.x.f0.f1, .string e.x.f0.f2, .int .i64 e.x.f0.f3, .slice e.A4 e.x.f0.f4.length e.c4], .bool true], ?_, _, rfl, Kd.V_mk e.le4 (Kd.F_mono (Kd.F_below e.rd4 hBe) (fun k hk => .inl hk)), hBe⟩
    have c0 := (blk_cell q4 0).trans rfl
    have c1 := (blk_cell q4 1).trans rfl
    have c2 := (blk_cell q4 2).trans rfl
    have c3 := (blk_cell q4 3).trans rfl
    have c4 := (blk_cell q4 4).trans rfl
    have c5 := (blk_cell q5 0).trans rfl
    simp [results, Try.f15, go_sem, c0, c1, c2, c3, c4, c5]
end Go.Proofs.Ytnokieaebnmljaa.PAll
