-- Laid by a program of this seat (wip/merge.py): HCompare, HEnt, HFirst, HNext, HPlace, HWith, HAppend, HPut, HDel, HInts, HOi.
import Derived.Test.YtnokieaebnmljaaMHeapOrders0
import Derived.ArgAppend
import Derived.Maps.AppendAt
namespace Go.Proofs.Ytnokieaebnmljaa.PAll
open Go Go.Proofs Go.RowKit Go.Shelf Go.Proofs.YtnokieaebnmljaaW.PrintWords Go.Proofs.YtnokieaebnmljaaW.PrintLast Go.Proofs.YtnokieaebnmljaaW.PrintMore
attribute [local go_sem] Oper.semAt_some
set_option linter.unusedVariables false
set_option linter.unusedSimpArgs false

/-- What is said of each pair of two rows, as long as both go. -/
def zipAll {α : Type} (g : α → α → Option Int) : List α → List α → Option (List Int)
  | x :: xs, y :: ys => (g x y).bind fun c => (zipAll g xs ys).bind fun cs => some (c :: cs)
  | _, _ => some []
/-- The first that isn't 0; else 0. -/
def firstNZ : List Int → Int
  | [] => 0
  | c :: cs => if c = 0 then firstNZ cs else c
theorem zipAll_mono {α : Type} {g g' : α → α → Option Int} (h : ∀ x y, LeO (g x y) (g' x y)) : ∀ xs ys, LeO (zipAll g xs ys) (zipAll g' xs ys)
  | x :: xs, y :: ys => by
    unfold zipAll
    exact LeO.bind (h x y) (fun _ => LeO.bind (zipAll_mono h xs ys) (fun _ => LeO.refl _))
  | [], _ => by unfold zipAll; exact LeO.refl _
  | _ :: _, [] => by unfold zipAll; exact LeO.refl _
/-- The comparison of a pair's elements, where it goes. -/
def gvl (g : S35 → S35 → Option Int) (p : S35 × S35) : Int := (g p.1 p.2).getD 0
theorem zipAll_out (g : S35 → S35 → Option Int) : ∀ (xs ys : List S35) (cs : List Int), zipAll g xs ys = some cs → cs = (xs.zip ys).map (gvl g) ∧ ∀ p ∈ xs.zip ys, ∃ c, g p.1 p.2 = some c
  | x :: xs, y :: ys, cs, h => by
    unfold zipAll at h
    obtain ⟨c, hc, h⟩ := Option.bind_eq_some_iff.mp h
    obtain ⟨ds, hd, h⟩ := Option.bind_eq_some_iff.mp h
    obtain rfl := Option.some.inj h
    obtain ⟨rfl, h2⟩ := zipAll_out g xs ys ds hd
    refine ⟨by simp [gvl, hc], ?_⟩
    intro p hp
    rw [List.zip_cons_cons, List.mem_cons] at hp
    rcases hp with rfl | hp
    · exact ⟨c, hc⟩
    · exact h2 p hp
  | [], _, cs, h => by
    unfold zipAll at h
    obtain rfl := Option.some.inj h
    exact ⟨by simp, by simp⟩
  | _ :: _, [], cs, h => by
    unfold zipAll at h
    obtain rfl := Option.some.inj h
    exact ⟨by simp, by simp⟩
theorem firstNZ_snoc (c : Int) : ∀ cs, firstNZ (cs ++ [c]) = if firstNZ cs = 0 then c else firstNZ cs
  | [] => by by_cases h : c = 0 <;> simp [firstNZ, h]
  | d :: cs => by
    by_cases h : d = 0
    · simp [firstNZ, h, firstNZ_snoc c cs]
    · simp [firstNZ, h]
theorem firstNZ_prefix {xs bs : List Int} (h : xs <+: bs) (h0 : firstNZ xs ≠ 0) : firstNZ bs = firstNZ xs := by
  obtain ⟨t, rfl⟩ := h
  induction xs with
  | nil => exact absurd rfl h0
  | cons a xs ih =>
    by_cases ha : a = 0
    · simp only [List.cons_append, firstNZ, ha, if_true] at h0 ⊢
      exact ih h0
    · simp [firstNZ, ha]
def value_Compare.f : Nat → Int → Int → ByteArray → Int → List (S35) → Int → Int → ByteArray → Int → List (S35) → Option (Int)
  | 0, _, _, _, _, _, _, _, _, _, _ => none
  | k + 1, a0_0, a0_1, a0_2, a0_3, l0_4, a1_0, a1_1, a1_2, a1_3, l1_4 => (cmp_Compare_int.f a0_0 a1_0).bind fun t110 => ((cmp_Compare_int64.f a0_1 a1_1).bind fun t111 => ((cmp_Compare_string.f a0_2 a1_2).bind fun t112 => ((cmp_Compare_int.f a0_3 a1_3).bind fun t113 => ((cmp_Or_int.f k (([t110, t111, t112, t113] : List Int))).bind fun t117 => (if t117 = 0 then (if l0_4.length ≤ 9223372036854775807 ∧ l1_4.length ≤ 9223372036854775807 then ((zipAll (fun x y => value_Compare.f k x.f0 x.f1 x.f2 x.f3 x.f4 y.f0 y.f1 y.f2 y.f3 y.f4) l0_4 l1_4).bind fun cs => if firstNZ cs = 0 then (cmp_Compare_int.f (l0_4.length : Int) (l1_4.length : Int)) else some (firstNZ cs)) else none) else (some t117))))))
theorem value_Compare.mono_l : ∀ k, (∀ y0 y1 y2 y3 y4 y5 y6 y7 y8 y9, LeO (value_Compare.f k y0 y1 y2 y3 y4 y5 y6 y7 y8 y9) (value_Compare.f (k + 1) y0 y1 y2 y3 y4 y5 y6 y7 y8 y9))
  | 0 => fun _ _ _ _ _ _ _ _ _ _ r h => by simp [value_Compare.f] at h
  | k + 1 => by
    have ih0 := value_Compare.mono_l k
    intro y0 y1 y2 y3 y4 y5 y6 y7 y8 y9
    unfold value_Compare.f
    refine LeO.bind (LeO.refl _) (fun _ => LeO.bind (LeO.refl _) (fun _ => LeO.bind (LeO.refl _) (fun _ => LeO.bind (LeO.refl _) (fun _ => LeO.bind (cmp_Or_int.mono _ _) (fun _ => LeO.ite ?_ (LeO.refl _))))))
    refine LeO.ite ?_ (LeO.refl _)
    exact LeO.bind (zipAll_mono (fun x y => ih0 _ _ _ _ _ _ _ _ _ _) _ _) (fun _ => LeO.refl _)
theorem value_Compare.mono : ∀ a0 a1 a2 a3 a4 a5 a6 a7 a8 a9 k, LeO (value_Compare.f k a0 a1 a2 a3 a4 a5 a6 a7 a8 a9) (value_Compare.f (k + 1) a0 a1 a2 a3 a4 a5 a6 a7 a8 a9) := by
  intro a0 a1 a2 a3 a4 a5 a6 a7 a8 a9 k
  exact value_Compare.mono_l k a0 a1 a2 a3 a4 a5 a6 a7 a8 a9
/-- A block of cells, and what is kept below, across a turn of what is no cells. -/
theorem blk_from {B g : Nat} {cs : Array Value} {t : TypeId} {X Y : World} {row : Option Nat} (h : Aside0 (X.heap[g]? = some (.cells cs t (0, 0)))) (hg : X.grownBy Y row) (hr : ∀ r, row = some r → B ≤ r ∧ ∃ o : Obj, X.heap[r]? = some o ∧ o.isCells = false) : Aside0 (Y.heap[g]? = some (.cells cs t (0, 0))) :=
  ⟨(hg.block g (Array.getElem?_eq_some_iff.1 h.out).1 (fun e => by obtain ⟨_, o, ho, hc⟩ := hr g e.symm; rw [h.out] at ho; cases ho; cases hc)).trans h.out⟩
theorem below_from {n B : Nat} {w0 X Y : World} {row : Option Nat} (h : Aside0 (Below n w0 X)) (hn : n ≤ w0.heap.size) (hB : n ≤ B) (hg : X.grownBy Y row) (hr : ∀ r, row = some r → B ≤ r ∧ ∃ o : Obj, X.heap[r]? = some o ∧ o.isCells = false) : Aside0 (Below n w0 Y) :=
  ⟨ownFrom_below (β := Unit) hn hB () X Y row h.out hg hr⟩
theorem keeps_of_below {B : Nat} {X Y : World} (h : Below X.heap.size X Y) : KeepsFrom B X Y :=
  ⟨h.size, fun k o _ h0 _ => (h.block k (Array.getElem?_eq_some_iff.1 h0).1).trans h0⟩
/-- The ways out that a body takes: it runs out, or returns. -/
def retOnly (Q : Exit → Act → World → Prop) : Exit → Act → World → Prop
  | .normal, a, w => Q .normal a w
  | .ret, a, w => Q .ret a w
  | _, _, _ => False
theorem retOnly_imp {Q : Exit → Act → World → Prop} : ∀ e a w, retOnly Q e a w → Q e a w
  | .normal, _, _, h => h
  | .ret, _, _, h => h
  | .panic _, _, _, h => h.elim
  | .exit _, _, _, h => h.elim
  | .goto _, _, _, h => h.elim
  | .outgrown, _, _, h => h.elim
def value_Compare.T1 : Bool × List (List Nat × List Nat) := (true, [([], []), ([0], [0]), ([], []), ([2], [2]), ([1, 3], [1, 3]), ([], []), ([5], [5]), ([], []), ([7], [7]), ([6, 8, 4], [6, 8]), ([], []), ([10], [10]), ([], []), ([12], [12]), ([11, 13, 9], [11, 13]), ([], []), ([15], [15]), ([], []), ([17], [17]), ([16, 18, 14], [16, 18]), ([4, 9, 14, 19], [4, 9, 14, 19]), ([20, 19], [20]), ([21, 21, 0, 1, 2, 3, 4, 5, 6, 7, 8, 9, 10, 11, 12, 13, 14, 15, 16, 17, 18, 19, 20, 21], [21])])
def value_Compare.B1 : List Nat := [0, 1, 0, 4, 15, 0, 32, 0, 128, 511, 0, 1024, 0, 4096, 16383, 0, 32768, 0, 131072, 524287, 1048575, 2097151, 4194303]
theorem value_Compare.tab1 : rtab .any (opsOf Try.f40 1) = value_Compare.T1 := by kernel_rfl
theorem value_Compare.bits1 : waitsOk value_Compare.T1.2 value_Compare.B1 = true := by kernel_rfl
set_option maxHeartbeats 8000000 in
set_option maxRecDepth 100000 in
theorem value_Compare.calls (k : Nat) : ∀ (a0_0 : Int) (a0_1 : Int) (a0_2 : ByteArray) (a0_3 : Int) (A0_4 : Option Addr) (c0_4 : Nat) (l0_4 : List (S35)) (a1_0 : Int) (a1_1 : Int) (a1_2 : ByteArray) (a1_3 : Int) (A1_4 : Option Addr) (c1_4 : Nat) (l1_4 : List (S35)) (r : Int) (w : World) (hr0_4 : Kd.C k35 w A0_4 l0_4.length l0_4) (hc0_4 : l0_4.length ≤ c0_4) (hr1_4 : Kd.C k35 w A1_4 l1_4.length l1_4) (hc1_4 : l1_4.length ≤ c1_4) (h : value_Compare.f k a0_0 a0_1 a0_2 a0_3 l0_4 a1_0 a1_1 a1_2 a1_3 l1_4 = some r),
    Calls Try.prog 40 #[.agg #[.int .i64 a0_0, .int .i64 a0_1, .string a0_2, .int .i64 a0_3, .slice A0_4 l0_4.length c0_4], .agg #[.int .i64 a1_0, .int .i64 a1_1, .string a1_2, .int .i64 a1_3, .slice A1_4 l1_4.length c1_4]] w fun e w' => e = .returned (.int .i64 r) ∧ Below w.heap.size w w' := by
  induction k using Nat.strongRecOn with
  | _ k ih =>
  intro a0_0 a0_1 a0_2 a0_3 A0_4 c0_4 l0_4 a1_0 a1_1 a1_2 a1_3 A1_4 c1_4 l1_4 r w hr0_4 hc0_4 hr1_4 hc1_4 h
  cases k with
  | zero => exact absurd h (by simp [value_Compare.f])
  | succ k =>
  simp only [value_Compare.f] at h
  have hu35 := Try.underlying35
  have HR0_4 := Aside0.mk hr0_4
  have HC0_4 := Aside0.mk hc0_4
  clear hr0_4 hc0_4
  have HR1_4 := Aside0.mk hr1_4
  have HC1_4 := Aside0.mk hc1_4
  clear hr1_4 hc1_4
  have HB := Aside0.mk (Below.refl w.heap.size w)
  obtain ⟨t110, A30, H1⟩ := Option.bind_eq_some_iff.mp h
  obtain ⟨t111, A40, H2⟩ := Option.bind_eq_some_iff.mp H1
  obtain ⟨t112, A50, H3⟩ := Option.bind_eq_some_iff.mp H2
  obtain ⟨t113, A60, H⟩ := Option.bind_eq_some_iff.mp H3
  obtain ⟨y114, hy114⟩ : ∃ y_ : List Int, y_ = (([t110, t111, t112, t113] : List Int)) := ⟨_, rfl⟩
  rw [← hy114] at H
  obtain ⟨t117, A70, H'⟩ := Option.bind_eq_some_iff.mp H
  have A3 := Aside0.mk A30
  have A4 := Aside0.mk A40
  have A5 := Aside0.mk A50
  have A6 := Aside0.mk A60
  have A7 := Aside0.mk A70
  have Ny114 := Aside0.mk hy114
  have HH := Aside0.mk H'
  clear h A30 A40 A50 A60 A70 hy114 H H' H1 H2 H3
  refine (callsIn_wide (n := 5)).1 ?_
  refine callsIn_of_wp_marks Try.func40 rfl trivial ?_ rfl
  simp only [Try.ntmps40, List.size_toArray, List.length_cons, List.length_nil, Nat.reduceAdd, Nat.reduceSub, Array.replicate_succ, Array.replicate_zero, List.push_toArray, List.append_toArray, List.nil_append, List.cons_append]
  refine wpIn_wide.2 ?_
  refine wp_mono ?_ retOnly_imp
  go_wp2_with (first | ((with_reducible refine gate_dst (N := 2) rfl ?_); refine box_event ?hg (N := 2) ?hd (cs := #[.int .i64 a0_0, .int .i64 a0_1, .string a0_2, .int .i64 a0_3, .slice A0_4 l0_4.length c0_4]) (t := 35) ?hr ?_; (case hd => rfl); (case hg => rfl); (case hr => first | (go_simp; done) | (go_simp; rfl)); intro gb108 hg w10 hbox hb; have n0_ := Aside0.mk (below_step (by repeat (first | (with_reducible first | exact HB.out | apply below_alloc | apply pw_below_drewN | apply below_drew1) | exact HB.out)) hb); have n1_ := Aside0.mk (hbox); have n2_ := Aside0.mk ((by rw [hg]; exact (below_size (by repeat (first | (with_reducible first | exact HB.out | apply below_alloc | apply pw_below_drewN | apply below_drew1) | exact HB.out))) : w.heap.size ≤ gb108)); have n3_ := Aside0.mk ((by rw [hg]; exact (below_size (by repeat (first | (with_reducible first | exact HB.out | apply below_alloc | apply pw_below_drewN | apply below_drew1) | exact HB.out))) : w.heap.size ≤ gb108)); clear HB; have HB := n0_; have BK108 := n1_; have GW108 := n2_; have GE108 := n3_; clear n0_ n1_ n2_ n3_; clear hb hbox hg) | ((with_reducible refine gate_dst (N := 3) rfl ?_); refine box_event ?hg (N := 3) ?hd (cs := #[.int .i64 a1_0, .int .i64 a1_1, .string a1_2, .int .i64 a1_3, .slice A1_4 l1_4.length c1_4]) (t := 35) ?hr ?_; (case hd => rfl); (case hg => rfl); (case hr => first | (go_simp; done) | (go_simp; rfl)); intro gb109 hg w11 hbox hb; have n0_ := Aside0.mk (blk_below (g := gb108) (o := .cells #[.int .i64 a0_0, .int .i64 a0_1, .string a0_2, .int .i64 a0_3, .slice A0_4 l0_4.length c0_4] 35 (0, 0)) (by (with_reducible repeat (first | refine blk_drewN ?_ _ | refine blk_drew ?_ | refine blk_alloc ?_ _)); exact BK108.out) hb); have n1_ := Aside0.mk (below_step (by repeat (first | (with_reducible first | exact HB.out | apply below_alloc | apply pw_below_drewN | apply below_drew1 | refine below_set ?_ GE108.out) | exact HB.out)) hb); have n2_ := Aside0.mk (hbox); have n3_ := Aside0.mk ((by rw [hg]; exact (below_size (by repeat (first | (with_reducible first | exact HB.out | apply below_alloc | apply pw_below_drewN | apply below_drew1 | refine below_set ?_ GE108.out) | exact HB.out))) : w.heap.size ≤ gb109)); have n4_ := Aside0.mk ((by rw [hg]; exact (below_size (by repeat (first | (with_reducible first | exact HB.out | apply below_alloc | apply pw_below_drewN | apply below_drew1 | refine below_set ?_ GE108.out) | exact HB.out))) : w.heap.size ≤ gb109)); have n5_ := Aside0.mk ((by rw [hg]; exact Nat.ne_of_lt (blk_lt (g := gb108) (o := .cells #[.int .i64 a0_0, .int .i64 a0_1, .string a0_2, .int .i64 a0_3, .slice A0_4 l0_4.length c0_4] 35 (0, 0)) (by (with_reducible repeat (first | refine blk_drewN ?_ _ | refine blk_drew ?_ | refine blk_alloc ?_ _)); exact BK108.out)) : gb108 ≠ gb109)); have n6_ := Aside0.mk ((by rw [hg]; exact Nat.ne_of_gt (blk_lt (g := gb108) (o := .cells #[.int .i64 a0_0, .int .i64 a0_1, .string a0_2, .int .i64 a0_3, .slice A0_4 l0_4.length c0_4] 35 (0, 0)) (by (with_reducible repeat (first | refine blk_drewN ?_ _ | refine blk_drew ?_ | refine blk_alloc ?_ _)); exact BK108.out)) : gb109 ≠ gb108)); clear BK108; clear HB; have BK108 := n0_; have HB := n1_; have BK109 := n2_; have GW109 := n3_; have GE109 := n4_; have NB108_109 := n5_; have NB109_108 := n6_; clear n0_ n1_ n2_ n3_ n4_ n5_ n6_; clear hb hbox hg))
  obtain ⟨gr, hgr⟩ : ∃ gr, gr = w11.heap.size := ⟨_, rfl⟩
  obtain ⟨w1, hw1⟩ : ∃ w1, w1 = w11.alloc (.cells #[.int .i64 0] 3) := ⟨_, rfl⟩
  have BKr : w1.heap[gr]? = some (.cells #[.int .i64 0] 3 (0, 0)) := by rw [hw1, hgr]; exact Boxed.new w11 3 _
  have B8 := blk_alloc BK108.out (.cells #[.int .i64 0] 3)
  have B9 := blk_alloc BK109.out (.cells #[.int .i64 0] 3)
  have HB1 := HB.out.alloc HB.out.size (.cells #[.int .i64 0] 3)
  have hge : w.heap.size ≤ gr := hgr ▸ HB.out.size
  have hn8 : gb108 < gr := hgr ▸ (Array.getElem?_eq_some_iff.1 BK108.out).1
  have hn9 : gb109 < gr := hgr ▸ (Array.getElem?_eq_some_iff.1 BK109.out).1
  rw [← hw1] at B8 B9 HB1 ⊢
  rw [← hgr]
  clear hgr hw1 HB BK108 BK109
  have BK108 := Aside0.mk B8
  have BK109 := Aside0.mk B9
  have HBR := Aside0.mk BKr
  have HB := Aside0.mk (Below.refl w1.heap.size w1)
  have HBW := Aside0.mk HB1
  have HG := Aside0.mk (And.intro hge (And.intro hn8 hn9))
  clear B8 B9 HB1 BKr hge hn8 hn9
  have n0_ := Aside0.mk (blk_drew BK108.out)
  have n1_ := Aside0.mk (blk_drew BK109.out)
  have n2_ := Aside0.mk (below_drew1 HB.out)
  clear BK108
  clear BK109
  clear HB
  have BK108 := n0_
  have BK109 := n1_
  have HB := n2_
  clear n0_ n1_ n2_
  refine start_ (n := 23) (S := fun w' => w'.cell? ⟨gb108, 0, none⟩ = some (.int .i64 a0_0) ∧ w'.cell? ⟨gb108, 1, none⟩ = some (.int .i64 a0_1) ∧ w'.cell? ⟨gb108, 2, none⟩ = some (.string a0_2) ∧ w'.cell? ⟨gb108, 3, none⟩ = some (.int .i64 a0_3) ∧ w'.cell? ⟨gb108, 4, none⟩ = some (.slice A0_4 l0_4.length c0_4) ∧ w'.cell? ⟨gb109, 0, none⟩ = some (.int .i64 a1_0) ∧ w'.cell? ⟨gb109, 1, none⟩ = some (.int .i64 a1_1) ∧ w'.cell? ⟨gb109, 2, none⟩ = some (.string a1_2) ∧ w'.cell? ⟨gb109, 3, none⟩ = some (.int .i64 a1_3) ∧ w'.cell? ⟨gb109, 4, none⟩ = some (.slice A1_4 l1_4.length c1_4)) (ds := []) #[false, false, false, false, false, false, false, false, false, false, false, false, false, false, false, false, false, false, false, false, false, false, false] (by kernel_rfl) rfl rfl ⟨(blk_cell BK108.out 0).trans rfl, (blk_cell BK108.out 1).trans rfl, (blk_cell BK108.out 2).trans rfl, (blk_cell BK108.out 3).trans rfl, (blk_cell BK108.out 4).trans rfl, (blk_cell BK109.out 0).trans rfl, (blk_cell BK109.out 1).trans rfl, (blk_cell BK109.out 2).trans rfl, (blk_cell BK109.out 3).trans rfl, (blk_cell BK109.out 4).trans rfl⟩ (fun hHeld => ?_); refine with_tabW value_Compare.tab1 value_Compare.bits1 (fun HT_ HW_ => ?_)
  generalize w1.drew = w12 at BK108 BK109 HB hHeld ⊢
  refine pure_ (i := 0) (N := some 9) (v := ?_) (a' := ?_) #[true, false, false, false, false, false, false, false, false, false, false, false, false, false, false, false, false, false, false, false, false, false, false] rfl rfl (any_of HT_.out (by kernel_rfl)) (fun _ _ _ h => h) (Or.inl ⟨by rfl, ?_⟩) ?_ ?_
  rotate_left
  · intro w'
    go_simp
    with_reducible rfl
  rotate_left
  · simp only [Act.put, List.setIfInBounds_toArray, List.set_cons_zero, List.set_cons_succ, i64_w, i32_w]
    rfl
  refine pure_ (i := 2) (N := some 11) (v := ?_) (a' := ?_) #[true, false, true, false, false, false, false, false, false, false, false, false, false, false, false, false, false, false, false, false, false, false, false] rfl rfl (any_of HT_.out (by kernel_rfl)) (fun _ _ _ h => h) (Or.inl ⟨by rfl, ?_⟩) ?_ ?_
  rotate_left
  · intro w'
    go_simp
    with_reducible rfl
  rotate_left
  · simp only [Act.put, List.setIfInBounds_toArray, List.set_cons_zero, List.set_cons_succ, i64_w, i32_w]
    rfl
  refine pure_ (i := 5) (N := some 14) (v := ?_) (a' := ?_) #[true, false, true, false, false, true, false, false, false, false, false, false, false, false, false, false, false, false, false, false, false, false, false] rfl rfl (any_of HT_.out (by kernel_rfl)) (fun _ _ _ h => h) (Or.inl ⟨by rfl, ?_⟩) ?_ ?_
  rotate_left
  · intro w'
    go_simp
    with_reducible rfl
  rotate_left
  · simp only [Act.put, List.setIfInBounds_toArray, List.set_cons_zero, List.set_cons_succ, i64_w, i32_w]
    rfl
  refine pure_ (i := 7) (N := some 16) (v := ?_) (a' := ?_) #[true, false, true, false, false, true, false, true, false, false, false, false, false, false, false, false, false, false, false, false, false, false, false] rfl rfl (any_of HT_.out (by kernel_rfl)) (fun _ _ _ h => h) (Or.inl ⟨by rfl, ?_⟩) ?_ ?_
  rotate_left
  · intro w'
    go_simp
    with_reducible rfl
  rotate_left
  · simp only [Act.put, List.setIfInBounds_toArray, List.set_cons_zero, List.set_cons_succ, i64_w, i32_w]
    rfl
  refine pure_ (i := 10) (N := some 19) (v := ?_) (a' := ?_) #[true, false, true, false, false, true, false, true, false, false, true, false, false, false, false, false, false, false, false, false, false, false, false] rfl rfl (any_of HT_.out (by kernel_rfl)) (fun _ _ _ h => h) (Or.inl ⟨by rfl, ?_⟩) ?_ ?_
  rotate_left
  · intro w'
    go_simp
    with_reducible rfl
  rotate_left
  · simp only [Act.put, List.setIfInBounds_toArray, List.set_cons_zero, List.set_cons_succ, i64_w, i32_w]
    rfl
  refine pure_ (i := 12) (N := some 21) (v := ?_) (a' := ?_) #[true, false, true, false, false, true, false, true, false, false, true, false, true, false, false, false, false, false, false, false, false, false, false] rfl rfl (any_of HT_.out (by kernel_rfl)) (fun _ _ _ h => h) (Or.inl ⟨by rfl, ?_⟩) ?_ ?_
  rotate_left
  · intro w'
    go_simp
    with_reducible rfl
  rotate_left
  · simp only [Act.put, List.setIfInBounds_toArray, List.set_cons_zero, List.set_cons_succ, i64_w, i32_w]
    rfl
  refine pure_ (i := 15) (N := some 24) (v := ?_) (a' := ?_) #[true, false, true, false, false, true, false, true, false, false, true, false, true, false, false, true, false, false, false, false, false, false, false] rfl rfl (any_of HT_.out (by kernel_rfl)) (fun _ _ _ h => h) (Or.inl ⟨by rfl, ?_⟩) ?_ ?_
  rotate_left
  · intro w'
    go_simp
    with_reducible rfl
  rotate_left
  · simp only [Act.put, List.setIfInBounds_toArray, List.set_cons_zero, List.set_cons_succ, i64_w, i32_w]
    rfl
  refine pure_ (i := 17) (N := some 26) (v := ?_) (a' := ?_) #[true, false, true, false, false, true, false, true, false, false, true, false, true, false, false, true, false, true, false, false, false, false, false] rfl rfl (any_of HT_.out (by kernel_rfl)) (fun _ _ _ h => h) (Or.inl ⟨by rfl, ?_⟩) ?_ ?_
  rotate_left
  · intro w'
    go_simp
    with_reducible rfl
  rotate_left
  · simp only [Act.put, List.setIfInBounds_toArray, List.set_cons_zero, List.set_cons_succ, i64_w, i32_w]
    rfl
  refine take_ (i := 1) (N := some 10) (v := ?_) (a' := ?_) #[true, true, true, false, false, true, false, true, false, false, true, false, true, false, false, true, false, true, false, false, false, false, false] rfl rfl (take_ofW HT_.out HW_.out (by kernel_rfl)) (fun _ _ _ h => h) (Or.inl ⟨by rfl, ?_⟩) hHeld ?_ ?_
  rotate_left
  · rintro w' ⟨s0, s1, s2, s3, s4, s5, s6, s7, s8, s9⟩
    go_simp
    with_reducible rfl
  rotate_left
  · simp only [Act.put, List.setIfInBounds_toArray, List.set_cons_zero, List.set_cons_succ, i64_w, i32_w]
    rfl
  refine take_ (i := 3) (N := some 12) (v := ?_) (a' := ?_) #[true, true, true, true, false, true, false, true, false, false, true, false, true, false, false, true, false, true, false, false, false, false, false] rfl rfl (take_ofW HT_.out HW_.out (by kernel_rfl)) (fun _ _ _ h => h) (Or.inl ⟨by rfl, ?_⟩) hHeld ?_ ?_
  rotate_left
  · rintro w' ⟨s0, s1, s2, s3, s4, s5, s6, s7, s8, s9⟩
    go_simp
    with_reducible rfl
  rotate_left
  · simp only [Act.put, List.setIfInBounds_toArray, List.set_cons_zero, List.set_cons_succ, i64_w, i32_w]
    rfl
  refine take_ (i := 6) (N := some 15) (v := ?_) (a' := ?_) #[true, true, true, true, false, true, true, true, false, false, true, false, true, false, false, true, false, true, false, false, false, false, false] rfl rfl (take_ofW HT_.out HW_.out (by kernel_rfl)) (fun _ _ _ h => h) (Or.inl ⟨by rfl, ?_⟩) hHeld ?_ ?_
  rotate_left
  · rintro w' ⟨s0, s1, s2, s3, s4, s5, s6, s7, s8, s9⟩
    go_simp
    with_reducible rfl
  rotate_left
  · simp only [Act.put, List.setIfInBounds_toArray, List.set_cons_zero, List.set_cons_succ, i64_w, i32_w]
    rfl
  refine take_ (i := 8) (N := some 17) (v := ?_) (a' := ?_) #[true, true, true, true, false, true, true, true, true, false, true, false, true, false, false, true, false, true, false, false, false, false, false] rfl rfl (take_ofW HT_.out HW_.out (by kernel_rfl)) (fun _ _ _ h => h) (Or.inl ⟨by rfl, ?_⟩) hHeld ?_ ?_
  rotate_left
  · rintro w' ⟨s0, s1, s2, s3, s4, s5, s6, s7, s8, s9⟩
    go_simp
    with_reducible rfl
  rotate_left
  · simp only [Act.put, List.setIfInBounds_toArray, List.set_cons_zero, List.set_cons_succ, i64_w, i32_w]
    rfl
  refine take_ (i := 11) (N := some 20) (v := ?_) (a' := ?_) #[true, true, true, true, false, true, true, true, true, false, true, true, true, false, false, true, false, true, false, false, false, false, false] rfl rfl (take_ofW HT_.out HW_.out (by kernel_rfl)) (fun _ _ _ h => h) (Or.inl ⟨by rfl, ?_⟩) hHeld ?_ ?_
  rotate_left
  · rintro w' ⟨s0, s1, s2, s3, s4, s5, s6, s7, s8, s9⟩
    go_simp
    with_reducible rfl
  rotate_left
  · simp only [Act.put, List.setIfInBounds_toArray, List.set_cons_zero, List.set_cons_succ, i64_w, i32_w]
    rfl
  refine take_ (i := 13) (N := some 22) (v := ?_) (a' := ?_) #[true, true, true, true, false, true, true, true, true, false, true, true, true, true, false, true, false, true, false, false, false, false, false] rfl rfl (take_ofW HT_.out HW_.out (by kernel_rfl)) (fun _ _ _ h => h) (Or.inl ⟨by rfl, ?_⟩) hHeld ?_ ?_
  rotate_left
  · rintro w' ⟨s0, s1, s2, s3, s4, s5, s6, s7, s8, s9⟩
    go_simp
    with_reducible rfl
  rotate_left
  · simp only [Act.put, List.setIfInBounds_toArray, List.set_cons_zero, List.set_cons_succ, i64_w, i32_w]
    rfl
  refine take_ (i := 16) (N := some 25) (v := ?_) (a' := ?_) #[true, true, true, true, false, true, true, true, true, false, true, true, true, true, false, true, true, true, false, false, false, false, false] rfl rfl (take_ofW HT_.out HW_.out (by kernel_rfl)) (fun _ _ _ h => h) (Or.inl ⟨by rfl, ?_⟩) hHeld ?_ ?_
  rotate_left
  · rintro w' ⟨s0, s1, s2, s3, s4, s5, s6, s7, s8, s9⟩
    go_simp
    with_reducible rfl
  rotate_left
  · simp only [Act.put, List.setIfInBounds_toArray, List.set_cons_zero, List.set_cons_succ, i64_w, i32_w]
    rfl
  refine take_ (i := 18) (N := some 27) (v := ?_) (a' := ?_) #[true, true, true, true, false, true, true, true, true, false, true, true, true, true, false, true, true, true, true, false, false, false, false] rfl rfl (take_ofW HT_.out HW_.out (by kernel_rfl)) (fun _ _ _ h => h) (Or.inl ⟨by rfl, ?_⟩) hHeld ?_ ?_
  rotate_left
  · rintro w' ⟨s0, s1, s2, s3, s4, s5, s6, s7, s8, s9⟩
    go_simp
    with_reducible rfl
  rotate_left
  · simp only [Act.put, List.setIfInBounds_toArray, List.set_cons_zero, List.set_cons_succ, i64_w, i32_w]
    rfl
  refine one_ (i := 4) (N := some 13) #[true, true, true, true, true, true, true, true, true, false, true, true, true, true, false, true, true, true, true, false, false, false, false] rfl rfl (one_of HT_.out (by kernel_rfl)) (by decide) (fun K hK => ?_)
  refine goes_ Try.func61 (by kernel_rfl) rfl #[.int .i64 a0_0, .int .i64 a1_0] (by rfl) rfl rfl (by (try simp only [List.map_toArray, List.map_cons, List.map_nil]); first | done | rfl | (simp only [List.length_drop, List.length_take]; rfl) | (go_simp; done) | (go_simp; simp; done)) ?_
  with_reducible refine (cmp_Compare_int.calls a0_0 a1_0 t110 _ A3.out).mono ?_
  rintro e w' ⟨rfl, ⟨nd, rfl⟩⟩
  refine ⟨_, rfl, ?_⟩
  refine hK.out _ _ ⟨(blk_cell BK108.out 0).trans rfl, (blk_cell BK108.out 1).trans rfl, (blk_cell BK108.out 2).trans rfl, (blk_cell BK108.out 3).trans rfl, (blk_cell BK108.out 4).trans rfl, (blk_cell BK109.out 0).trans rfl, (blk_cell BK109.out 1).trans rfl, (blk_cell BK109.out 2).trans rfl, (blk_cell BK109.out 3).trans rfl, (blk_cell BK109.out 4).trans rfl⟩ (fun hHeld => ?_)
  clear hK K
  refine norm_ (a' := ?_) ?_ ?_
  rotate_left
  · show Act.put _ (some 13) _ = _
    simp only [Act.put, List.setIfInBounds_toArray, List.set_cons_zero, List.set_cons_succ, i64_w, i32_w]
    rfl
  refine one_ (i := 9) (N := some 18) #[true, true, true, true, true, true, true, true, true, true, true, true, true, true, false, true, true, true, true, false, false, false, false] rfl rfl (one_of HT_.out (by kernel_rfl)) (by decide) (fun K hK => ?_)
  refine goes_ Try.func62 (by kernel_rfl) rfl #[.int .i64 a0_1, .int .i64 a1_1] (by rfl) rfl rfl (by (try simp only [List.map_toArray, List.map_cons, List.map_nil]); first | done | rfl | (simp only [List.length_drop, List.length_take]; rfl) | (go_simp; done) | (go_simp; simp; done)) ?_
  with_reducible refine (cmp_Compare_int64.calls a0_1 a1_1 t111 _ A4.out).mono ?_
  rintro e w' ⟨rfl, ⟨nd, rfl⟩⟩
  refine ⟨_, rfl, ?_⟩
  refine hK.out _ _ ⟨(blk_cell BK108.out 0).trans rfl, (blk_cell BK108.out 1).trans rfl, (blk_cell BK108.out 2).trans rfl, (blk_cell BK108.out 3).trans rfl, (blk_cell BK108.out 4).trans rfl, (blk_cell BK109.out 0).trans rfl, (blk_cell BK109.out 1).trans rfl, (blk_cell BK109.out 2).trans rfl, (blk_cell BK109.out 3).trans rfl, (blk_cell BK109.out 4).trans rfl⟩ (fun hHeld => ?_)
  clear hK K
  refine norm_ (a' := ?_) ?_ ?_
  rotate_left
  · show Act.put _ (some 18) _ = _
    simp only [Act.put, List.setIfInBounds_toArray, List.set_cons_zero, List.set_cons_succ, i64_w, i32_w]
    rfl
  refine one_ (i := 14) (N := some 23) #[true, true, true, true, true, true, true, true, true, true, true, true, true, true, true, true, true, true, true, false, false, false, false] rfl rfl (one_of HT_.out (by kernel_rfl)) (by decide) (fun K hK => ?_)
  refine goes_ Try.func63 (by kernel_rfl) rfl #[.string a0_2, .string a1_2] (by rfl) rfl rfl (by (try simp only [List.map_toArray, List.map_cons, List.map_nil]); first | done | rfl | (simp only [List.length_drop, List.length_take]; rfl) | (go_simp; done) | (go_simp; simp; done)) ?_
  with_reducible refine (cmp_Compare_string.calls a0_2 a1_2 t112 _ A5.out).mono ?_
  rintro e w' ⟨rfl, ⟨nd, rfl⟩⟩
  refine ⟨_, rfl, ?_⟩
  refine hK.out _ _ ⟨(blk_cell BK108.out 0).trans rfl, (blk_cell BK108.out 1).trans rfl, (blk_cell BK108.out 2).trans rfl, (blk_cell BK108.out 3).trans rfl, (blk_cell BK108.out 4).trans rfl, (blk_cell BK109.out 0).trans rfl, (blk_cell BK109.out 1).trans rfl, (blk_cell BK109.out 2).trans rfl, (blk_cell BK109.out 3).trans rfl, (blk_cell BK109.out 4).trans rfl⟩ (fun hHeld => ?_)
  clear hK K
  refine norm_ (a' := ?_) ?_ ?_
  rotate_left
  · show Act.put _ (some 23) _ = _
    simp only [Act.put, List.setIfInBounds_toArray, List.set_cons_zero, List.set_cons_succ, i64_w, i32_w]
    rfl
  refine one_ (i := 19) (N := some 28) #[true, true, true, true, true, true, true, true, true, true, true, true, true, true, true, true, true, true, true, true, false, false, false] rfl rfl (one_of HT_.out (by kernel_rfl)) (by decide) (fun K hK => ?_)
  refine goes_ Try.func61 (by kernel_rfl) rfl #[.int .i64 a0_3, .int .i64 a1_3] (by rfl) rfl rfl (by (try simp only [List.map_toArray, List.map_cons, List.map_nil]); first | done | rfl | (simp only [List.length_drop, List.length_take]; rfl) | (go_simp; done) | (go_simp; simp; done)) ?_
  with_reducible refine (cmp_Compare_int.calls a0_3 a1_3 t113 _ A6.out).mono ?_
  rintro e w' ⟨rfl, ⟨nd, rfl⟩⟩
  refine ⟨_, rfl, ?_⟩
  refine hK.out _ _ ⟨(blk_cell BK108.out 0).trans rfl, (blk_cell BK108.out 1).trans rfl, (blk_cell BK108.out 2).trans rfl, (blk_cell BK108.out 3).trans rfl, (blk_cell BK108.out 4).trans rfl, (blk_cell BK109.out 0).trans rfl, (blk_cell BK109.out 1).trans rfl, (blk_cell BK109.out 2).trans rfl, (blk_cell BK109.out 3).trans rfl, (blk_cell BK109.out 4).trans rfl⟩ (fun hHeld => ?_)
  clear hK K
  refine norm_ (a' := ?_) ?_ ?_
  rotate_left
  · show Act.put _ (some 28) _ = _
    simp only [Act.put, List.setIfInBounds_toArray, List.set_cons_zero, List.set_cons_succ, i64_w, i32_w]
    rfl
  refine one_ (i := 20) (N := some 29) #[true, true, true, true, true, true, true, true, true, true, true, true, true, true, true, true, true, true, true, true, true, false, false] rfl rfl (one_of HT_.out (by kernel_rfl)) (by decide) (fun K hK => ?_)
  refine Kd.R_lit_step (Kd.int .i64) _ 3 ?hg (N := 29) ?hd (xs := ([t110, t111, t112, t113] : List Int)) (inner := [.int .i64 t110, .int .i64 t111, .int .i64 t112, .int .i64 t113]) (ok := fun _ => True) (okp := fun _ => True) ?hr ?hp (fun _ hk => hk) trivial (Below.refl _ _) (Nat.le_refl _) (by simp) ?_; (case hd => rfl); (case hg => rfl); (case hr => first | (go_simp; done) | (go_simp; rfl)); (case hp => exact (Reps.one (show Kd.M (Kd.int .i64) _ _ _ t110 [.int .i64 t110] from rfl) (Reps.one (show Kd.M (Kd.int .i64) _ _ _ t111 [.int .i64 t111] from rfl) (Reps.one (show Kd.M (Kd.int .i64) _ _ _ t112 [.int .i64 t112] from rfl) (Reps.one (show Kd.M (Kd.int .i64) _ _ _ t113 [.int .i64 t113] from rfl) (Reps.none _ _))))))
  intro v115 w13 ho14 hb hg_ hnew_
  clear hg_ hnew_
  (first | rw [← Ny114.out] at ho14 | (simp only [Int.reduceToNat] at ho14; rw [← Ny114.out] at ho14))
  have n0_ := Aside0.mk (Kd.R_lower ho14 (below_size (by repeat (first | (with_reducible first | exact HB.out | apply below_alloc | apply pw_below_drewN | apply below_drew1 | refine below_set ?_ GE108.out | refine below_set ?_ GE109.out) | exact HB.out))))
  have n1_ := Aside0.mk (blk_below (g := gb108) (o := .cells #[.int .i64 a0_0, .int .i64 a0_1, .string a0_2, .int .i64 a0_3, .slice A0_4 l0_4.length c0_4] 35 (0, 0)) (by (with_reducible repeat (first | refine blk_drewN ?_ _ | refine blk_drew ?_ | refine blk_alloc ?_ _)); exact BK108.out) hb)
  have n2_ := Aside0.mk (blk_below (g := gb109) (o := .cells #[.int .i64 a1_0, .int .i64 a1_1, .string a1_2, .int .i64 a1_3, .slice A1_4 l1_4.length c1_4] 35 (0, 0)) (by (with_reducible repeat (first | refine blk_drewN ?_ _ | refine blk_drew ?_ | refine blk_alloc ?_ _)); exact BK109.out) hb)
  have n3_ := Aside0.mk (below_step (by repeat (first | (with_reducible first | exact HB.out | apply below_alloc | apply pw_below_drewN | apply below_drew1 | refine below_set ?_ GE108.out | refine below_set ?_ GE109.out) | exact HB.out)) hb)
  clear BK108
  clear BK109
  clear HB
  have HO116 := n0_
  have BK108 := n1_
  have BK109 := n2_
  have HB := n3_
  clear n0_ n1_ n2_ n3_
  clear hb ho14
  obtain ⟨Ao15, co15, eo15⟩ := Kd.R_slice HO116.out
  (first | subst eo15 | (injection eo15 with f1_ f2_ f3_; have f4_ := f1_.symm; have f5_ := f3_.symm; clear f1_ f2_ f3_; subst f4_; subst f5_))
  refine hK.out _ _ ⟨(blk_cell BK108.out 0).trans rfl, (blk_cell BK108.out 1).trans rfl, (blk_cell BK108.out 2).trans rfl, (blk_cell BK108.out 3).trans rfl, (blk_cell BK108.out 4).trans rfl, (blk_cell BK109.out 0).trans rfl, (blk_cell BK109.out 1).trans rfl, (blk_cell BK109.out 2).trans rfl, (blk_cell BK109.out 3).trans rfl, (blk_cell BK109.out 4).trans rfl⟩ (fun hHeld => ?_)
  clear hK K
  refine norm_ (a' := ?_) ?_ ?_
  rotate_left
  · show Act.put _ (some 29) _ = _
    simp only [Act.put, List.setIfInBounds_toArray, List.set_cons_zero, List.set_cons_succ, i64_w, i32_w]
    rfl
  refine one_ (i := 21) (N := some 30) #[true, true, true, true, true, true, true, true, true, true, true, true, true, true, true, true, true, true, true, true, true, true, false] rfl rfl (one_of HT_.out (by kernel_rfl)) (by decide) (fun K hK => ?_)
  refine goes_ Try.func60 (by kernel_rfl) rfl #[.slice Ao15 y114.length co15] (by rfl) rfl rfl (by (try simp only [List.map_toArray, List.map_cons, List.map_nil]); first | done | rfl | (simp only [List.length_drop, List.length_take]; rfl) | (go_simp; done) | (go_simp; simp; done)) ?_
  with_reducible refine (cmp_Or_int.calls k _ _ y114 t117 _ ?side1 ?side2 A7.out).mono ?_
  (case side1 => repeat (first | exact (Kd.R_reads' HO116.out).2.2 | (with_reducible refine Kd.C_alloc ?_ _) | (with_reducible refine Kd.C_drewN ?_ _) | (with_reducible refine Kd.C_drew ?_)))
  (case side2 => exact (Kd.R_reads' HO116.out).2.1)
  rintro e w' ⟨rfl, ⟨nd, rfl⟩⟩
  refine ⟨_, rfl, ?_⟩
  refine hK.out _ _ ⟨(blk_cell BK108.out 0).trans rfl, (blk_cell BK108.out 1).trans rfl, (blk_cell BK108.out 2).trans rfl, (blk_cell BK108.out 3).trans rfl, (blk_cell BK108.out 4).trans rfl, (blk_cell BK109.out 0).trans rfl, (blk_cell BK109.out 1).trans rfl, (blk_cell BK109.out 2).trans rfl, (blk_cell BK109.out 3).trans rfl, (blk_cell BK109.out 4).trans rfl⟩ (fun hHeld => ?_)
  clear hK K
  refine norm_ (a' := ?_) ?_ ?_
  rotate_left
  · show Act.put _ (some 30) _ = _
    simp only [Act.put, List.setIfInBounds_toArray, List.set_cons_zero, List.set_cons_succ, i64_w, i32_w]
    rfl
  refine pure_ (i := 22) (N := some 5) (v := ?_) (a' := ?_) #[true, true, true, true, true, true, true, true, true, true, true, true, true, true, true, true, true, true, true, true, true, true, true] rfl rfl (any_of HT_.out (by kernel_rfl)) (fun _ _ _ h => h) (Or.inl ⟨by rfl, ?_⟩) ?_ ?_
  rotate_left
  · intro w'
    go_simp
    with_reducible rfl
  rotate_left
  · simp only [Act.put, List.setIfInBounds_toArray, List.set_cons_zero, List.set_cons_succ, i64_w, i32_w]
    rfl
  refine done_ (done_of HT_.out (by kernel_rfl)) ?_
  have HB3 : Below w1.heap.size w1 (w13.drewN nd) := by apply pw_below_drewN; exact HB.out
  have B8 := blk_drewN BK108.out nd
  have B9 := blk_drewN BK109.out nd
  obtain ⟨w3, hw3⟩ : ∃ w3, w3 = w13.drewN nd := ⟨_, rfl⟩
  rw [← hw3] at HB3 B8 B9 ⊢
  have R3 : w3.heap[gr]? = some (.cells #[.int .i64 0] 3 (0, 0)) := (HB3.block gr (Array.getElem?_eq_some_iff.1 HBR.out).1).trans HBR.out
  have hbw : Below w.heap.size w w3 := HBW.out.trans (HB3.mono HBW.out.size)
  clear hw3 HB3 BK108 BK109 HB HBR HBW hHeld
  have BK108 := Aside0.mk B8
  have BK109 := Aside0.mk B9
  have BKR := Aside0.mk R3
  have HB := Aside0.mk hbw
  clear B8 B9 R3 hbw
  have H := HH.out
  clear HH
  by_cases c8 : t117 = 0
  · rw [if_pos c8] at H
    have c8b0 : (t117 == 0) = true := beq_iff_eq.mpr c8
    have c8b1 : (t117 != 0) = false := bne_eq_false_iff_eq.mpr c8
    clear c8
    have hc8 : w3.cell? ⟨gb108, 4, none⟩ = some (.slice A0_4 l0_4.length c0_4) := (blk_cell BK108.out 4).trans rfl
    have hc9 : w3.cell? ⟨gb109, 4, none⟩ = some (.slice A1_4 l1_4.length c1_4) := (blk_cell BK109.out 4).trans rfl
    have hf8 := blk_frozen BK108.out 4
    have hf9 := blk_frozen BK109.out 4
    have HH := Aside0.mk H
    clear H
    go_wp2
    obtain ⟨w4, hw4⟩ : ∃ w4, w4 = (w3.alloc (Obj.cells #[.slice A0_4 l0_4.length c0_4] 33)).alloc (Obj.cells #[.slice A1_4 l1_4.length c1_4] 33) := ⟨_, rfl⟩
    have hs4 : w4.heap.size = w3.heap.size + 2 := by rw [hw4]; simp
    have HB34 : Below w3.heap.size w3 w4 := by rw [hw4]; exact ((Below.refl _ w3).alloc (Nat.le_refl _) _).alloc (by simp) _
    have hb1 : w4.cell? ⟨w3.heap.size, 0, none⟩ = some (.slice A0_4 l0_4.length c0_4) := by rw [hw4]; exact ((Boxed.new w3 33 (.slice A0_4 l0_4.length c0_4)).alloc _).cell
    have hb2 : w4.cell? ⟨w3.heap.size + 1, 0, none⟩ = some (.slice A1_4 l1_4.length c1_4) := by
      have h_ := (Boxed.new (w3.alloc (Obj.cells #[.slice A0_4 l0_4.length c0_4] 33)) 33 (.slice A1_4 l1_4.length c1_4)).cell
      rw [World.size_alloc] at h_
      rw [hw4]
      exact h_
    rw [← hw4]
    clear hw4
    have B8 := (HB34.block gb108 (Array.getElem?_eq_some_iff.1 BK108.out).1).trans BK108.out
    have B9 := (HB34.block gb109 (Array.getElem?_eq_some_iff.1 BK109.out).1).trans BK109.out
    have BR := (HB34.block gr (Array.getElem?_eq_some_iff.1 BKR.out).1).trans BKR.out
    have hlR : gr < w4.heap.size := (Array.getElem?_eq_some_iff.1 BR).1
    have HB4 : Below w.heap.size w w4 := HB.out.trans (HB34.mono HB.out.size)
    obtain ⟨es1, he1, hra1⟩ := row_of (Kd.C_below HR0_4.out HB4)
    obtain ⟨es2, he2, hra2⟩ := row_of (Kd.C_below HR1_4.out HB4)
    have H := HH.out
    clear HH
    by_cases hlen : l0_4.length ≤ 9223372036854775807 ∧ l1_4.length ≤ 9223372036854775807
    case neg => rw [if_neg hlen] at H; exact absurd H (by simp)
    rw [if_pos hlen] at H
    obtain ⟨cs, Hz, H2⟩ := Option.bind_eq_some_iff.mp H
    obtain ⟨hcs, hdef⟩ := zipAll_out _ _ _ _ Hz
    have hn1 := hra1.1
    have hn2 := hra2.1
    have hlen1 := hlen.1
    have hlen2 := hlen.2
    have Hra1 : RowAt w4 A0_4 es1.length es1 := hn1 ▸ hra1
    have Hra2 : RowAt w4 A1_4 es2.length es2 := hn2 ▸ hra2
    have hb1' := hn1 ▸ hb1
    have hb2' := hn2 ▸ hb2
    have hD : ∀ p ∈ es1.zip es2, ∃ c, value_Compare.f k p.1.x.f0 p.1.x.f1 p.1.x.f2 p.1.x.f3 p.1.x.f4 p.2.x.f0 p.2.x.f1 p.2.x.f2 p.2.x.f3 p.2.x.f4 = some c := by
      intro p hp
      have := hdef (p.1.x, p.2.x) (by rw [← he1, ← he2, List.zip_map]; exact List.mem_map.2 ⟨p, hp, rfl⟩)
      exact this
    have HP := pairs_stops w3.heap.size (w3.heap.size + 1) w4 A0_4 A1_4 c0_4 c1_4 es1 es2 Hra1 Hra2 (by omega) (by omega) (by omega) (by omega) hb1' hb2' (fun p => ∃ c, value_Compare.f k p.1.x.f0 p.1.x.f1 p.1.x.f2 p.1.x.f3 p.1.x.f4 p.2.x.f0 p.2.x.f1 p.2.x.f2 p.2.x.f3 p.2.x.f4 = some c) hD
    have HFIN := Aside0.mk (And.intro he1 (And.intro he2 (And.intro hcs H2)))
    clear he1 he2 hcs H2 Hz hdef hn1 hn2 hlen1 hlen2 hlen Hra1 Hra2 hra1 hra2 hb1 hb2 hb1' hb2' hD hc8 hc9 hf8 hf9 HB34 BK108 BK109 BKR
    have HH4 := Aside0.mk HB4
    have HLR := Aside0.mk hlR
    clear HB4 hlR
    refine (wpIn_wide (n := 4)).1 ?_
    refine wpIn_rangeFunc_ownH (n := 4) rfl (by omega) (gf := 87) (lb := #[.pointer (some ⟨w3.heap.size, 0, none⟩), .pointer (some ⟨w3.heap.size + 1, 0, none⟩)]) rfl trivial (enters_of Try.func87 (by kernel_rfl) rfl)
      HP belowK_t (belowK_b (Nat.le_refl _)) (Below.refl _ _) (fun _ => rfl)
      (fun pre W => firstNZ (pre.map fun p => gvl (fun x y => value_Compare.f k x.f0 x.f1 x.f2 x.f3 x.f4 y.f0 y.f1 y.f2 y.f3 y.f4) (p.1.1.x, p.1.2.x)) = 0 ∧ Aside0 (W.heap[gb108]? = some (.cells #[.int .i64 a0_0, .int .i64 a0_1, .string a0_2, .int .i64 a0_3, .slice A0_4 l0_4.length c0_4] 35 (0, 0))) ∧ Aside0 (W.heap[gb109]? = some (.cells #[.int .i64 a1_0, .int .i64 a1_1, .string a1_2, .int .i64 a1_3, .slice A1_4 l1_4.length c1_4] 35 (0, 0))) ∧ Aside0 (W.heap[gr]? = some (.cells #[.int .i64 0] 3 (0, 0))) ∧ Aside0 (Below w4.heap.size w4 W))
      (fun c pre W => c = .ret ∧ ∃ v, v ≠ 0 ∧ firstNZ (pre.map fun p => gvl (fun x y => value_Compare.f k x.f0 x.f1 x.f2 x.f3 x.f4 y.f0 y.f1 y.f2 y.f3 y.f4) (p.1.1.x, p.1.2.x)) = v ∧ Aside0 (W.heap[gr]? = some (.cells #[.int .i64 v] 3 (0, 0))) ∧ Aside0 (Below w.heap.size w W))
      ?hI ?hIx ⟨rfl, ⟨B8⟩, ⟨B9⟩, ⟨BR⟩, ⟨Below.refl _ _⟩⟩
      (fun x a' W => ∃ Bx By, Aside0 (w4.heap.size ≤ Bx) ∧ Aside0 (w4.heap.size ≤ By) ∧ Aside0 (W.heap[Bx]? = some (.cells #[.int .i64 x.1.1.x.f0, .int .i64 x.1.1.x.f1, .string x.1.1.x.f2, .int .i64 x.1.1.x.f3, .slice x.1.1.A x.1.1.x.f4.length x.1.1.c] 35 (0, 0))) ∧ Aside0 (W.heap[By]? = some (.cells #[.int .i64 x.1.2.x.f0, .int .i64 x.1.2.x.f1, .string x.1.2.x.f2, .int .i64 x.1.2.x.f3, .slice x.1.2.A x.1.2.x.f4.length x.1.2.c] 35 (0, 0))) ∧ a' = { tmps := #[.agg #[.int .i64 a0_0, .int .i64 a0_1, .string a0_2, .int .i64 a0_3, .slice A0_4 l0_4.length c0_4], .agg #[.int .i64 a1_0, .int .i64 a1_1, .string a1_2, .int .i64 a1_3, .slice A1_4 l1_4.length c1_4], .pointer (some ⟨gb108, 0, none⟩), .pointer (some ⟨gb109, 0, none⟩), .pointer (some ⟨gr, 0, none⟩), .int .i64 t117, .pointer (some ⟨Bx, 0, none⟩), .pointer (some ⟨By, 0, none⟩), undef, .pointer (some ⟨gb108, 0, none⟩), .int .i64 a0_0, .pointer (some ⟨gb109, 0, none⟩), .int .i64 a1_0, .int .i64 t110, .pointer (some ⟨gb108, 1, none⟩), .int .i64 a0_1, .pointer (some ⟨gb109, 1, none⟩), .int .i64 a1_1, .int .i64 t111, .pointer (some ⟨gb108, 2, none⟩), .string a0_2, .pointer (some ⟨gb109, 2, none⟩), .string a1_2, .int .i64 t112, .pointer (some ⟨gb108, 3, none⟩), .int .i64 a0_3, .pointer (some ⟨gb109, 3, none⟩), .int .i64 a1_3, .int .i64 t113, .slice Ao15 y114.length co15, .int .i64 t117, .int .i64 t117, .bool false, undef, .pointer (some ⟨gb108, 4, none⟩), .slice A0_4 l0_4.length c0_4, .pointer (some ⟨gb109, 4, none⟩), .slice A1_4 l1_4.length c1_4, .func (.func 87) #[] #[.pointer (some ⟨w3.heap.size, 0, none⟩), .pointer (some ⟨w3.heap.size + 1, 0, none⟩)], x.1.1.v, x.1.2.v, undef, undef, undef, undef, undef, undef, undef, undef, undef, undef, undef, undef, undef], defers := [] })
      ?hAx ?assign ?body ?done ?stop
    case hI => exact fun s X Y row hs hg hr => ⟨hs.1, blk_from hs.2.1 hg hr, blk_from hs.2.2.1 hg hr, blk_from hs.2.2.2.1 hg hr, below_from hs.2.2.2.2 (Nat.le_refl _) (Nat.le_refl _) hg hr⟩
    case hIx =>
      rintro c s X Y row ⟨hc, v, hv, hf, hb, hw⟩ hg hr
      exact ⟨hc, v, hv, hf, blk_from hb hg hr, below_from hw (Nat.le_refl _) HH4.out.size hg hr⟩
    case hAx =>
      rintro x a' s X Y row ⟨Bx, By, gx, gy, bx, by_, ha⟩ hg hr
      exact ⟨Bx, By, gx, gy, blk_from bx hg hr, blk_from by_ hg hr, ha⟩
    case assign =>
      rintro l pre x W K ⟨h0, h8, h9, hR, hB⟩ hK
      have hsz := Aside0.mk hB.out.size
      simp only [El.v]
      gi_wp2
      have hsz2 := hsz.out
      refine hK _ _ (((KeepsOthers.alloc _ _).trans (KeepsOthers.alloc _ _)).from _) (((Below.refl _ W).alloc hsz2 _).alloc (by rw [World.size_alloc]; omega) _) ⟨h0, ⟨blk_alloc (blk_alloc h8.out _) _⟩, ⟨blk_alloc (blk_alloc h9.out _) _⟩, ⟨blk_alloc (blk_alloc hR.out _) _⟩, ⟨(hB.out.alloc hsz2 _).alloc (by rw [World.size_alloc]; omega) _⟩⟩ ⟨W.heap.size, W.heap.size + 1, ⟨hsz2⟩, ⟨by omega⟩, ⟨blk_alloc (World.alloc_heap_new W _) _⟩, ⟨?_⟩, rfl⟩
      have h_ := World.alloc_heap_new (W.alloc (Obj.cells #[.int .i64 x.1.1.x.f0, .int .i64 x.1.1.x.f1, .string x.1.1.x.f2, .int .i64 x.1.1.x.f3, .slice x.1.1.A x.1.1.x.f4.length x.1.1.c] 35)) (Obj.cells #[.int .i64 x.1.2.x.f0, .int .i64 x.1.2.x.f1, .string x.1.2.x.f2, .int .i64 x.1.2.x.f3, .slice x.1.2.A x.1.2.x.f4.length x.1.2.c] 35)
      rw [World.size_alloc] at h_
      exact h_
    case body =>
      rintro l pre ⟨⟨ex, ey⟩, c, hc⟩ a' W hl hrec ⟨h0, h8, h9, hR, hB⟩ ⟨Bx, By, gx, gy, bx, by_, rfl⟩ hlt
      have hsz := Aside0.mk hB.out.size
      have hx0 : W.cell? ⟨Bx, 0, none⟩ = some (.int .i64 ex.x.f0) := (blk_cell bx.out 0).trans rfl
      have hx1 : W.cell? ⟨Bx, 1, none⟩ = some (.int .i64 ex.x.f1) := (blk_cell bx.out 1).trans rfl
      have hx2 : W.cell? ⟨Bx, 2, none⟩ = some (.string ex.x.f2) := (blk_cell bx.out 2).trans rfl
      have hx3 : W.cell? ⟨Bx, 3, none⟩ = some (.int .i64 ex.x.f3) := (blk_cell bx.out 3).trans rfl
      have hx4 : W.cell? ⟨Bx, 4, none⟩ = some (.slice ex.A ex.x.f4.length ex.c) := (blk_cell bx.out 4).trans rfl
      have hy0 : W.cell? ⟨By, 0, none⟩ = some (.int .i64 ey.x.f0) := (blk_cell by_.out 0).trans rfl
      have hy1 : W.cell? ⟨By, 1, none⟩ = some (.int .i64 ey.x.f1) := (blk_cell by_.out 1).trans rfl
      have hy2 : W.cell? ⟨By, 2, none⟩ = some (.string ey.x.f2) := (blk_cell by_.out 2).trans rfl
      have hy3 : W.cell? ⟨By, 3, none⟩ = some (.int .i64 ey.x.f3) := (blk_cell by_.out 3).trans rfl
      have hy4 : W.cell? ⟨By, 4, none⟩ = some (.slice ey.A ey.x.f4.length ey.c) := (blk_cell by_.out 4).trans rfl
      have hd : 1 ≤ 4 - 1 - 1 := by omega
      have HC := Aside0.mk hc
      have HI0 := Aside0.mk h0
      clear h0 hlt
      have hlR := Aside0.mk (Array.getElem?_eq_some_iff.1 hR.out).1
      by_cases hcz : c = 0
      · subst hcz
        gi_wp2
        refine ⟨trivial, ?_⟩
        refine (CallsIn.inRound l (callsIn_wide.2 (ih k (by omega) ex.x.f0 ex.x.f1 ex.x.f2 ex.x.f3 ex.A ex.c ex.x.f4 ey.x.f0 ey.x.f1 ey.x.f2 ey.x.f3 ey.A ey.c ey.x.f4 0 _ (Kd.C_below ex.rd hB.out) ex.le (Kd.C_below ey.rd hB.out) ey.le HC.out))).mono ?_
        rintro e W3 ⟨rfl, hb3_⟩
        have hb3 := Aside0.mk hb3_
        clear hb3_
        dsimp only
        gi_wp2
        have hb3' := hb3.out
        refine ⟨keeps_of_below hb3', hb3'.mono hsz.out, ?_, ⟨(hb3'.block gb108 (Array.getElem?_eq_some_iff.1 h8.out).1).trans h8.out⟩, ⟨(hb3'.block gb109 (Array.getElem?_eq_some_iff.1 h9.out).1).trans h9.out⟩, ⟨(hb3'.block gr hlR.out).trans hR.out⟩, ⟨hB.out.trans (hb3'.mono hsz.out)⟩⟩
        rw [List.map_append, List.map_cons, List.map_nil, firstNZ_snoc, if_pos HI0.out]
        show (value_Compare.f k ex.x.f0 ex.x.f1 ex.x.f2 ex.x.f3 ex.x.f4 ey.x.f0 ey.x.f1 ey.x.f2 ey.x.f3 ey.x.f4).getD 0 = 0
        rw [HC.out]
        rfl
      · have hcz1 : (c != 0) = true := bne_iff_ne.mpr hcz
        have hcz0 : (c == 0) = false := beq_eq_false_iff_ne.mpr hcz
        have HCZ := Aside0.mk hcz
        clear hcz
        gi_wp2
        refine ⟨trivial, ?_⟩
        refine (CallsIn.inRound l (callsIn_wide.2 (ih k (by omega) ex.x.f0 ex.x.f1 ex.x.f2 ex.x.f3 ex.A ex.c ex.x.f4 ey.x.f0 ey.x.f1 ey.x.f2 ey.x.f3 ey.A ey.c ey.x.f4 c _ (Kd.C_below ex.rd hB.out) ex.le (Kd.C_below ey.rd hB.out) ey.le HC.out))).mono ?_
        rintro e W3 ⟨rfl, hb3_⟩
        have hb3 := Aside0.mk hb3_
        have hR3 := Aside0.mk ((hb3_.block gr hlR.out).trans hR.out)
        have hcR : W3.cell? ⟨gr, 0, none⟩ = some (.int .i64 0) := (blk_cell hR3.out 0).trans rfl
        have hfR := blk_frozen hR3.out 0
        clear hb3_
        dsimp only
        gi_wp2
        have hb3' := hb3.out
        refine ⟨(keeps_of_below hb3').trans ((KeepsOthers.setCell _ _ _).from _), rfl, c, HCZ.out, ?_, ⟨Boxed.set (.int .i64 c) (show Boxed W3 gr 3 (.int .i64 0) from hR3.out)⟩, ⟨?_⟩⟩
        · rw [List.map_append, List.map_cons, List.map_nil, firstNZ_snoc, if_pos HI0.out]
          show (value_Compare.f k ex.x.f0 ex.x.f1 ex.x.f2 ex.x.f3 ex.x.f4 ey.x.f0 ey.x.f1 ey.x.f2 ey.x.f3 ey.x.f4).getD 0 = c
          rw [HC.out]
          rfl
        · exact ((HH4.out.trans (hB.out.mono HH4.out.size)).trans (hb3'.mono (Nat.le_trans HH4.out.size hsz.out))).setCell (p := ⟨gr, 0, none⟩) HG.out.1 _
    case done =>
      rintro D ys W hD hys ⟨h0, h8, h9, hR, hB⟩ hK
      obtain ⟨he1, he2, hcs, H2⟩ := HFIN.out
      have h0' : firstNZ cs = 0 := by
        rw [hcs, ← he1, ← he2, List.zip_map, ← hys, List.map_map, List.map_map]
        exact h0
      rw [if_pos h0'] at H2
      have HC := Aside0.mk H2
      have HK := Aside0.mk hK
      have HD := Aside0.mk hD
      clear he1 he2 hcs H2 h0' h0 hys hK hD
      have hc8 : W.cell? ⟨gb108, 4, none⟩ = some (.slice A0_4 l0_4.length c0_4) := (blk_cell h8.out 4).trans rfl
      have hc9 : W.cell? ⟨gb109, 4, none⟩ = some (.slice A1_4 l1_4.length c1_4) := (blk_cell h9.out 4).trans rfl
      have hf8 := blk_frozen h8.out 4
      have hf9 := blk_frozen h9.out 4
      go_wp2_with (first | ((with_reducible refine gate_callee (f := 61) rfl ?_); refine goesL_ (some 53) rfl rfl Try.func61 (by kernel_rfl) rfl #[.int .i64 (l0_4.length : Int), .int .i64 (l1_4.length : Int)] rfl (by (try simp only [List.map_toArray, List.map_cons, List.map_nil]); first | done | rfl | (go_simp; done) | (go_simp; simp; done)) ?_; (with_reducible refine (cmp_Compare_int.calls (l0_4.length : Int) (l1_4.length : Int) r _ HC.out).mono ?_); rintro e w' ⟨rfl, ⟨nd, rfl⟩⟩; refine ⟨_, rfl, ?_⟩; have hR3 := Aside0.mk (blk_drewN hR.out nd); have hcR : (W.drewN nd).cell? ⟨gr, 0, none⟩ = some (.int .i64 0) := (blk_cell hR3.out 0).trans rfl; have hfR := blk_frozen hR3.out 0))
      have hbd : Below W.heap.size W (W.drewN nd) := by apply pw_below_drewN; exact Below.refl _ _
      have hKd := (hbd.block D (Array.getElem?_eq_some_iff.1 HK.out).1).trans HK.out
      have HB5 : Below w.heap.size w (W.drewN nd) := by apply pw_below_drewN; exact HH4.out.trans (hB.out.mono HH4.out.size)
      have hK' := (KeepsOthers.setCell (W.drewN nd) ⟨gr, 0, none⟩ (.int .i64 r)).same D _ hKd rfl
      have hc5 := cell_kept (World.cell?_setCell_same' (W.drewN nd) ⟨gr, 0, none⟩ (.int .i64 r) (by rw [hcR]; rfl)) (grownBy_putObj' _ D (.deferred none)) (fun r e => by cases e; exact ⟨_, hK', rfl⟩)
      show LeavesInM Fence.wide 5 Try.prog Try.f40 _ _ _ .returning _
      refine ⟨by simp, .inl ⟨_, _, rfl, run_takeDeferred hK', ?_⟩⟩
      refine ⟨.int .i64 r, ?_, rfl, (HB5.setCell (p := ⟨gr, 0, none⟩) HG.out.1 _).trans (belowK_b (w := w) (Nat.le_refl _) _ D _ _ (Nat.le_trans HH4.out.size HD.out) hK' rfl rfl)⟩
      simp [results, Try.f40, go_sem, hc5]
    case stop =>
      rintro D c pre W hD hpre ⟨rfl, v, hv, hf, hR, hB⟩ hK
      obtain ⟨he1, he2, hcs, H2⟩ := HFIN.out
      have hfull : firstNZ cs = v := by
        rw [← hf]
        refine firstNZ_prefix ?_ (by rw [hf]; exact hv)
        rw [hcs, ← he1, ← he2, List.zip_map, List.map_map]
        have := hpre.map (fun p : El w4 × El w4 => gvl (fun x y => value_Compare.f k x.f0 x.f1 x.f2 x.f3 x.f4 y.f0 y.f1 y.f2 y.f3 y.f4) (p.1.x, p.2.x))
        rw [List.map_map] at this
        exact this
      rw [hfull, if_neg hv] at H2
      obtain rfl := Option.some.inj H2
      clear he1 he2 hcs H2 hfull hv hf hpre
      refine wpIn_wide.2 ?_
      go_wp2
      have hc5 := cell_kept ((blk_cell hR.out 0).trans (show (#[Value.int .i64 v])[0]? = some (.int .i64 v) from rfl)) (grownBy_putObj' _ D (.deferred none)) (fun r e => by cases e; exact ⟨_, hK, rfl⟩)
      show LeavesInM Fence.wide 5 Try.prog Try.f40 _ _ _ .returning _
      refine ⟨by simp, .inl ⟨_, _, rfl, run_takeDeferred hK, ?_⟩⟩
      refine ⟨.int .i64 v, ?_, rfl, hB.out.trans (belowK_b (w := w) (Nat.le_refl _) _ D _ _ (Nat.le_trans HH4.out.size hD) hK rfl rfl)⟩
      simp [results, Try.f40, go_sem, hc5]
  · rw [if_neg c8] at H
    obtain rfl := Option.some.inj H
    have c8b0 : (t117 == 0) = false := beq_eq_false_iff_ne.mpr c8
    have c8b1 : (t117 != 0) = true := bne_iff_ne.mpr c8
    clear c8
    have hcr := (blk_cell BKR.out 0).trans (show (#[Value.int .i64 0])[0]? = some (.int .i64 0) from rfl)
    have hfr := blk_frozen BKR.out 0
    go_wp2
    have hc5 := World.cell?_setCell_same' w3 ⟨gr, 0, none⟩ (.int .i64 t117) (by rw [hcr]; rfl)
    show ∃ v, (results Try.f40 _).run Try.prog _ = .ok v _ ∧ _
    refine ⟨.int .i64 t117, ?_, rfl, HB.out.setCell (p := ⟨gr, 0, none⟩) HG.out.1 _⟩
    simp [results, Try.f40, go_sem, hc5]
end Go.Proofs.Ytnokieaebnmljaa.PAll
namespace Go.Proofs.Ytnokieaebnmljaa.PAll
open Go Go.Proofs Go.RowKit Go.Shelf Go.Proofs.YtnokieaebnmljaaW.PrintWords Go.Proofs.YtnokieaebnmljaaW.PrintLast Go.Proofs.YtnokieaebnmljaaW.PrintMore
attribute [local go_sem] Oper.semAt_some
set_option linter.unusedVariables false
set_option linter.unusedSimpArgs false

/-- An entry as a row's element has it. -/
structure EE (w0 : World) (ok : Nat → Prop) where
  x : S82
  A4 : Option Addr
  c4 : Nat
  le4 : x.f0.f4.length ≤ c4
  rd4 : Kd.F k35 w0 ok A4 x.f0.f4.length x.f0.f4
  A9 : Option Addr
  c9 : Nat
  le9 : x.f1.f4.length ≤ c9
  rd9 : Kd.F k35 w0 ok A9 x.f1.f4.length x.f1.f4
def EE.v {w0 : World} {ok : Nat → Prop} (e : EE w0 ok) : Value := .agg #[.int .i64 e.x.f0.f0, .int .i64 e.x.f0.f1, .string e.x.f0.f2, .int .i64 e.x.f0.f3, .slice e.A4 e.x.f0.f4.length e.c4, .int .i64 e.x.f1.f0, .int .i64 e.x.f1.f1, .string e.x.f1.f2, .int .i64 e.x.f1.f3, .slice e.A9 e.x.f1.f4.length e.c9]
def RowE {w0 : World} {ok : Nat → Prop} (W : World) (A : Option Addr) (n : Nat) (es : List (EE w0 ok)) : Prop :=
  n = es.length ∧ ∀ i (h : i < es.length), ∃ ad, A = some ad ∧ W.cell? (ad.add (i * 10)) = some (.int .i64 es[i].x.f0.f0) ∧ W.cell? ⟨(ad.add (i * 10)).block, (ad.add (i * 10)).off + 1, none⟩ = some (.int .i64 es[i].x.f0.f1) ∧ W.cell? ⟨(ad.add (i * 10)).block, (ad.add (i * 10)).off + 2, none⟩ = some (.string es[i].x.f0.f2) ∧ W.cell? ⟨(ad.add (i * 10)).block, (ad.add (i * 10)).off + 3, none⟩ = some (.int .i64 es[i].x.f0.f3) ∧ W.cell? ⟨(ad.add (i * 10)).block, (ad.add (i * 10)).off + 4, none⟩ = some (.slice es[i].A4 es[i].x.f0.f4.length es[i].c4) ∧ W.cell? ⟨(ad.add (i * 10)).block, (ad.add (i * 10)).off + 5, none⟩ = some (.int .i64 es[i].x.f1.f0) ∧ W.cell? ⟨(ad.add (i * 10)).block, (ad.add (i * 10)).off + 6, none⟩ = some (.int .i64 es[i].x.f1.f1) ∧ W.cell? ⟨(ad.add (i * 10)).block, (ad.add (i * 10)).off + 7, none⟩ = some (.string es[i].x.f1.f2) ∧ W.cell? ⟨(ad.add (i * 10)).block, (ad.add (i * 10)).off + 8, none⟩ = some (.int .i64 es[i].x.f1.f3) ∧ W.cell? ⟨(ad.add (i * 10)).block, (ad.add (i * 10)).off + 9, none⟩ = some (.slice es[i].A9 es[i].x.f1.f4.length es[i].c9)
theorem rowE_of {w0 : World} {ok : Nat → Prop} {A : Option Addr} {l : List S82} (h : Kd.F k82 w0 ok A l.length l) : ∃ es : List (EE w0 ok), es.map (·.x) = l ∧ RowE w0 A l.length es := by
  have hx : ∀ i (hi : i < l.length), ∃ e : EE w0 ok, e.x = l[i] ∧ ∃ ad, A = some ad ∧ w0.cell? (ad.add (i * 10)) = some (.int .i64 e.x.f0.f0) ∧ w0.cell? ⟨(ad.add (i * 10)).block, (ad.add (i * 10)).off + 1, none⟩ = some (.int .i64 e.x.f0.f1) ∧ w0.cell? ⟨(ad.add (i * 10)).block, (ad.add (i * 10)).off + 2, none⟩ = some (.string e.x.f0.f2) ∧ w0.cell? ⟨(ad.add (i * 10)).block, (ad.add (i * 10)).off + 3, none⟩ = some (.int .i64 e.x.f0.f3) ∧ w0.cell? ⟨(ad.add (i * 10)).block, (ad.add (i * 10)).off + 4, none⟩ = some (.slice e.A4 e.x.f0.f4.length e.c4) ∧ w0.cell? ⟨(ad.add (i * 10)).block, (ad.add (i * 10)).off + 5, none⟩ = some (.int .i64 e.x.f1.f0) ∧ w0.cell? ⟨(ad.add (i * 10)).block, (ad.add (i * 10)).off + 6, none⟩ = some (.int .i64 e.x.f1.f1) ∧ w0.cell? ⟨(ad.add (i * 10)).block, (ad.add (i * 10)).off + 7, none⟩ = some (.string e.x.f1.f2) ∧ w0.cell? ⟨(ad.add (i * 10)).block, (ad.add (i * 10)).off + 8, none⟩ = some (.int .i64 e.x.f1.f3) ∧ w0.cell? ⟨(ad.add (i * 10)).block, (ad.add (i * 10)).off + 9, none⟩ = some (.slice e.A9 e.x.f1.f4.length e.c9) := by
    intro i hi
    obtain ⟨ad, cs, ha, hcl, hK, hcc, _⟩ := Kd.F_get h z82 (i : Int) (by omega) (by omega)
    have er : l.getD (i : Int).toNat z82 = l[i] := by simp [hi]
    rw [er] at hK
    rw [Int.toNat_natCast] at hcc
    obtain ⟨A4, c4, A9, c9, rfl, hle4, hr4, hle9, hr9⟩ := k82_openF hK
    rw [show k82.sz = 10 from rfl] at hcc
    replace hcc : ∀ j u, _ := hcc
    exact ⟨⟨l[i], A4, c4, hle4, hr4, A9, c9, hle9, hr9⟩, rfl, ad, ha, hcc 0 _ rfl, by rw [← add_field _ _ 1 (by omega)]; exact hcc 1 _ rfl, by rw [← add_field _ _ 2 (by omega)]; exact hcc 2 _ rfl, by rw [← add_field _ _ 3 (by omega)]; exact hcc 3 _ rfl, by rw [← add_field _ _ 4 (by omega)]; exact hcc 4 _ rfl, by rw [← add_field _ _ 5 (by omega)]; exact hcc 5 _ rfl, by rw [← add_field _ _ 6 (by omega)]; exact hcc 6 _ rfl, by rw [← add_field _ _ 7 (by omega)]; exact hcc 7 _ rfl, by rw [← add_field _ _ 8 (by omega)]; exact hcc 8 _ rfl, by rw [← add_field _ _ 9 (by omega)]; exact hcc 9 _ rfl⟩
  refine ⟨List.ofFn (fun i : Fin l.length => Classical.choose (hx i.1 i.2)), ?_, by simp, ?_⟩
  · apply List.ext_getElem
    · simp
    · intro i h1 h2
      simp only [List.getElem_map, List.getElem_ofFn]
      exact (Classical.choose_spec (hx i h2)).1
  · intro i hi
    have hi' : i < l.length := by simpa using hi
    simp only [List.getElem_ofFn]
    exact (Classical.choose_spec (hx i hi')).2
theorem RowE.below {w0 W : World} {ok : Nat → Prop} {A : Option Addr} {n : Nat} {es : List (EE w0 ok)} (h : Below w0.heap.size w0 W) (hr : RowE w0 A n es) : RowE W A n es :=
  ⟨hr.1, fun i hi => let ⟨ad, ha, h0, h1, h2, h3, h4, h5, h6, h7, h8, h9⟩ := hr.2 i hi; ⟨ad, ha, El.cell h h0, El.cell h h1, El.cell h h2, El.cell h h3, El.cell h h4, El.cell h h5, El.cell h h6, El.cell h h7, El.cell h h8, El.cell h h9⟩⟩
/-- A row's elements with their places. -/
def en {α : Type} (es : List α) : List (Nat × α) := (List.range es.length).zip es
theorem en_length {α : Type} (es : List α) : (en es).length = es.length := by simp [en]
theorem en_getElem {α : Type} (es : List α) (k : Nat) (h : k < (en es).length) (h' : k < es.length) : (en es)[k] = (k, es[k]) := by simp [en]
theorem en_take {α : Type} (es : List α) (k : Nat) (h : k < es.length) : (en es).take k ++ [(k, es[k])] = (en es).take (k + 1) := by
  have h2 : k < (en es).length := by rw [en_length]; exact h
  rw [List.take_succ_eq_append_getElem h2, en_getElem es k h2 h]

attribute [local go_sem] max2_int min2_int max_two min_two
set_option maxRecDepth 100000 in
set_option maxHeartbeats 2000000 in
/-- entries' closure where there is such a map. -/
theorem entries1_in (n : Nat) (hn : 1 ≤ n) (l B1 B2 : Nat) (w0 : World) (ok : Nat → Prop) (ad0 : Addr) (n0 c0 : Nat) (m : Int) (hm0 : 0 ≤ m) (hm1 : m < (n0 : Int)) (Am : Option Addr) (cm : Nat) (es : List (EE w0 ok))
    (hcell : w0.cell? (ad0.add m.toNat) = some (.slice Am es.length cm)) (hr : RowE w0 Am es.length es) (hl : es.length ≤ 9223372036854775807) (J Jx : List (Nat × EE w0 ok) → World → Prop)
    (hY : ∀ pre x W, J pre W → pre ++ [x] <+: en es → YieldAt Fence.wide (n - 1) Try.prog l #[.int .i64 (x.1 : Int), x.2.v] W fun e W' =>
      (e = .returned (.bool true) ∧ J (pre ++ [x]) W' ∧ Below w0.heap.size W W') ∨ (e = .returned (.bool false) ∧ Jx (pre ++ [x]) W'))
    (hJg : ∀ pre W W', J pre W → W.grownBy W' none → J pre W')
    (W : World) (hW : Below w0.heap.size w0 W) (hb1 : W.cell? ⟨B1, 0, none⟩ = some (.int .i64 m)) (hb2 : W.cell? ⟨B2, 0, none⟩ = some (.slice (some ad0) n0 c0)) (h0 : J [] W) :
    CallsIn Fence.wide n Try.prog 59 #[.func (.yield l) #[] #[], .pointer (some ⟨B1, 0, none⟩), .pointer (some ⟨B2, 0, none⟩)] W fun e W' => (∃ v, e = .returned v) ∧
      (J (en es) W' ∨ (∃ pre, pre <+: en es ∧ Jx pre W')) := by
  refine callsIn_of_wp Try.func59 rfl trivial ?_ rfl
  simp only [Try.ntmps59, List.size_toArray, List.length_cons, List.length_nil, Nat.reduceAdd, Nat.reduceSub, Array.replicate_succ, Array.replicate_zero, List.push_toArray, List.append_toArray, List.nil_append, List.cons_append]
  have hu27 := Try.underlying27
  have hu82 := Try.underlying82
  have hu35 := Try.underlying35
  have hcW := El.cell hW hcell
  have hm2 : decide (m < 0) = false := decide_eq_false (by omega)
  have hm3 : decide (m ≥ (n0 : Int)) = false := decide_eq_false (by omega)
  have HH := Aside0.mk (And.intro hY (And.intro hJg hr))
  clear hY hJg hr
  gi_wp2
  gi_loopw [21] (fun i wr => ∃ k : Nat, k ≤ es.length ∧ i = .int .i64 k ∧ J ((en es).take k) wr ∧ Below w0.heap.size w0 wr)
      (fun i _ => es.length - (intOf i).toNat)
  case atStart => exact ⟨0, Nat.zero_le _, rfl, h0, hW⟩
  case round =>
    obtain ⟨k, hk, rfl, hJs, hnx⟩ := hrel
    by_cases hlt : k < es.length
    · obtain ⟨ad1, rfl, p0, p1, p2, p3, p4, p5, p6, p7, p8, p9⟩ := (HH.out.2.2.below hnx).2 k hlt
      have hpre : (en es).take k ++ [(k, es[k])] <+: en es := by rw [en_take es k hlt]; exact List.take_prefix _ _
      have htk := en_take es k hlt
      generalize es[k] = e at p0 p1 p2 p3 p4 p5 p6 p7 p8 p9 hpre htk
      obtain ⟨fn, tmps, assign, body, hy, hR⟩ := HH.out.1 _ (k, e) (wr.alloc (Obj.cells #[.int .i64 e.x.f0.f0, .int .i64 e.x.f0.f1, .string e.x.f0.f2, .int .i64 e.x.f0.f3, .slice e.A4 e.x.f0.f4.length e.c4, .int .i64 e.x.f1.f0, .int .i64 e.x.f1.f1, .string e.x.f1.f2, .int .i64 e.x.f1.f3, .slice e.A9 e.x.f1.f4.length e.c9] 82)) (HH.out.2.1 _ _ _ hJs (World.grownBy_alloc wr _ none)) hpre
      rw [htk] at hR
      simp only [EE.v] at hy
      have hR' := hR.mono (R' := fun e_ W' => ∃ b : Bool, e_ = .returned (.bool b) ∧ ((b = true ∧ J ((en es).take (k + 1)) W' ∧ Below w0.heap.size (wr.alloc (Obj.cells #[.int .i64 e.x.f0.f0, .int .i64 e.x.f0.f1, .string e.x.f0.f2, .int .i64 e.x.f0.f3, .slice e.A4 e.x.f0.f4.length e.c4, .int .i64 e.x.f1.f0, .int .i64 e.x.f1.f1, .string e.x.f1.f2, .int .i64 e.x.f1.f3, .slice e.A9 e.x.f1.f4.length e.c9] 82)) W') ∨ (b = false ∧ Jx ((en es).take (k + 1)) W'))) (by
        rintro e_ W' (⟨rfl, h⟩ | ⟨rfl, h⟩)
        · exact ⟨true, rfl, .inl ⟨rfl, h⟩⟩
        · exact ⟨false, rfl, .inr ⟨rfl, h⟩⟩)
      clear hR htk hpre
      have HJs := Aside0.mk hJs
      have HNX := Aside0.mk hnx
      obtain ⟨L1, hL1⟩ : ∃ L1, L1 = (en es).take (k + 1) := ⟨_, rfl⟩
      rw [← hL1] at hR'
      have HL1 := Aside0.mk hL1
      clear hJs hL1
      have HLT := Aside0.mk hlt
      gi_wp2
      refine hR'.mono ?_
      rintro e_ W3 ⟨b, rfl, hb3_⟩
      have hb3 := Aside0.mk hb3_
      clear hb3_
      rcases hb3.out with ⟨rfl, hJ3, hk3⟩ | ⟨rfl, hJx3⟩
      · gi_wp2
        go_roundw
        case rel => exact ⟨k + 1, HLT.out, by simp, HL1.out ▸ hJ3, (HNX.out.alloc HNX.out.size _).trans hk3⟩
        case measure => have hlt := HLT.out; simp [intOf]; omega
      · gi_wp2
        refine bodyPost_ret (results_none rfl _ _ _) rfl ?_
        exact ⟨⟨_, rfl⟩, .inr ⟨L1, HL1.out ▸ List.take_prefix _ _, hJx3⟩⟩
    · obtain rfl : k = es.length := by omega
      gi_wp2
      go_end0
      rw [← en_length es, List.take_length] at hJs
      exact ⟨⟨_, rfl⟩, .inl hJs⟩

set_option maxHeartbeats 2000000 in
/-- .. and where there is none. -/
theorem entries0_in (n : Nat) (l B1 B2 : Nat) (A0 : Option Addr) (n0 c0 : Nat) (m : Int) (hm : m < 0 ∨ (n0 : Int) ≤ m) (J : World → Prop)
    (W : World) (hb1 : W.cell? ⟨B1, 0, none⟩ = some (.int .i64 m)) (hb2 : W.cell? ⟨B2, 0, none⟩ = some (.slice A0 n0 c0)) (h0 : J W) :
    CallsIn Fence.wide n Try.prog 59 #[.func (.yield l) #[] #[], .pointer (some ⟨B1, 0, none⟩), .pointer (some ⟨B2, 0, none⟩)] W fun e W' => (∃ v, e = .returned v) ∧ J W' := by
  refine callsIn_of_wp Try.func59 rfl trivial ?_ rfl
  simp only [Try.ntmps59, List.size_toArray, List.length_cons, List.length_nil, Nat.reduceAdd, Nat.reduceSub, Array.replicate_succ, Array.replicate_zero, List.push_toArray, List.append_toArray, List.nil_append, List.cons_append]
  have hu27 := Try.underlying27
  by_cases hlt : m < 0
  · have hm2 : decide (m < 0) = true := decide_eq_true hlt
    gi_wp2
    refine bodyPost_ret (results_none rfl _ _ _) rfl ?_
    exact ⟨⟨_, rfl⟩, h0⟩
  · have hm2 : decide (m < 0) = false := decide_eq_false hlt
    have hm3 : decide ((n0 : Int) ≤ m) = true := decide_eq_true (by omega)
    gi_wp2
    refine bodyPost_ret (results_none rfl _ _ _) rfl ?_
    exact ⟨⟨_, rfl⟩, h0⟩

/-- What entries gives of a state: the rows of its map m, if there is one. -/
def mapOf (l0 : List (List S82)) (m : Int) : List S82 := if 0 ≤ m ∧ m < (l0.length : Int) then rd_L5 l0 m else []
theorem entries_stops (w wl : World) (hwl : Below w.heap.size w wl) (ok : Nat → Prop) (B1 B2 : Nat) (A0 : Option Addr) (c0 : Nat) (l0 : List (List S82)) (m : Int) (hF : Kd.F (Kd.slice 82 k82) w ok A0 l0.length l0) (hB1 : B1 < wl.heap.size) (hB2 : B2 < wl.heap.size)
    (hb1 : wl.cell? ⟨B1, 0, none⟩ = some (.int .i64 m)) (hb2 : wl.cell? ⟨B2, 0, none⟩ = some (.slice A0 l0.length c0)) :
    ∃ es : List (EE w ok), es.map (·.x) = mapOf l0 m ∧ ∀ D : Nat × EE w ok → Prop, (∀ p ∈ en es, D p) →
      SeqStopsK Fence.wide 3 Try.prog 59 #[.pointer (some ⟨B1, 0, none⟩), .pointer (some ⟨B2, 0, none⟩)] (fun x : { p : Nat × EE w ok // D p } => #[.int .i64 (x.1.1 : Int), x.1.2.v]) (Below w.heap.size) (fun ys => ys.map (·.1) = en es) (fun pre => pre.map (·.1) <+: en es) (en es).length wl := by
  have hbx : ∀ {W' : World}, Below wl.heap.size wl W' → W'.cell? ⟨B1, 0, none⟩ = some (.int .i64 m) ∧ W'.cell? ⟨B2, 0, none⟩ = some (.slice A0 l0.length c0) := fun h =>
    ⟨(h.cell (p := ⟨B1, 0, none⟩) hB1).trans hb1, (h.cell (p := ⟨B2, 0, none⟩) hB2).trans hb2⟩
  by_cases hm : 0 ≤ m ∧ m < (l0.length : Int)
  · obtain ⟨ad, cs, rfl, hcl, hK, hcc, _⟩ := Kd.F_get hF ([] : List S82) m hm.1 hm.2
    obtain ⟨Am, cm, rfl, hle, hFm⟩ := Kd.FK_slice_open hK
    have hc0 := hcc 0 _ rfl
    rw [show (Kd.slice 82 k82).sz = 1 from rfl, Nat.mul_one, Nat.add_zero] at hc0
    obtain ⟨es, he, hr⟩ := rowE_of hFm
    refine ⟨es, by rw [he]; simp [mapOf, hm, rd_L5], fun D hD l J Jx W hW hJ hJx hY h0 => ?_⟩
    have hn := hr.1
    have hmax := Kd.F_max hFm
    rw [hn] at hc0 hr hmax
    refine (entries1_in 3 (by omega) l B1 B2 w ok ad l0.length c0 m hm.1 hm.2 Am cm es hc0 hr hmax (fun pre W => ∃ ys : List { p : Nat × EE w ok // D p }, ys.map (·.1) = pre ∧ J ys W) (fun pre W => ∃ ys : List { p : Nat × EE w ok // D p }, ys.map (·.1) = pre ∧ Jx ys W) ?_
      (fun pre X Y ⟨ys, h1, h2⟩ hg => ⟨ys, h1, hJ ys X Y none h2 hg (by simp)⟩) W (hwl.trans (hW.mono hwl.size)) (hbx hW).1 (hbx hW).2 ⟨[], rfl, h0⟩).mono ?_
    · rintro pre x W1 ⟨ys, rfl, hj⟩ hpre
      have hx : D x := hD x (hpre.subset (by simp))
      have hlen := hpre.length_le
      simp only [List.length_append, List.length_map, List.length_cons, List.length_nil] at hlen
      obtain ⟨fn, tmps, assign, body, hy, hR⟩ := hY ys ⟨x, hx⟩ W1 hj (by omega)
      refine ⟨fn, tmps, assign, body, hy, hR.mono ?_⟩
      rintro e W' (⟨rfl, h1, h2⟩ | ⟨rfl, h1⟩)
      · exact .inl ⟨rfl, ⟨_, by simp, h1⟩, h2⟩
      · exact .inr ⟨rfl, _, by simp, h1⟩
    · rintro e W' ⟨he, ⟨ys, h1, h2⟩ | ⟨pre, hp, ys, rfl, h⟩⟩
      · exact ⟨he, .inl ⟨ys, h1, h2⟩⟩
      · exact ⟨he, .inr ⟨ys, hp, h⟩⟩
  · refine ⟨[], by simp [mapOf, hm], fun D hD l J Jx W hW hJ hJx hY h0 => ?_⟩
    refine (entries0_in 3 l B1 B2 A0 l0.length c0 m (by omega) (fun W => J [] W) W (hbx hW).1 (hbx hW).2 h0).mono ?_
    rintro e W' ⟨he, h⟩
    exact ⟨he, .inl ⟨[], by simp [en], h⟩⟩
end Go.Proofs.Ytnokieaebnmljaa.PAll
namespace Go.Proofs.Ytnokieaebnmljaa.PAll
open Go Go.Proofs Go.RowKit Go.Shelf Go.Proofs.YtnokieaebnmljaaW.PrintWords Go.Proofs.YtnokieaebnmljaaW.PrintLast Go.Proofs.YtnokieaebnmljaaW.PrintMore
attribute [local go_sem] Oper.semAt_some
set_option linter.unusedVariables false
set_option linter.unusedSimpArgs false
/-- Five cells of a block, stored one by one. -/
abbrev set5 (W : World) (g : Nat) (v0 v1 v2 v3 v4 : Value) : World := ((((W.setCell ⟨g, 0, none⟩ v0).setCell ⟨g, 1, none⟩ v1).setCell ⟨g, 2, none⟩ v2).setCell ⟨g, 3, none⟩ v3).setCell ⟨g, 4, none⟩ v4
theorem set5_blk {W : World} {g t : Nat} {u0 u1 u2 u3 u4 : Value} (h : W.heap[g]? = some (.cells #[u0, u1, u2, u3, u4] t (0, 0))) (v0 v1 v2 v3 v4 : Value) : (set5 W g v0 v1 v2 v3 v4).heap[g]? = some (.cells #[v0, v1, v2, v3, v4] t (0, 0)) :=
  blk_put (cs := #[v0, v1, v2, v3, u4]) (blk_put (cs := #[v0, v1, v2, u3, u4]) (blk_put (cs := #[v0, v1, u2, u3, u4]) (blk_put (cs := #[v0, u1, u2, u3, u4]) (blk_put (cs := #[u0, u1, u2, u3, u4]) h 0 _ rfl) 1 _ rfl) 2 _ rfl) 3 _ rfl) 4 _ rfl
theorem set5_far {W : World} {g k : Nat} {o : Obj} (h : W.heap[k]? = some o) (hne : k ≠ g) (v0 v1 v2 v3 v4 : Value) : (set5 W g v0 v1 v2 v3 v4).heap[k]? = some o := by
  have hs := fun (X : World) (p : Addr) (u : Value) (hp : p.block = g) => Below.heap_setCell X p u k (by rw [hp]; exact hne)
  rw [hs _ _ _ rfl, hs _ _ _ rfl, hs _ _ _ rfl, hs _ _ _ rfl, hs _ _ _ rfl]
  exact h
theorem set5_below {n : Nat} {X W : World} {g : Nat} (h : Below n X W) (hg : n ≤ g) (v0 v1 v2 v3 v4 : Value) : Below n X (set5 W g v0 v1 v2 v3 v4) :=
  ((((h.setCell (p := ⟨g, 0, none⟩) hg _).setCell (p := ⟨g, 1, none⟩) hg _).setCell (p := ⟨g, 2, none⟩) hg _).setCell (p := ⟨g, 3, none⟩) hg _).setCell (p := ⟨g, 4, none⟩) hg _
theorem set5_keeps (W : World) (g : Nat) (v0 v1 v2 v3 v4 : Value) : KeepsOthers W (set5 W g v0 v1 v2 v3 v4) :=
  ((((KeepsOthers.setCell _ _ _).trans (KeepsOthers.setCell _ _ _)).trans (KeepsOthers.setCell _ _ _)).trans (KeepsOthers.setCell _ _ _)).trans (KeepsOthers.setCell _ _ _)
def heap_First.f (l0_0 : List (List S82)) (a1 : Int) : Option (Int × Int × ByteArray × Int × List S35 × Bool) :=
  match mapOf l0_0 a1 with
  | [] => some (0, 0, ⟨#[]⟩, 0, [], false)
  | e :: _ => some (e.f0.f0, e.f0.f1, e.f0.f2, e.f0.f3, e.f0.f4, true)
set_option maxHeartbeats 8000000 in
set_option maxRecDepth 100000 in
theorem heap_First.calls (P0_0_ : Nat → Prop) (A0_0 : Option Addr) (c0_0 : Nat) (l0_0 : List (List (S82))) (a1 : Int) (r1 : Int) (r2 : Int) (r3 : ByteArray) (r4 : Int) (r5 : List (S35)) (r6 : Bool) (w : World) (hs0_0 : Kd.V (Kd.slice 82 k82) 41 w w.heap.size (fun k_ => P0_0_ k_) (.slice A0_0 l0_0.length c0_0) l0_0) (h : heap_First.f l0_0 a1 = some (r1, r2, r3, r4, r5, r6)) :
    Calls Try.prog 13 #[.agg #[.slice A0_0 l0_0.length c0_0], .int .i64 a1] w fun e w' => ∃ v4_ : Value, e = .returned (.tuple #[.agg #[.int .i64 r1, .int .i64 r2, .string r3, .int .i64 r4, v4_], .bool r6]) ∧ Kd.V k35 35 w' w.heap.size (fun k_ => (P0_0_ k_ ∨ w.heap.size ≤ k_)) v4_ r5 ∧ Below w.heap.size w w' := by
  have hu27 := Try.underlying27
  have hu35 := Try.underlying35
  have hu82 := Try.underlying82
  have HF := Aside0.mk (Kd.V_F hs0_0)
  have HH := Aside0.mk h
  clear hs0_0 h
  refine (callsIn_wide (n := 5)).1 ?_
  refine callsIn_of_wp_marks Try.func13 rfl trivial ?_ rfl
  simp only [Try.ntmps13, List.size_toArray, List.length_cons, List.length_nil, Nat.reduceAdd, Nat.reduceSub, Array.replicate_succ, Array.replicate_zero, List.push_toArray, List.append_toArray, List.nil_append, List.cons_append]
  refine wpIn_wide.2 ?_
  refine wp_mono ?_ retOnly_imp
  go_wp2
  obtain ⟨wl, hwl⟩ : ∃ wl, wl = ((((w.alloc (Obj.cells #[.slice A0_0 l0_0.length c0_0] 27)).alloc (Obj.cells #[.int .i64 0, .int .i64 0, .string (⟨#[]⟩ : ByteArray), .int .i64 0, .slice none 0 0] 35)).alloc (Obj.cells #[.bool false] 4)).alloc (Obj.cells #[.slice A0_0 l0_0.length c0_0] 27)).alloc (Obj.cells #[.int .i64 a1] 3) := ⟨_, rfl⟩
  rw [← hwl]
  have hsz : wl.heap.size = w.heap.size + 5 := by rw [hwl]; simp
  have hB0 : Below w.heap.size w wl := by
    rw [hwl]
    exact (((((Below.refl _ w).alloc (Nat.le_refl _) _).alloc (by simp) _).alloc (by simp; omega) _).alloc (by simp; omega) _).alloc (by simp; omega) _
  have R4 : wl.heap[w.heap.size + 1]? = some (.cells #[.int .i64 0, .int .i64 0, .string (⟨#[]⟩ : ByteArray), .int .i64 0, .slice none 0 0] 35 (0, 0)) := by
    rw [hwl]
    exact blk_alloc (blk_alloc (blk_alloc (by have h_ := World.alloc_heap_new (w.alloc (Obj.cells #[.slice A0_0 l0_0.length c0_0] 27)) (Obj.cells #[.int .i64 0, .int .i64 0, .string (⟨#[]⟩ : ByteArray), .int .i64 0, .slice none 0 0] 35); rwa [World.size_alloc] at h_) _) _) _
  have R5 : wl.heap[w.heap.size + 1 + 1]? = some (.cells #[.bool false] 4 (0, 0)) := by
    rw [hwl]
    exact blk_alloc (blk_alloc (by have h_ := World.alloc_heap_new ((w.alloc (Obj.cells #[.slice A0_0 l0_0.length c0_0] 27)).alloc (Obj.cells #[.int .i64 0, .int .i64 0, .string (⟨#[]⟩ : ByteArray), .int .i64 0, .slice none 0 0] 35)) (Obj.cells #[.bool false] 4); rwa [World.size_alloc, World.size_alloc] at h_) _) _
  have hbS : wl.cell? ⟨w.heap.size + 1 + 1 + 1, 0, none⟩ = some (.slice A0_0 l0_0.length c0_0) := by
    have h_ := ((Boxed.new (((w.alloc (Obj.cells #[.slice A0_0 l0_0.length c0_0] 27)).alloc (Obj.cells #[.int .i64 0, .int .i64 0, .string (⟨#[]⟩ : ByteArray), .int .i64 0, .slice none 0 0] 35)).alloc (Obj.cells #[.bool false] 4)) 27 (.slice A0_0 l0_0.length c0_0)).alloc (Obj.cells #[.int .i64 a1] 3)).cell
    rw [World.size_alloc, World.size_alloc, World.size_alloc] at h_
    rw [hwl]
    exact h_
  have hbM : wl.cell? ⟨w.heap.size + 1 + 1 + 1 + 1, 0, none⟩ = some (.int .i64 a1) := by
    have h_ := (Boxed.new ((((w.alloc (Obj.cells #[.slice A0_0 l0_0.length c0_0] 27)).alloc (Obj.cells #[.int .i64 0, .int .i64 0, .string (⟨#[]⟩ : ByteArray), .int .i64 0, .slice none 0 0] 35)).alloc (Obj.cells #[.bool false] 4)).alloc (Obj.cells #[.slice A0_0 l0_0.length c0_0] 27)) 3 (.int .i64 a1)).cell
    rw [World.size_alloc, World.size_alloc, World.size_alloc, World.size_alloc] at h_
    rw [hwl]
    exact h_
  clear hwl
  obtain ⟨es, hes, hst⟩ := entries_stops w wl hB0 P0_0_ (w.heap.size + 1 + 1 + 1 + 1) (w.heap.size + 1 + 1 + 1) A0_0 c0_0 l0_0 a1 HF.out (by omega) (by omega) hbM hbS
  have HP := hst (fun _ => True) (fun _ _ => trivial)
  have HES := Aside0.mk hes
  have HB0 := Aside0.mk hB0
  have HSZ := Aside0.mk hsz
  clear hst hbS hbM hes hB0 hsz
  refine (wpIn_wide (n := 4)).1 ?_
  refine wpIn_rangeFunc_ownH (n := 4) rfl (by omega) (gf := 59) (lb := #[.pointer (some ⟨w.heap.size + 1 + 1 + 1 + 1, 0, none⟩), .pointer (some ⟨w.heap.size + 1 + 1 + 1, 0, none⟩)]) rfl trivial (enters_of Try.func59 (by kernel_rfl) rfl)
    HP belowK_t (belowK_b HB0.out.size) (Below.refl _ _) (fun _ => rfl)
    (fun pre W => pre = [] ∧ Aside0 (W.heap[w.heap.size + 1]? = some (.cells #[.int .i64 0, .int .i64 0, .string (⟨#[]⟩ : ByteArray), .int .i64 0, .slice none 0 0] 35 (0, 0))) ∧ Aside0 (W.heap[w.heap.size + 1 + 1]? = some (.cells #[.bool false] 4 (0, 0))) ∧ Aside0 (Below w.heap.size w W))
    (fun c pre W => c = .ret ∧ ∃ x, pre = [x] ∧ Aside0 (W.heap[w.heap.size + 1]? = some (.cells #[.int .i64 x.1.2.x.f0.f0, .int .i64 x.1.2.x.f0.f1, .string x.1.2.x.f0.f2, .int .i64 x.1.2.x.f0.f3, .slice x.1.2.A4 x.1.2.x.f0.f4.length x.1.2.c4] 35 (0, 0))) ∧ Aside0 (W.heap[w.heap.size + 1 + 1]? = some (.cells #[.bool true] 4 (0, 0))) ∧ Aside0 (Below w.heap.size w W))
    ?hI ?hIx ⟨rfl, ⟨R4⟩, ⟨R5⟩, HB0⟩
    (fun x a' W => ∃ Bx, Aside0 (w.heap.size + 1 + 1 < Bx) ∧ Aside0 (W.heap[Bx]? = some (.cells #[.int .i64 x.1.2.x.f0.f0, .int .i64 x.1.2.x.f0.f1, .string x.1.2.x.f0.f2, .int .i64 x.1.2.x.f0.f3, .slice x.1.2.A4 x.1.2.x.f0.f4.length x.1.2.c4, .int .i64 x.1.2.x.f1.f0, .int .i64 x.1.2.x.f1.f1, .string x.1.2.x.f1.f2, .int .i64 x.1.2.x.f1.f3, .slice x.1.2.A9 x.1.2.x.f1.f4.length x.1.2.c9] 82 (0, 0))) ∧ a' = { tmps := #[.agg #[.slice A0_0 l0_0.length c0_0], .int .i64 a1, .pointer (some ⟨w.heap.size, 0, none⟩), undef, .pointer (some ⟨w.heap.size + 1, 0, none⟩), .pointer (some ⟨w.heap.size + 1 + 1, 0, none⟩), undef, .pointer (some ⟨Bx, 0, none⟩), .agg #[.slice A0_0 l0_0.length c0_0], .int .i64 a1, .func (.func 59) #[] #[.pointer (some ⟨w.heap.size + 1 + 1 + 1 + 1, 0, none⟩), .pointer (some ⟨w.heap.size + 1 + 1 + 1, 0, none⟩)], .int .i64 (x.1.1 : Int), x.1.2.v, undef, undef, undef], defers := [] })
    ?hAx ?assign ?body ?done ?stop
  case hI => exact fun s X Y row hs hg hr => ⟨hs.1, blk_from hs.2.1 hg hr, blk_from hs.2.2.1 hg hr, below_from hs.2.2.2 (Nat.le_refl _) HB0.out.size hg hr⟩
  case hIx =>
    rintro c s X Y row ⟨hc, x, hx, h4, h5, hw⟩ hg hr
    exact ⟨hc, x, hx, blk_from h4 hg hr, blk_from h5 hg hr, below_from hw (Nat.le_refl _) HB0.out.size hg hr⟩
  case hAx =>
    rintro x a' s X Y row ⟨Bx, gx, bx, ha⟩ hg hr
    exact ⟨Bx, gx, blk_from bx hg hr, ha⟩
  case assign =>
    rintro l pre x W K ⟨h0, h4, h5, hB⟩ hK
    simp only [EE.v]
    gi_wp2
    have hlt := (Array.getElem?_eq_some_iff.1 h5.out).1
    exact hK _ _ ((KeepsOthers.alloc _ _).from _) ((Below.refl _ W).alloc hB.out.size _) ⟨h0, ⟨blk_alloc h4.out _⟩, ⟨blk_alloc h5.out _⟩, ⟨hB.out.alloc hB.out.size _⟩⟩ ⟨W.heap.size, ⟨hlt⟩, ⟨World.alloc_heap_new W _⟩, rfl⟩
  case body =>
    rintro l pre ⟨⟨ix, e⟩, hD⟩ a' W hl hrec ⟨h0, h4, h5, hB⟩ ⟨Bx, gx, bx, rfl⟩ hlt
    subst h0
    clear hlt
    have hx0 : W.cell? ⟨Bx, 0, none⟩ = some (.int .i64 e.x.f0.f0) := (blk_cell bx.out 0).trans rfl
    have hx1 : W.cell? ⟨Bx, 1, none⟩ = some (.int .i64 e.x.f0.f1) := (blk_cell bx.out 1).trans rfl
    have hx2 : W.cell? ⟨Bx, 2, none⟩ = some (.string e.x.f0.f2) := (blk_cell bx.out 2).trans rfl
    have hx3 : W.cell? ⟨Bx, 3, none⟩ = some (.int .i64 e.x.f0.f3) := (blk_cell bx.out 3).trans rfl
    have hx4 : W.cell? ⟨Bx, 4, none⟩ = some (.slice e.A4 e.x.f0.f4.length e.c4) := (blk_cell bx.out 4).trans rfl
    have hr0 : W.cell? ⟨w.heap.size + 1, 0, none⟩ = some (.int .i64 0) := (blk_cell h4.out 0).trans rfl
    have hr1 : W.cell? ⟨w.heap.size + 1, 1, none⟩ = some (.int .i64 0) := (blk_cell h4.out 1).trans rfl
    have hr2 : W.cell? ⟨w.heap.size + 1, 2, none⟩ = some (.string (⟨#[]⟩ : ByteArray)) := (blk_cell h4.out 2).trans rfl
    have hr3 : W.cell? ⟨w.heap.size + 1, 3, none⟩ = some (.int .i64 0) := (blk_cell h4.out 3).trans rfl
    have hr4 : W.cell? ⟨w.heap.size + 1, 4, none⟩ = some (.slice none 0 0) := (blk_cell h4.out 4).trans rfl
    have hq0 : W.cell? ⟨w.heap.size + 1 + 1, 0, none⟩ = some (.bool false) := (blk_cell h5.out 0).trans rfl
    have hs0 := blk_frozen h4.out 0
    have hs1 := blk_frozen h4.out 1
    have hs2 := blk_frozen h4.out 2
    have hs3 := blk_frozen h4.out 3
    have hs4 := blk_frozen h4.out 4
    have ht0 := blk_frozen h5.out 0
    gi_wp2
    have hne : w.heap.size + 1 ≠ w.heap.size + 1 + 1 := by omega
    refine ⟨((set5_keeps W _ _ _ _ _ _).trans (KeepsOthers.setCell _ _ _)).from _, rfl, ix, e, rfl, ⟨?_⟩, ⟨?_⟩, ⟨?_⟩⟩
    · exact (Below.heap_setCell _ _ _ _ hne).trans (set5_blk h4.out _ _ _ _ _)
    · exact Boxed.set (.bool true) (show Boxed (set5 W (w.heap.size + 1) _ _ _ _ _) (w.heap.size + 1 + 1) 4 (.bool false) from set5_far h5.out (Ne.symm hne) _ _ _ _ _)
    · exact (set5_below hB.out (by omega) _ _ _ _ _).setCell (p := ⟨w.heap.size + 1 + 1, 0, none⟩) (by simp; omega) _
  case done =>
    rintro D ys W hD hys ⟨h0, h4, h5, hB⟩ hK
    have hr0 : W.cell? ⟨w.heap.size + 1, 0, none⟩ = some (.int .i64 0) := (blk_cell h4.out 0).trans rfl
    have hr1 : W.cell? ⟨w.heap.size + 1, 1, none⟩ = some (.int .i64 0) := (blk_cell h4.out 1).trans rfl
    have hr2 : W.cell? ⟨w.heap.size + 1, 2, none⟩ = some (.string (⟨#[]⟩ : ByteArray)) := (blk_cell h4.out 2).trans rfl
    have hr3 : W.cell? ⟨w.heap.size + 1, 3, none⟩ = some (.int .i64 0) := (blk_cell h4.out 3).trans rfl
    have hr4 : W.cell? ⟨w.heap.size + 1, 4, none⟩ = some (.slice none 0 0) := (blk_cell h4.out 4).trans rfl
    have hq0 : W.cell? ⟨w.heap.size + 1 + 1, 0, none⟩ = some (.bool false) := (blk_cell h5.out 0).trans rfl
    have hs0 := blk_frozen h4.out 0
    have hs1 := blk_frozen h4.out 1
    have hs2 := blk_frozen h4.out 2
    have hs3 := blk_frozen h4.out 3
    have hs4 := blk_frozen h4.out 4
    have ht0 := blk_frozen h5.out 0
    have HK := Aside0.mk hK
    have HD := Aside0.mk hD
    have HYS := Aside0.mk hys
    clear hK hD hys
    go_wp2
    have hne : w.heap.size + 1 ≠ w.heap.size + 1 + 1 := by omega
    have hz : mapOf l0_0 a1 = [] := by
      rw [← HES.out]
      have hl := congrArg List.length HYS.out
      rw [h0, en_length] at hl
      rw [List.length_eq_zero_iff.mp hl.symm]
      rfl
    have hf := HH.out
    simp only [heap_First.f, hz, Option.some.injEq, Prod.mk.injEq] at hf
    obtain ⟨rfl, rfl, rfl, rfl, rfl, rfl⟩ := hf
    have hK' := ((set5_keeps W (w.heap.size + 1) (.int .i64 0) (.int .i64 0) (.string (⟨#[]⟩ : ByteArray)) (.int .i64 0) (.slice none 0 0)).trans (KeepsOthers.setCell _ ⟨w.heap.size + 1 + 1, 0, none⟩ (.bool false))).same D _ HK.out rfl
    have r4 := (Below.heap_setCell _ ⟨w.heap.size + 1 + 1, 0, none⟩ (.bool false) _ hne).trans (set5_blk h4.out (.int .i64 0) (.int .i64 0) (.string (⟨#[]⟩ : ByteArray)) (.int .i64 0) (.slice none 0 0))
    have r5 := Boxed.set (.bool false) (show Boxed (set5 W (w.heap.size + 1) (.int .i64 0) (.int .i64 0) (.string (⟨#[]⟩ : ByteArray)) (.int .i64 0) (.slice none 0 0)) (w.heap.size + 1 + 1) 4 (.bool false) from set5_far h5.out (Ne.symm hne) _ _ _ _ _)
    have q4 := (blk_from (B := 0) ⟨r4⟩ (grownBy_putObj' _ D (.deferred none)) (fun r e => by cases e; exact ⟨Nat.zero_le _, _, hK', rfl⟩)).out
    have q5 := (blk_from (B := 0) ⟨r5⟩ (grownBy_putObj' _ D (.deferred none)) (fun r e => by cases e; exact ⟨Nat.zero_le _, _, hK', rfl⟩)).out
    show LeavesInM Fence.wide 5 Try.prog Try.f13 _ _ _ .returning _
    refine ⟨by simp, .inl ⟨_, _, rfl, run_takeDeferred hK', ?_⟩⟩
    refine ⟨.tuple #[.agg #[.int .i64 0, .int .i64 0, .string (⟨#[]⟩ : ByteArray), .int .i64 0, .slice none 0 0], .bool false], ?_, _, rfl, Kd.V_nil _ _ _ _ _, ((set5_below hB.out (by omega) _ _ _ _ _).setCell (p := ⟨w.heap.size + 1 + 1, 0, none⟩) (by simp; omega) _).trans (belowK_b (w := w) (Nat.le_refl _) _ D _ _ (Nat.le_trans HB0.out.size HD.out) hK' rfl rfl)⟩
    have c0 := (blk_cell q4 0).trans rfl
    have c1 := (blk_cell q4 1).trans rfl
    have c2 := (blk_cell q4 2).trans rfl
    have c3 := (blk_cell q4 3).trans rfl
    have c4 := (blk_cell q4 4).trans rfl
    have c5 := (blk_cell q5 0).trans rfl
    simp [results, Try.f13, go_sem, c0, c1, c2, c3, c4, c5]
  case stop =>
    rintro D c pre W hD hpre ⟨rfl, x, rfl, h4, h5, hB⟩ hK
    obtain ⟨⟨ix, e⟩, hDx⟩ := x
    refine wpIn_wide.2 ?_
    have hz : ∃ es', mapOf l0_0 a1 = e.x :: es' := by
      rw [← HES.out]
      cases es with
      | nil => have := hpre.length_le; simp [en] at this
      | cons e0 es0 =>
        have hh := hpre
        rw [show en (e0 :: es0) = (0, e0) :: (List.range' 1 es0.length).zip es0 from by simp [en, List.range_eq_range', List.range'_succ]] at hh
        simp at hh
        exact ⟨es0.map (·.x), by simp [hh.2]⟩
    obtain ⟨es', hz⟩ := hz
    have hf := HH.out
    simp only [heap_First.f, hz, Option.some.injEq, Prod.mk.injEq] at hf
    obtain ⟨rfl, rfl, rfl, rfl, rfl, rfl⟩ := hf
    have HK := Aside0.mk hK
    clear hK hz hpre
    go_wp2
    have hK := HK.out
    have q4 := (blk_from (B := 0) h4 (grownBy_putObj' _ D (.deferred none)) (fun r e => by cases e; exact ⟨Nat.zero_le _, _, hK, rfl⟩)).out
    have q5 := (blk_from (B := 0) h5 (grownBy_putObj' _ D (.deferred none)) (fun r e => by cases e; exact ⟨Nat.zero_le _, _, hK, rfl⟩)).out
    have hBe := hB.out.trans (belowK_b (w := w) (Nat.le_refl _) W D (.deferred (some [])) (.deferred none) (Nat.le_trans HB0.out.size hD) hK rfl rfl)
    show LeavesInM Fence.wide 5 Try.prog Try.f13 _ _ _ .returning _
    refine ⟨by simp, .inl ⟨_, _, rfl, run_takeDeferred hK, ?_⟩⟩
    refine ⟨.tuple #[.agg #[.int .i64 e.x.f0.f0, .int .i64 e.x.f0.f1, .string e.x.f0.f2, .int .i64 e.x.f0.f3, .slice e.A4 e.x.f0.f4.length e.c4], .bool true], ?_, _, rfl, Kd.V_mk e.le4 (Kd.F_mono (Kd.F_below e.rd4 hBe) (fun k hk => .inl hk)), hBe⟩
    have c0 := (blk_cell q4 0).trans rfl
    have c1 := (blk_cell q4 1).trans rfl
    have c2 := (blk_cell q4 2).trans rfl
    have c3 := (blk_cell q4 3).trans rfl
    have c4 := (blk_cell q4 4).trans rfl
    have c5 := (blk_cell q5 0).trans rfl
    simp [results, Try.f13, go_sem, c0, c1, c2, c3, c4, c5]
end Go.Proofs.Ytnokieaebnmljaa.PAll
namespace Go.Proofs.Ytnokieaebnmljaa.PAll
open Go Go.Proofs Go.RowKit Go.Shelf Go.Proofs.YtnokieaebnmljaaW.PrintWords Go.Proofs.YtnokieaebnmljaaW.PrintLast Go.Proofs.YtnokieaebnmljaaW.PrintMore
attribute [local go_sem] Oper.semAt_some
set_option linter.unusedVariables false
set_option linter.unusedSimpArgs false
/-- How an entry's key stands to a key, in k rounds. -/
def ckey (k : Nat) (a2_0 a2_1 : Int) (a2_2 : ByteArray) (a2_3 : Int) (l2_4 : List S35) (e : S82) : Option Int := value_Compare.f k e.f0.f0 e.f0.f1 e.f0.f2 e.f0.f3 e.f0.f4 a2_0 a2_1 a2_2 a2_3 l2_4
theorem ckey_mono (k : Nat) (a2_0 a2_1 : Int) (a2_2 : ByteArray) (a2_3 : Int) (l2_4 : List S35) (e : S82) : LeO (ckey k a2_0 a2_1 a2_2 a2_3 l2_4 e) (ckey (k + 1) a2_0 a2_1 a2_2 a2_3 l2_4 e) := value_Compare.mono _ _ _ _ _ _ _ _ _ _ _
def cval (k : Nat) (a2_0 a2_1 : Int) (a2_2 : ByteArray) (a2_3 : Int) (l2_4 : List S35) (e : S82) : Int := (ckey k a2_0 a2_1 a2_2 a2_3 l2_4 e).getD 0
/-- Every entry's key has been compared. -/
def call (k : Nat) (a2_0 a2_1 : Int) (a2_2 : ByteArray) (a2_3 : Int) (l2_4 : List S35) (l : List S82) : Prop := ∀ e ∈ l, ∃ c, ckey k a2_0 a2_1 a2_2 a2_3 l2_4 e = some c
theorem call_mono {k : Nat} {a2_0 a2_1 : Int} {a2_2 : ByteArray} {a2_3 : Int} {l2_4 : List S35} {l : List S82} (h : call k a2_0 a2_1 a2_2 a2_3 l2_4 l) : call (k + 1) a2_0 a2_1 a2_2 a2_3 l2_4 l ∧ ∀ e ∈ l, cval (k + 1) a2_0 a2_1 a2_2 a2_3 l2_4 e = cval k a2_0 a2_1 a2_2 a2_3 l2_4 e := by
  refine ⟨fun e he => ?_, fun e he => ?_⟩
  · obtain ⟨c, hc⟩ := h e he
    exact ⟨c, ckey_mono _ _ _ _ _ _ _ _ hc⟩
  · obtain ⟨c, hc⟩ := h e he
    simp [cval, hc, ckey_mono _ _ _ _ _ _ _ _ hc]
def nextOf (c : S82 → Int) : List S82 → Int × Int × ByteArray × Int × List S35 × Bool
  | [] => (0, 0, ⟨#[]⟩, 0, [], false)
  | e :: es => if 0 < c e then (e.f0.f0, e.f0.f1, e.f0.f2, e.f0.f3, e.f0.f4, true) else nextOf c es
theorem nextOf_congr {c c' : S82 → Int} : ∀ l : List S82, (∀ e ∈ l, c e = c' e) → nextOf c l = nextOf c' l
  | [], _ => rfl
  | e :: es, h => by simp only [nextOf]; rw [h e (by simp), nextOf_congr es (fun x hx => h x (by simp [hx]))]
theorem nextOf_none {c : S82 → Int} : ∀ l : List S82, (∀ e ∈ l, ¬ 0 < c e) → nextOf c l = (0, 0, ⟨#[]⟩, 0, [], false)
  | [], _ => rfl
  | e :: es, h => by simp only [nextOf]; rw [if_neg (h e (by simp)), nextOf_none es (fun x hx => h x (by simp [hx]))]
theorem nextOf_at {c : S82 → Int} {e : S82} {t : List S82} (he : 0 < c e) : ∀ l : List S82, (∀ x ∈ l, ¬ 0 < c x) → nextOf c (l ++ e :: t) = (e.f0.f0, e.f0.f1, e.f0.f2, e.f0.f3, e.f0.f4, true)
  | [], _ => by simp [nextOf, he]
  | x :: l, h => by simp only [List.cons_append, nextOf]; rw [if_neg (h x (by simp)), nextOf_at he l (fun y hy => h y (by simp [hy]))]
open Classical in
noncomputable def heap_Next.f (k : Nat) (l0_0 : List (List S82)) (a1 : Int) (a2_0 : Int) (a2_1 : Int) (a2_2 : ByteArray) (a2_3 : Int) (l2_4 : List S35) : Option (Int × Int × ByteArray × Int × List S35 × Bool) :=
  if call k a2_0 a2_1 a2_2 a2_3 l2_4 (mapOf l0_0 a1) then some (nextOf (cval k a2_0 a2_1 a2_2 a2_3 l2_4) (mapOf l0_0 a1)) else none
theorem heap_Next.mono : ∀ l0_0 a1 a2_0 a2_1 a2_2 a2_3 l2_4 k, LeO (heap_Next.f k l0_0 a1 a2_0 a2_1 a2_2 a2_3 l2_4) (heap_Next.f (k + 1) l0_0 a1 a2_0 a2_1 a2_2 a2_3 l2_4) := by
  intro l0_0 a1 a2_0 a2_1 a2_2 a2_3 l2_4 k r h
  unfold heap_Next.f at h ⊢
  split at h
  · rename_i hc
    have hm := call_mono hc
    rw [if_pos hm.1, nextOf_congr _ hm.2]
    exact h
  · exact absurd h (by simp)
set_option maxHeartbeats 8000000 in
set_option maxRecDepth 100000 in
theorem heap_Next.calls (k : Nat) (P0_0_ : Nat → Prop) (A0_0 : Option Addr) (c0_0 : Nat) (l0_0 : List (List (S82))) (a1 : Int) (a2_0 : Int) (a2_1 : Int) (a2_2 : ByteArray) (a2_3 : Int) (A2_4 : Option Addr) (c2_4 : Nat) (l2_4 : List (S35)) (r1 : Int) (r2 : Int) (r3 : ByteArray) (r4 : Int) (r5 : List (S35)) (r6 : Bool) (w : World) (hs0_0 : Kd.V (Kd.slice 82 k82) 41 w w.heap.size (fun k_ => P0_0_ k_) (.slice A0_0 l0_0.length c0_0) l0_0) (hr2_4 : Kd.C k35 w A2_4 l2_4.length l2_4) (hc2_4 : l2_4.length ≤ c2_4) (h : heap_Next.f k l0_0 a1 a2_0 a2_1 a2_2 a2_3 l2_4 = some (r1, r2, r3, r4, r5, r6)) :
    Calls Try.prog 15 #[.agg #[.slice A0_0 l0_0.length c0_0], .int .i64 a1, .agg #[.int .i64 a2_0, .int .i64 a2_1, .string a2_2, .int .i64 a2_3, .slice A2_4 l2_4.length c2_4]] w fun e w' => ∃ v4_ : Value, e = .returned (.tuple #[.agg #[.int .i64 r1, .int .i64 r2, .string r3, .int .i64 r4, v4_], .bool r6]) ∧ Kd.V k35 35 w' w.heap.size (fun k_ => (P0_0_ k_ ∨ w.heap.size ≤ k_)) v4_ r5 ∧ Below w.heap.size w w' := by
  have hu27 := Try.underlying27
  have hu35 := Try.underlying35
  have hu82 := Try.underlying82
  have HF := Aside0.mk (Kd.V_F hs0_0)
  have HR := Aside0.mk hr2_4
  have HC := Aside0.mk hc2_4
  obtain ⟨hall, hr⟩ : call k a2_0 a2_1 a2_2 a2_3 l2_4 (mapOf l0_0 a1) ∧ nextOf (cval k a2_0 a2_1 a2_2 a2_3 l2_4) (mapOf l0_0 a1) = (r1, r2, r3, r4, r5, r6) := by
    unfold heap_Next.f at h
    split at h
    · rename_i hc
      exact ⟨hc, Option.some.inj h⟩
    · exact absurd h (by simp)
  have HH := Aside0.mk hr
  have HA := Aside0.mk hall
  clear hs0_0 h hr hr2_4 hc2_4 hall
  refine (callsIn_wide (n := 5)).1 ?_
  refine callsIn_of_wp_marks Try.func15 rfl trivial ?_ rfl
  simp only [Try.ntmps15, List.size_toArray, List.length_cons, List.length_nil, Nat.reduceAdd, Nat.reduceSub, Array.replicate_succ, Array.replicate_zero, List.push_toArray, List.append_toArray, List.nil_append, List.cons_append]
  refine wpIn_wide.2 ?_
  refine wp_mono ?_ retOnly_imp
  go_wp2
  obtain ⟨wl, hwl⟩ : ∃ wl, wl = ((((((w.alloc (Obj.cells #[.slice A0_0 l0_0.length c0_0] 27)).alloc (Obj.cells #[.int .i64 a2_0, .int .i64 a2_1, .string a2_2, .int .i64 a2_3, .slice A2_4 l2_4.length c2_4] 35)).alloc (Obj.cells #[.int .i64 0, .int .i64 0, .string (⟨#[]⟩ : ByteArray), .int .i64 0, .slice none 0 0] 35)).alloc (Obj.cells #[.bool false] 4)).alloc (Obj.cells #[.slice A0_0 l0_0.length c0_0] 27)).alloc (Obj.cells #[.int .i64 a1] 3)) := ⟨_, rfl⟩
  rw [← hwl]
  have hsz : wl.heap.size = w.heap.size + 6 := by rw [hwl]; simp
  have hB0 : Below w.heap.size w wl := by
    rw [hwl]
    exact (((((((Below.refl _ w).alloc (Nat.le_refl _) _).alloc (by simp) _).alloc (by simp; omega) _).alloc (by simp; omega) _).alloc (by simp; omega) _).alloc (by simp; omega) _)
  have R1 : wl.heap[w.heap.size + 1]? = some (.cells #[.int .i64 a2_0, .int .i64 a2_1, .string a2_2, .int .i64 a2_3, .slice A2_4 l2_4.length c2_4] 35 (0, 0)) := by rw [hwl]; exact (blk_alloc (blk_alloc (blk_alloc (blk_alloc (by have h_ := World.alloc_heap_new (w.alloc (Obj.cells #[.slice A0_0 l0_0.length c0_0] 27)) (Obj.cells #[.int .i64 a2_0, .int .i64 a2_1, .string a2_2, .int .i64 a2_3, .slice A2_4 l2_4.length c2_4] 35); rwa [World.size_alloc] at h_) _) _) _) _)
  have R4 : wl.heap[w.heap.size + 1 + 1]? = some (.cells #[.int .i64 0, .int .i64 0, .string (⟨#[]⟩ : ByteArray), .int .i64 0, .slice none 0 0] 35 (0, 0)) := by rw [hwl]; exact (blk_alloc (blk_alloc (blk_alloc (by have h_ := World.alloc_heap_new ((w.alloc (Obj.cells #[.slice A0_0 l0_0.length c0_0] 27)).alloc (Obj.cells #[.int .i64 a2_0, .int .i64 a2_1, .string a2_2, .int .i64 a2_3, .slice A2_4 l2_4.length c2_4] 35)) (Obj.cells #[.int .i64 0, .int .i64 0, .string (⟨#[]⟩ : ByteArray), .int .i64 0, .slice none 0 0] 35); rwa [World.size_alloc, World.size_alloc] at h_) _) _) _)
  have R5 : wl.heap[w.heap.size + 1 + 1 + 1]? = some (.cells #[.bool false] 4 (0, 0)) := by rw [hwl]; exact (blk_alloc (blk_alloc (by have h_ := World.alloc_heap_new (((w.alloc (Obj.cells #[.slice A0_0 l0_0.length c0_0] 27)).alloc (Obj.cells #[.int .i64 a2_0, .int .i64 a2_1, .string a2_2, .int .i64 a2_3, .slice A2_4 l2_4.length c2_4] 35)).alloc (Obj.cells #[.int .i64 0, .int .i64 0, .string (⟨#[]⟩ : ByteArray), .int .i64 0, .slice none 0 0] 35)) (Obj.cells #[.bool false] 4); rwa [World.size_alloc, World.size_alloc, World.size_alloc] at h_) _) _)
  have RS : wl.heap[w.heap.size + 1 + 1 + 1 + 1]? = some (.cells #[.slice A0_0 l0_0.length c0_0] 27 (0, 0)) := by rw [hwl]; exact (blk_alloc (by have h_ := World.alloc_heap_new ((((w.alloc (Obj.cells #[.slice A0_0 l0_0.length c0_0] 27)).alloc (Obj.cells #[.int .i64 a2_0, .int .i64 a2_1, .string a2_2, .int .i64 a2_3, .slice A2_4 l2_4.length c2_4] 35)).alloc (Obj.cells #[.int .i64 0, .int .i64 0, .string (⟨#[]⟩ : ByteArray), .int .i64 0, .slice none 0 0] 35)).alloc (Obj.cells #[.bool false] 4)) (Obj.cells #[.slice A0_0 l0_0.length c0_0] 27); rwa [World.size_alloc, World.size_alloc, World.size_alloc, World.size_alloc] at h_) _)
  have RM : wl.heap[w.heap.size + 1 + 1 + 1 + 1 + 1]? = some (.cells #[.int .i64 a1] 3 (0, 0)) := by rw [hwl]; exact (by have h_ := World.alloc_heap_new (((((w.alloc (Obj.cells #[.slice A0_0 l0_0.length c0_0] 27)).alloc (Obj.cells #[.int .i64 a2_0, .int .i64 a2_1, .string a2_2, .int .i64 a2_3, .slice A2_4 l2_4.length c2_4] 35)).alloc (Obj.cells #[.int .i64 0, .int .i64 0, .string (⟨#[]⟩ : ByteArray), .int .i64 0, .slice none 0 0] 35)).alloc (Obj.cells #[.bool false] 4)).alloc (Obj.cells #[.slice A0_0 l0_0.length c0_0] 27)) (Obj.cells #[.int .i64 a1] 3); rwa [World.size_alloc, World.size_alloc, World.size_alloc, World.size_alloc, World.size_alloc] at h_)
  have hbS : wl.cell? ⟨w.heap.size + 1 + 1 + 1 + 1, 0, none⟩ = some (.slice A0_0 l0_0.length c0_0) := (blk_cell RS 0).trans rfl
  have hbM : wl.cell? ⟨w.heap.size + 1 + 1 + 1 + 1 + 1, 0, none⟩ = some (.int .i64 a1) := (blk_cell RM 0).trans rfl
  clear hwl RS RM
  obtain ⟨es, hes, hst⟩ := entries_stops w wl hB0 P0_0_ (w.heap.size + 1 + 1 + 1 + 1 + 1) (w.heap.size + 1 + 1 + 1 + 1) A0_0 c0_0 l0_0 a1 HF.out (by omega) (by omega) hbM hbS
  have hdef : ∀ p ∈ en es, ∃ c, ckey k a2_0 a2_1 a2_2 a2_3 l2_4 p.2.x = some c := by
    intro p hp
    refine HA.out p.2.x ?_
    rw [← hes]
    exact List.mem_map.2 ⟨p.2, (List.of_mem_zip hp).2, rfl⟩
  have HP := hst (fun p => ∃ c, ckey k a2_0 a2_1 a2_2 a2_3 l2_4 p.2.x = some c) hdef
  have HES := Aside0.mk hes
  have HB0 := Aside0.mk hB0
  have HSZ := Aside0.mk hsz
  clear hst hbS hbM hes hB0 hsz hdef
  obtain ⟨I, hI⟩ : ∃ I : List { p : Nat × EE w P0_0_ // ∃ c, ckey k a2_0 a2_1 a2_2 a2_3 l2_4 p.2.x = some c } → World → Prop, I = (fun pre W => Aside0 (∀ p ∈ pre, cval k a2_0 a2_1 a2_2 a2_3 l2_4 p.1.2.x ≤ 0) ∧ Aside0 (W.heap[w.heap.size + 1]? = some (.cells #[.int .i64 a2_0, .int .i64 a2_1, .string a2_2, .int .i64 a2_3, .slice A2_4 l2_4.length c2_4] 35 (0, 0))) ∧ Aside0 (W.heap[w.heap.size + 1 + 1]? = some (.cells #[.int .i64 0, .int .i64 0, .string (⟨#[]⟩ : ByteArray), .int .i64 0, .slice none 0 0] 35 (0, 0))) ∧ Aside0 (W.heap[w.heap.size + 1 + 1 + 1]? = some (.cells #[.bool false] 4 (0, 0))) ∧ Aside0 (Below w.heap.size w W)) := ⟨_, rfl⟩
  obtain ⟨Ix, hIx⟩ : ∃ Ix : Code → List { p : Nat × EE w P0_0_ // ∃ c, ckey k a2_0 a2_1 a2_2 a2_3 l2_4 p.2.x = some c } → World → Prop, Ix = (fun c pre W => c = .ret ∧ ∃ init x, pre = init ++ [x] ∧ Aside0 ((∀ p ∈ init, cval k a2_0 a2_1 a2_2 a2_3 l2_4 p.1.2.x ≤ 0) ∧ 0 < cval k a2_0 a2_1 a2_2 a2_3 l2_4 x.1.2.x) ∧ Aside0 (W.heap[w.heap.size + 1 + 1]? = some (.cells #[.int .i64 x.1.2.x.f0.f0, .int .i64 x.1.2.x.f0.f1, .string x.1.2.x.f0.f2, .int .i64 x.1.2.x.f0.f3, .slice x.1.2.A4 x.1.2.x.f0.f4.length x.1.2.c4] 35 (0, 0))) ∧ Aside0 (W.heap[w.heap.size + 1 + 1 + 1]? = some (.cells #[.bool true] 4 (0, 0))) ∧ Aside0 (Below w.heap.size w W)) := ⟨_, rfl⟩
  have HI := Aside0.mk (fun pre W => Iff.of_eq (congrFun (congrFun hI pre) W))
  have HIx := Aside0.mk (fun c pre W => Iff.of_eq (congrFun (congrFun (congrFun hIx c) pre) W))
  clear hI hIx
  refine (wpIn_wide (n := 4)).1 ?_
  refine wpIn_rangeFunc_ownH (n := 4) rfl (by omega) (gf := 59) (lb := #[.pointer (some ⟨w.heap.size + 1 + 1 + 1 + 1 + 1, 0, none⟩), .pointer (some ⟨w.heap.size + 1 + 1 + 1 + 1, 0, none⟩)]) rfl trivial (enters_of Try.func59 (by kernel_rfl) rfl)
    HP belowK_t (belowK_b HB0.out.size) (Below.refl _ _) (fun _ => rfl)
    I Ix
    ?hI ?hIx ((HI.out _ _).2 ⟨⟨by simp⟩, ⟨R1⟩, ⟨R4⟩, ⟨R5⟩, HB0⟩)
    (fun x a' W => ∃ Bx, Aside0 (w.heap.size + 1 + 1 + 1 < Bx) ∧ Aside0 (W.heap[Bx]? = some (.cells #[.int .i64 x.1.2.x.f0.f0, .int .i64 x.1.2.x.f0.f1, .string x.1.2.x.f0.f2, .int .i64 x.1.2.x.f0.f3, .slice x.1.2.A4 x.1.2.x.f0.f4.length x.1.2.c4, .int .i64 x.1.2.x.f1.f0, .int .i64 x.1.2.x.f1.f1, .string x.1.2.x.f1.f2, .int .i64 x.1.2.x.f1.f3, .slice x.1.2.A9 x.1.2.x.f1.f4.length x.1.2.c9] 82 (0, 0))) ∧ a' = { tmps := #[.agg #[.slice A0_0 l0_0.length c0_0], .int .i64 a1, .agg #[.int .i64 a2_0, .int .i64 a2_1, .string a2_2, .int .i64 a2_3, .slice A2_4 l2_4.length c2_4], .pointer (some ⟨w.heap.size, 0, none⟩), undef, .pointer (some ⟨w.heap.size + 1, 0, none⟩), .pointer (some ⟨w.heap.size + 1 + 1, 0, none⟩), .pointer (some ⟨w.heap.size + 1 + 1 + 1, 0, none⟩), undef, .pointer (some ⟨Bx, 0, none⟩), .agg #[.slice A0_0 l0_0.length c0_0], .int .i64 a1, .func (.func 59) #[] #[.pointer (some ⟨w.heap.size + 1 + 1 + 1 + 1 + 1, 0, none⟩), .pointer (some ⟨w.heap.size + 1 + 1 + 1 + 1, 0, none⟩)], .int .i64 (x.1.1 : Int), x.1.2.v, undef, undef, undef, undef, undef, undef, undef, undef], defers := [] })
    ?hAx ?assign ?body ?done ?stop
  case hI =>
    intro s X Y row hs_ hg hr
    have hs := (HI.out _ _).1 hs_
    exact (HI.out _ _).2 ⟨hs.1, blk_from hs.2.1 hg hr, blk_from hs.2.2.1 hg hr, blk_from hs.2.2.2.1 hg hr, below_from hs.2.2.2.2 (Nat.le_refl _) HB0.out.size hg hr⟩
  case hIx =>
    intro c s X Y row hs_ hg hr
    obtain ⟨hc, init, x, hx, h0, h4, h5, hw⟩ := (HIx.out _ _ _).1 hs_
    exact (HIx.out _ _ _).2 ⟨hc, init, x, hx, h0, blk_from h4 hg hr, blk_from h5 hg hr, below_from hw (Nat.le_refl _) HB0.out.size hg hr⟩
  case hAx =>
    rintro x a' s X Y row ⟨Bx, gx, bx, ha⟩ hg hr
    exact ⟨Bx, gx, blk_from bx hg hr, ha⟩
  case assign =>
    intro l pre x W K hi_ hK
    obtain ⟨H0, h1, h4, h5, hB⟩ := (HI.out _ _).1 hi_
    clear hi_
    simp only [EE.v]
    gi_wp2
    have hlt := (Array.getElem?_eq_some_iff.1 h5.out).1
    exact hK _ _ ((KeepsOthers.alloc _ _).from _) ((Below.refl _ W).alloc hB.out.size _) ((HI.out _ _).2 ⟨H0, ⟨blk_alloc h1.out _⟩, ⟨blk_alloc h4.out _⟩, ⟨blk_alloc h5.out _⟩, ⟨hB.out.alloc hB.out.size _⟩⟩) ⟨W.heap.size, ⟨hlt⟩, ⟨World.alloc_heap_new W _⟩, rfl⟩
  case body =>
    rintro l pre ⟨⟨ix, e⟩, c, hc⟩ a' W hl hrec hi_ ⟨Bx, gx, bx, rfl⟩ hlt
    obtain ⟨H0, h1, h4, h5, hB⟩ := (HI.out _ _).1 hi_
    have HC0 := Aside0.mk hc
    clear hlt hi_
    have hx0 : W.cell? ⟨Bx, 0, none⟩ = some (.int .i64 e.x.f0.f0) := (blk_cell bx.out 0).trans rfl
    have hx1 : W.cell? ⟨Bx, 1, none⟩ = some (.int .i64 e.x.f0.f1) := (blk_cell bx.out 1).trans rfl
    have hx2 : W.cell? ⟨Bx, 2, none⟩ = some (.string e.x.f0.f2) := (blk_cell bx.out 2).trans rfl
    have hx3 : W.cell? ⟨Bx, 3, none⟩ = some (.int .i64 e.x.f0.f3) := (blk_cell bx.out 3).trans rfl
    have hx4 : W.cell? ⟨Bx, 4, none⟩ = some (.slice e.A4 e.x.f0.f4.length e.c4) := (blk_cell bx.out 4).trans rfl
    have hk0 : W.cell? ⟨w.heap.size + 1, 0, none⟩ = some (.int .i64 a2_0) := (blk_cell h1.out 0).trans rfl
    have hk1 : W.cell? ⟨w.heap.size + 1, 1, none⟩ = some (.int .i64 a2_1) := (blk_cell h1.out 1).trans rfl
    have hk2 : W.cell? ⟨w.heap.size + 1, 2, none⟩ = some (.string a2_2) := (blk_cell h1.out 2).trans rfl
    have hk3 : W.cell? ⟨w.heap.size + 1, 3, none⟩ = some (.int .i64 a2_3) := (blk_cell h1.out 3).trans rfl
    have hk4 : W.cell? ⟨w.heap.size + 1, 4, none⟩ = some (.slice A2_4 l2_4.length c2_4) := (blk_cell h1.out 4).trans rfl
    have hd : 1 ≤ 4 - 1 - 1 := by omega
    have hcv : cval k a2_0 a2_1 a2_2 a2_3 l2_4 e.x = c := by simp [cval, show ckey k a2_0 a2_1 a2_2 a2_3 l2_4 e.x = some c from HC0.out]
    have HCV := Aside0.mk hcv
    clear hcv
    have hlt4 := Aside0.mk (Array.getElem?_eq_some_iff.1 h4.out).1
    have hlt5 := Aside0.mk (Array.getElem?_eq_some_iff.1 h5.out).1
    have hlt1 := Aside0.mk (Array.getElem?_eq_some_iff.1 h1.out).1
    have hltx := Aside0.mk (Array.getElem?_eq_some_iff.1 bx.out).1
    have hsz := Aside0.mk hB.out.size
    by_cases hpos : 0 < c
    · have hp1 : decide (c > 0) = true := decide_eq_true hpos
      have hp2 : decide (0 < c) = true := decide_eq_true hpos
      have HPOS := Aside0.mk hpos
      clear hpos
      gi_wp2
      refine ⟨trivial, ?_⟩
      refine (CallsIn.inRound l (callsIn_wide.2 (value_Compare.calls k e.x.f0.f0 e.x.f0.f1 e.x.f0.f2 e.x.f0.f3 e.A4 e.c4 e.x.f0.f4 a2_0 a2_1 a2_2 a2_3 A2_4 c2_4 l2_4 c _ (Kd.F_now (Kd.F_below e.rd4 hB.out)) e.le4 (Kd.C_below HR.out hB.out) HC.out HC0.out))).mono ?_
      rintro e_ W3 ⟨rfl, hb3⟩
      have B3 := Aside0.mk hb3
      have bx3 := Aside0.mk ((hb3.block Bx hltx.out).trans bx.out)
      have h43 := Aside0.mk ((hb3.block _ hlt4.out).trans h4.out)
      have h53 := Aside0.mk ((hb3.block _ hlt5.out).trans h5.out)
      clear hb3 hx0 hx1 hx2 hx3 hx4 hk0 hk1 hk2 hk3 hk4
      have hx0 : W3.cell? ⟨Bx, 0, none⟩ = some (.int .i64 e.x.f0.f0) := (blk_cell bx3.out 0).trans rfl
      have hx1 : W3.cell? ⟨Bx, 1, none⟩ = some (.int .i64 e.x.f0.f1) := (blk_cell bx3.out 1).trans rfl
      have hx2 : W3.cell? ⟨Bx, 2, none⟩ = some (.string e.x.f0.f2) := (blk_cell bx3.out 2).trans rfl
      have hx3 : W3.cell? ⟨Bx, 3, none⟩ = some (.int .i64 e.x.f0.f3) := (blk_cell bx3.out 3).trans rfl
      have hx4 : W3.cell? ⟨Bx, 4, none⟩ = some (.slice e.A4 e.x.f0.f4.length e.c4) := (blk_cell bx3.out 4).trans rfl
      have hr0 : W3.cell? ⟨w.heap.size + 1 + 1, 0, none⟩ = some (.int .i64 0) := (blk_cell h43.out 0).trans rfl
      have hr1 : W3.cell? ⟨w.heap.size + 1 + 1, 1, none⟩ = some (.int .i64 0) := (blk_cell h43.out 1).trans rfl
      have hr2 : W3.cell? ⟨w.heap.size + 1 + 1, 2, none⟩ = some (.string (⟨#[]⟩ : ByteArray)) := (blk_cell h43.out 2).trans rfl
      have hr3 : W3.cell? ⟨w.heap.size + 1 + 1, 3, none⟩ = some (.int .i64 0) := (blk_cell h43.out 3).trans rfl
      have hr4 : W3.cell? ⟨w.heap.size + 1 + 1, 4, none⟩ = some (.slice none 0 0) := (blk_cell h43.out 4).trans rfl
      have hs0 := blk_frozen h43.out 0
      have hs1 := blk_frozen h43.out 1
      have hs2 := blk_frozen h43.out 2
      have hs3 := blk_frozen h43.out 3
      have hs4 := blk_frozen h43.out 4
      have hq0 : W3.cell? ⟨w.heap.size + 1 + 1 + 1, 0, none⟩ = some (.bool false) := (blk_cell h53.out 0).trans rfl
      have ht0 := blk_frozen h53.out 0
      dsimp only
      gi_wp2
      have hne : w.heap.size + 1 + 1 ≠ w.heap.size + 1 + 1 + 1 := by omega
      have hb3 := B3.out
      refine ⟨(keeps_of_below hb3).trans (((set5_keeps W3 _ _ _ _ _ _).trans (KeepsOthers.setCell _ _ _)).from _), (HIx.out _ _ _).2 ⟨rfl, pre, _, rfl, ⟨⟨H0.out, by show 0 < cval k a2_0 a2_1 a2_2 a2_3 l2_4 e.x; rw [HCV.out]; exact HPOS.out⟩⟩, ⟨?_⟩, ⟨?_⟩, ⟨?_⟩⟩⟩
      · exact (Below.heap_setCell _ _ _ _ hne).trans (set5_blk h43.out _ _ _ _ _)
      · exact Boxed.set (.bool true) (show Boxed (set5 W3 (w.heap.size + 1 + 1) _ _ _ _ _) (w.heap.size + 1 + 1 + 1) 4 (.bool false) from set5_far h53.out (Ne.symm hne) _ _ _ _ _)
      · exact (set5_below (hB.out.trans (hb3.mono hsz.out)) (by omega) _ _ _ _ _).setCell (p := ⟨w.heap.size + 1 + 1 + 1, 0, none⟩) (by simp; omega) _
    · have hp1 : decide (c > 0) = false := decide_eq_false hpos
      have hp2 : decide (0 < c) = false := decide_eq_false hpos
      have HPOS := Aside0.mk hpos
      clear hpos
      gi_wp2
      refine ⟨trivial, ?_⟩
      refine (CallsIn.inRound l (callsIn_wide.2 (value_Compare.calls k e.x.f0.f0 e.x.f0.f1 e.x.f0.f2 e.x.f0.f3 e.A4 e.c4 e.x.f0.f4 a2_0 a2_1 a2_2 a2_3 A2_4 c2_4 l2_4 c _ (Kd.F_now (Kd.F_below e.rd4 hB.out)) e.le4 (Kd.C_below HR.out hB.out) HC.out HC0.out))).mono ?_
      rintro e_ W3 ⟨rfl, hb3⟩
      have B3 := Aside0.mk hb3
      clear hb3
      dsimp only
      gi_wp2
      have hb3 := B3.out
      refine ⟨keeps_of_below hb3, hb3.mono hsz.out, (HI.out _ _).2 ⟨⟨?_⟩, ⟨(hb3.block _ hlt1.out).trans h1.out⟩, ⟨(hb3.block _ hlt4.out).trans h4.out⟩, ⟨(hb3.block _ hlt5.out).trans h5.out⟩, ⟨hB.out.trans (hb3.mono hsz.out)⟩⟩⟩
      intro p hp
      rcases List.mem_append.1 hp with hp | hp
      · exact H0.out p hp
      · obtain rfl := List.mem_singleton.1 hp
        show cval k a2_0 a2_1 a2_2 a2_3 l2_4 e.x ≤ 0
        rw [HCV.out]
        have := HPOS.out
        omega
  case done =>
    intro D ys W hD hys hi_ hK
    obtain ⟨H0, h1, h4, h5, hB⟩ := (HI.out _ _).1 hi_
    clear hi_
    have hr0 : W.cell? ⟨w.heap.size + 1 + 1, 0, none⟩ = some (.int .i64 0) := (blk_cell h4.out 0).trans rfl
    have hr1 : W.cell? ⟨w.heap.size + 1 + 1, 1, none⟩ = some (.int .i64 0) := (blk_cell h4.out 1).trans rfl
    have hr2 : W.cell? ⟨w.heap.size + 1 + 1, 2, none⟩ = some (.string (⟨#[]⟩ : ByteArray)) := (blk_cell h4.out 2).trans rfl
    have hr3 : W.cell? ⟨w.heap.size + 1 + 1, 3, none⟩ = some (.int .i64 0) := (blk_cell h4.out 3).trans rfl
    have hr4 : W.cell? ⟨w.heap.size + 1 + 1, 4, none⟩ = some (.slice none 0 0) := (blk_cell h4.out 4).trans rfl
    have hs0 := blk_frozen h4.out 0
    have hs1 := blk_frozen h4.out 1
    have hs2 := blk_frozen h4.out 2
    have hs3 := blk_frozen h4.out 3
    have hs4 := blk_frozen h4.out 4
    have hq0 : W.cell? ⟨w.heap.size + 1 + 1 + 1, 0, none⟩ = some (.bool false) := (blk_cell h5.out 0).trans rfl
    have ht0 := blk_frozen h5.out 0
    have HK := Aside0.mk hK
    have HD := Aside0.mk hD
    have HYS := Aside0.mk hys
    clear hK hD hys
    go_wp2
    have hne : w.heap.size + 1 + 1 ≠ w.heap.size + 1 + 1 + 1 := by omega
    have hz : nextOf (cval k a2_0 a2_1 a2_2 a2_3 l2_4) (mapOf l0_0 a1) = (0, 0, ⟨#[]⟩, 0, [], false) := by
      rw [← HES.out]
      refine nextOf_none _ (fun x hx => ?_)
      obtain ⟨e, he, rfl⟩ := List.mem_map.1 hx
      have he2 : ∃ p ∈ en es, p.2 = e := by
        obtain ⟨i, hi, rfl⟩ := List.getElem_of_mem he
        exact ⟨(en es)[i]'(by rw [en_length]; exact hi), List.getElem_mem _, by rw [en_getElem es i _ hi]⟩
      obtain ⟨p, hp, rfl⟩ := he2
      rw [← HYS.out] at hp
      obtain ⟨q, hq, rfl⟩ := List.mem_map.1 hp
      exact Int.not_lt.2 (H0.out q hq)
    have hf := HH.out
    rw [hz] at hf
    simp only [Prod.mk.injEq] at hf
    obtain ⟨rfl, rfl, rfl, rfl, rfl, rfl⟩ := hf
    have hK' := ((set5_keeps W (w.heap.size + 1 + 1) (.int .i64 0) (.int .i64 0) (.string (⟨#[]⟩ : ByteArray)) (.int .i64 0) (.slice none 0 0)).trans (KeepsOthers.setCell _ ⟨w.heap.size + 1 + 1 + 1, 0, none⟩ (.bool false))).same D _ HK.out rfl
    have r4 := (Below.heap_setCell _ ⟨w.heap.size + 1 + 1 + 1, 0, none⟩ (.bool false) _ hne).trans (set5_blk h4.out (.int .i64 0) (.int .i64 0) (.string (⟨#[]⟩ : ByteArray)) (.int .i64 0) (.slice none 0 0))
    have r5 := Boxed.set (.bool false) (show Boxed (set5 W (w.heap.size + 1 + 1) (.int .i64 0) (.int .i64 0) (.string (⟨#[]⟩ : ByteArray)) (.int .i64 0) (.slice none 0 0)) (w.heap.size + 1 + 1 + 1) 4 (.bool false) from set5_far h5.out (Ne.symm hne) _ _ _ _ _)
    have q4 := (blk_from (B := 0) ⟨r4⟩ (grownBy_putObj' _ D (.deferred none)) (fun r e => by cases e; exact ⟨Nat.zero_le _, _, hK', rfl⟩)).out
    have q5 := (blk_from (B := 0) ⟨r5⟩ (grownBy_putObj' _ D (.deferred none)) (fun r e => by cases e; exact ⟨Nat.zero_le _, _, hK', rfl⟩)).out
    show LeavesInM Fence.wide 5 Try.prog Try.f15 _ _ _ .returning _
    refine ⟨by simp, .inl ⟨_, _, rfl, run_takeDeferred hK', ?_⟩⟩
    refine ⟨.tuple #[.agg #[.int .i64 0, .int .i64 0, .string (⟨#[]⟩ : ByteArray), .int .i64 0, .slice none 0 0], .bool false], ?_, _, rfl, Kd.V_nil _ _ _ _ _, ((set5_below hB.out (by omega) _ _ _ _ _).setCell (p := ⟨w.heap.size + 1 + 1 + 1, 0, none⟩) (by simp; omega) _).trans (belowK_b (w := w) (Nat.le_refl _) _ D _ _ (Nat.le_trans HB0.out.size HD.out) hK' rfl rfl)⟩
    have c0 := (blk_cell q4 0).trans rfl
    have c1 := (blk_cell q4 1).trans rfl
    have c2 := (blk_cell q4 2).trans rfl
    have c3 := (blk_cell q4 3).trans rfl
    have c4 := (blk_cell q4 4).trans rfl
    have c5 := (blk_cell q5 0).trans rfl
    simp [results, Try.f15, go_sem, c0, c1, c2, c3, c4, c5]
  case stop =>
    intro D c pre W hD hpre hi_ hK
    obtain ⟨rfl, init, x, rfl, h0, h4, h5, hB⟩ := (HIx.out _ _ _).1 hi_
    clear hi_
    obtain ⟨⟨ix, e⟩, hDx⟩ := x
    refine wpIn_wide.2 ?_
    have hz : nextOf (cval k a2_0 a2_1 a2_2 a2_3 l2_4) (mapOf l0_0 a1) = (e.x.f0.f0, e.x.f0.f1, e.x.f0.f2, e.x.f0.f3, e.x.f0.f4, true) := by
      rw [← HES.out]
      obtain ⟨t, ht⟩ := hpre
      have h2 := congrArg (List.map (fun p : Nat × EE w P0_0_ => p.2.x)) ht
      rw [show (en es).map (fun p : Nat × EE w P0_0_ => p.2.x) = es.map (·.x) from by rw [show (fun p : Nat × EE w P0_0_ => p.2.x) = (fun e : EE w P0_0_ => e.x) ∘ Prod.snd from rfl, ← List.map_map, en, List.map_snd_zip (by simp)]] at h2
      rw [← h2, List.map_append, List.map_append, List.map_append, List.map_cons, List.map_nil, List.append_assoc, List.map_cons, List.map_nil, List.singleton_append]
      refine nextOf_at h0.out.2 _ (fun y hy => ?_)
      rw [List.map_map] at hy
      obtain ⟨q, hq, rfl⟩ := List.mem_map.1 hy
      exact Int.not_lt.2 (h0.out.1 q hq)
    have hf := HH.out
    rw [hz] at hf
    simp only [Prod.mk.injEq] at hf
    obtain ⟨rfl, rfl, rfl, rfl, rfl, rfl⟩ := hf
    have HK := Aside0.mk hK
    clear hK hz hpre h0
    go_wp2
    have hK := HK.out
    have q4 := (blk_from (B := 0) h4 (grownBy_putObj' _ D (.deferred none)) (fun r e => by cases e; exact ⟨Nat.zero_le _, _, hK, rfl⟩)).out
    have q5 := (blk_from (B := 0) h5 (grownBy_putObj' _ D (.deferred none)) (fun r e => by cases e; exact ⟨Nat.zero_le _, _, hK, rfl⟩)).out
    have hBe := hB.out.trans (belowK_b (w := w) (Nat.le_refl _) W D (.deferred (some [])) (.deferred none) (Nat.le_trans HB0.out.size hD) hK rfl rfl)
    show LeavesInM Fence.wide 5 Try.prog Try.f15 _ _ _ .returning _
    refine ⟨by simp, .inl ⟨_, _, rfl, run_takeDeferred hK, ?_⟩⟩
    refine ⟨.tuple #[.agg #[.int .i64 e.x.f0.f0, .int .i64 e.x.f0.f1, .string e.x.f0.f2, .int .i64 e.x.f0.f3, .slice e.A4 e.x.f0.f4.length e.c4], .bool true], ?_, _, rfl, Kd.V_mk e.le4 (Kd.F_mono (Kd.F_below e.rd4 hBe) (fun k hk => .inl hk)), hBe⟩
    have c0 := (blk_cell q4 0).trans rfl
    have c1 := (blk_cell q4 1).trans rfl
    have c2 := (blk_cell q4 2).trans rfl
    have c3 := (blk_cell q4 3).trans rfl
    have c4 := (blk_cell q4 4).trans rfl
    have c5 := (blk_cell q5 0).trans rfl
    simp [results, Try.f15, go_sem, c0, c1, c2, c3, c4, c5]
end Go.Proofs.Ytnokieaebnmljaa.PAll
namespace Go.Proofs.Ytnokieaebnmljaa.PAll
open Go Go.Proofs Go.RowKit Go.Shelf Go.Proofs.YtnokieaebnmljaaW.PrintWords Go.Proofs.YtnokieaebnmljaaW.PrintLast Go.Proofs.YtnokieaebnmljaaW.PrintMore
attribute [local go_sem] Oper.semAt_some
set_option linter.unusedVariables false
set_option linter.unusedSimpArgs false
set_option maxHeartbeats 1000000 in
/-- heap.entries hands back its closure over two boxes. -/
theorem entries_in (A0 : Option Addr) (n0 c0 : Nat) (m : Int) (w : World) :
    Calls Try.prog 39 #[.agg #[.slice A0 n0 c0], .int .i64 m] w fun e w' => e = .returned (.func (.func 59) #[] #[.pointer (some ⟨w.heap.size + 1, 0, none⟩), .pointer (some ⟨w.heap.size, 0, none⟩)]) ∧ w' = (w.alloc (.cells #[.slice A0 n0 c0] 27)).alloc (.cells #[.int .i64 m] 3) := by
  have hu27 := Try.underlying27
  go_enter Try.func39, Try.ntmps39
  go_wp2
  go_ret
  exact ⟨rfl, rfl⟩
/-- A read row as one with its footprint. -/
theorem heap35 : Kd.Heap k35 := Kd.heap_fix (fun _ h => Kd.heap_iso _ (Kd.heap_pair (Kd.heap_int _) (Kd.heap_pair (Kd.heap_int _) (Kd.heap_pair Kd.heap_string (Kd.heap_pair (Kd.heap_int _) (Kd.heap_slice _ h))))))
theorem heap82 : Kd.Heap k82 := Kd.heap_iso _ (Kd.heap_pair heap35 heap35)
theorem C_F82 {w : World} {A : Option Addr} {l : List (List S82)} (h : Kd.C (Kd.slice 82 k82) w A l.length l) : Kd.F (Kd.slice 82 k82) w (fun k => k < w.heap.size) A l.length l := Kd.C_F (Kd.heap_slice 82 heap82) h
theorem mapOf_max {w : World} {ok : Nat → Prop} {A0 : Option Addr} {l0 : List (List S82)} (m : Int) (hF : Kd.F (Kd.slice 82 k82) w ok A0 l0.length l0) : (mapOf l0 m).length ≤ 9223372036854775807 := by
  unfold mapOf
  split
  · rename_i hm
    obtain ⟨ad, cs, _, hcl, hK, hcc, _⟩ := Kd.F_get hF ([] : List S82) m hm.1 hm.2
    obtain ⟨Am, cm, rfl, hle, hFm⟩ := Kd.FK_slice_open hK
    exact Kd.F_max hFm
  · simp
/-- What came ahead of an element, and what is behind it. -/
theorem en_split {w : World} {ok : Nat → Prop} {es : List (EE w ok)} {D : Nat × EE w ok → Prop} {init : List { p : Nat × EE w ok // D p }} {x : { p : Nat × EE w ok // D p }} (h : (init ++ [x]).map (·.1) <+: en es) :
    x.1.1 = init.length ∧ ∃ t, es.map (·.x) = (init.map fun p => p.1.2.x) ++ x.1.2.x :: t := by
  obtain ⟨t, ht⟩ := h
  constructor
  · have h1 : init.length < (en es).length := by rw [← ht]; simp
    have h2 := en_getElem es init.length h1 (by rwa [en_length] at h1)
    have h3 : (en es)[init.length] = x.1 := by simp [← ht]
    rw [← h3, h2]
  · have h2 := congrArg (List.map (fun p : Nat × EE w ok => p.2.x)) ht
    rw [show (en es).map (fun p : Nat × EE w ok => p.2.x) = es.map (·.x) from by rw [show (fun p : Nat × EE w ok => p.2.x) = (fun e : EE w ok => e.x) ∘ Prod.snd from rfl, ← List.map_map, en, List.map_snd_zip (by simp)]] at h2
    exact ⟨t.map (fun p => p.2.x), by rw [← h2]; simp⟩
theorem en_mem {α : Type} {es : List α} {e : α} (he : e ∈ es) : ∃ p ∈ en es, p.2 = e := by
  obtain ⟨i, hi, rfl⟩ := List.getElem_of_mem he
  exact ⟨(en es)[i]'(by rw [en_length]; exact hi), List.getElem_mem _, by rw [en_getElem es i _ hi]⟩
/-- One more than the last place that came. -/
def lastIx {α : Type} (l : List (Nat × α)) : Int := match l.getLast? with
  | none => 0
  | some p => wrap64 ((p.1 : Int) + 1)
theorem lastIx_snoc {α : Type} (l : List (Nat × α)) (p : Nat × α) : lastIx (l ++ [p]) = wrap64 ((p.1 : Int) + 1) := by
  simp [lastIx]
theorem wrap_in (n : Int) (h : -9223372036854775808 ≤ n ∧ n ≤ 9223372036854775807) : wrap64 n = n := by unfold wrap64; omega
theorem en_ix {α : Type} {es : List α} {pre : List (Nat × α)} (h : pre <+: en es) (i : Nat) (hi : i < pre.length) : (pre[i]).1 = i := by
  obtain ⟨t, ht⟩ := h
  have h1 : i < (en es).length := by rw [← ht, List.length_append]; omega
  have h2 : (en es)[i] = pre[i] := by simp only [← ht]; exact List.getElem_append_left hi
  rw [← h2, en_getElem es i h1 (by rwa [en_length] at h1)]
theorem lastIx_en {α : Type} {es : List α} (hm : es.length ≤ 9223372036854775807) {pre : List (Nat × α)} (h : pre <+: en es) : lastIx pre = (pre.length : Int) := by
  rcases List.eq_nil_or_concat pre with rfl | ⟨l, p, rfl⟩
  · rfl
  · rw [List.concat_eq_append] at h ⊢
    rw [lastIx_snoc]
    have hl := h.length_le
    rw [en_length] at hl
    have hi := en_ix h l.length (by simp)
    rw [show (l ++ [p])[l.length]'(by simp) = p from by simp] at hi
    rw [hi, wrap_in _ (by simp at hl; omega)]
    simp
def placeOf (c : S82 → Int) : List S82 → Int → Int × Bool
  | [], i => (i, false)
  | e :: es, i => if c e = 0 then (i, true) else if 0 < c e then (i, false) else placeOf c es (i + 1)
theorem placeOf_congr {c c' : S82 → Int} : ∀ (l : List S82) (i : Int), (∀ e ∈ l, c e = c' e) → placeOf c l i = placeOf c' l i
  | [], _, _ => rfl
  | e :: es, i, h => by simp only [placeOf]; rw [h e (by simp), placeOf_congr es _ (fun x hx => h x (by simp [hx]))]
theorem placeOf_app {c : S82 → Int} (t : List S82) : ∀ (l : List S82) (i : Int), (∀ e ∈ l, c e < 0) → placeOf c (l ++ t) i = placeOf c t (i + l.length)
  | [], i, _ => by simp
  | e :: es, i, h => by
    have he := h e (by simp)
    simp only [List.cons_append, placeOf]
    rw [if_neg (by omega), if_neg (by omega), placeOf_app t es (i + 1) (fun x hx => h x (by simp [hx]))]
    congr 1
    simp
    omega
open Classical in
noncomputable def heap_place.f (k : Nat) (l0_0 : List (List S82)) (a1 : Int) (a2_0 : Int) (a2_1 : Int) (a2_2 : ByteArray) (a2_3 : Int) (l2_4 : List S35) : Option (Int × Bool) :=
  if call k a2_0 a2_1 a2_2 a2_3 l2_4 (mapOf l0_0 a1) then some (placeOf (cval k a2_0 a2_1 a2_2 a2_3 l2_4) (mapOf l0_0 a1) 0) else none
theorem heap_place.mono : ∀ l0_0 a1 a2_0 a2_1 a2_2 a2_3 l2_4 k, LeO (heap_place.f k l0_0 a1 a2_0 a2_1 a2_2 a2_3 l2_4) (heap_place.f (k + 1) l0_0 a1 a2_0 a2_1 a2_2 a2_3 l2_4) := by
  intro l0_0 a1 a2_0 a2_1 a2_2 a2_3 l2_4 k r h
  unfold heap_place.f at h ⊢
  split at h
  · rename_i hc
    have hm := call_mono hc
    rw [if_pos hm.1, placeOf_congr _ _ hm.2]
    exact h
  · exact absurd h (by simp)
set_option maxHeartbeats 8000000 in
set_option maxRecDepth 100000 in
theorem heap_place.calls (k : Nat) (A0_0 : Option Addr) (c0_0 : Nat) (l0_0 : List (List (S82))) (a1 : Int) (a2_0 : Int) (a2_1 : Int) (a2_2 : ByteArray) (a2_3 : Int) (A2_4 : Option Addr) (c2_4 : Nat) (l2_4 : List (S35)) (r1 : Int) (r2 : Bool) (w : World) (hr0_0 : Kd.C (Kd.slice 82 k82) w A0_0 l0_0.length l0_0) (hc0_0 : l0_0.length ≤ c0_0) (hr2_4 : Kd.C k35 w A2_4 l2_4.length l2_4) (hc2_4 : l2_4.length ≤ c2_4) (h : heap_place.f k l0_0 a1 a2_0 a2_1 a2_2 a2_3 l2_4 = some (r1, r2)) :
    Calls Try.prog 37 #[.agg #[.slice A0_0 l0_0.length c0_0], .int .i64 a1, .agg #[.int .i64 a2_0, .int .i64 a2_1, .string a2_2, .int .i64 a2_3, .slice A2_4 l2_4.length c2_4]] w fun e w' => e = .returned (.tuple #[.int .i64 r1, .bool r2]) ∧ Below w.heap.size w w' := by
  have hu27 := Try.underlying27
  have hu35 := Try.underlying35
  have hu82 := Try.underlying82
  have HF := Aside0.mk (C_F82 hr0_0)
  have HR := Aside0.mk hr2_4
  have HC := Aside0.mk hc2_4
  obtain ⟨hall, hr⟩ : call k a2_0 a2_1 a2_2 a2_3 l2_4 (mapOf l0_0 a1) ∧ placeOf (cval k a2_0 a2_1 a2_2 a2_3 l2_4) (mapOf l0_0 a1) 0 = (r1, r2) := by
    unfold heap_place.f at h
    split at h
    · rename_i hc
      exact ⟨hc, Option.some.inj h⟩
    · exact absurd h (by simp)
  have HH := Aside0.mk hr
  have HA := Aside0.mk hall
  clear hr0_0 hc0_0 h hr hr2_4 hc2_4 hall
  refine (callsIn_wide (n := 5)).1 ?_
  refine callsIn_of_wp_marks Try.func37 rfl trivial ?_ rfl
  simp only [Try.ntmps37, List.size_toArray, List.length_cons, List.length_nil, Nat.reduceAdd, Nat.reduceSub, Array.replicate_succ, Array.replicate_zero, List.push_toArray, List.append_toArray, List.nil_append, List.cons_append]
  refine wpIn_wide.2 ?_
  refine wp_mono ?_ retOnly_imp
  go_wp2_with (first | (with_reducible refine wp_label ?_) | ((with_reducible refine Opn.wp_scope_nog ?sc ?_); (case sc => funext e_ a_ w_; cases e_ <;> rfl)))
  refine (entries_in A0_0 l0_0.length c0_0 a1 _).mono ?_
  rintro e_ w' ⟨rfl, rfl⟩
  dsimp only
  simp only [World.size_alloc]
  go_wp2_with (first | (with_reducible refine wp_label ?_) | ((with_reducible refine Opn.wp_scope_nog ?sc ?_); (case sc => funext e_ a_ w_; cases e_ <;> rfl)))
  obtain ⟨wl, hwl⟩ : ∃ wl, wl = (((((((w.alloc (Obj.cells #[.slice A0_0 l0_0.length c0_0] 27)).alloc (Obj.cells #[.int .i64 a2_0, .int .i64 a2_1, .string a2_2, .int .i64 a2_3, .slice A2_4 l2_4.length c2_4] 35)).alloc (Obj.cells #[.int .i64 0] 3)).alloc (Obj.cells #[.bool false] 4)).alloc (Obj.cells #[.int .i64 0] 3)).alloc (Obj.cells #[.slice A0_0 l0_0.length c0_0] 27)).alloc (Obj.cells #[.int .i64 a1] 3)) := ⟨_, rfl⟩
  rw [← hwl]
  have hsz : wl.heap.size = w.heap.size + 7 := by rw [hwl]; simp
  have hB0 : Below w.heap.size w wl := by
    rw [hwl]
    exact ((((((((Below.refl _ w).alloc (Nat.le_refl _) _).alloc (by simp) _).alloc (by simp; omega) _).alloc (by simp; omega) _).alloc (by simp; omega) _).alloc (by simp; omega) _).alloc (by simp; omega) _)
  have R1 : wl.heap[w.heap.size + 1]? = some (.cells #[.int .i64 a2_0, .int .i64 a2_1, .string a2_2, .int .i64 a2_3, .slice A2_4 l2_4.length c2_4] 35 (0, 0)) := by rw [hwl]; exact (blk_alloc (blk_alloc (blk_alloc (blk_alloc (blk_alloc (by have h_ := World.alloc_heap_new (w.alloc (Obj.cells #[.slice A0_0 l0_0.length c0_0] 27)) (Obj.cells #[.int .i64 a2_0, .int .i64 a2_1, .string a2_2, .int .i64 a2_3, .slice A2_4 l2_4.length c2_4] 35); rwa [World.size_alloc] at h_) _) _) _) _) _)
  have R4 : wl.heap[w.heap.size + 1 + 1]? = some (.cells #[.int .i64 0] 3 (0, 0)) := by rw [hwl]; exact (blk_alloc (blk_alloc (blk_alloc (blk_alloc (by have h_ := World.alloc_heap_new ((w.alloc (Obj.cells #[.slice A0_0 l0_0.length c0_0] 27)).alloc (Obj.cells #[.int .i64 a2_0, .int .i64 a2_1, .string a2_2, .int .i64 a2_3, .slice A2_4 l2_4.length c2_4] 35)) (Obj.cells #[.int .i64 0] 3); rwa [World.size_alloc, World.size_alloc] at h_) _) _) _) _)
  have R5 : wl.heap[w.heap.size + 1 + 1 + 1]? = some (.cells #[.bool false] 4 (0, 0)) := by rw [hwl]; exact (blk_alloc (blk_alloc (blk_alloc (by have h_ := World.alloc_heap_new (((w.alloc (Obj.cells #[.slice A0_0 l0_0.length c0_0] 27)).alloc (Obj.cells #[.int .i64 a2_0, .int .i64 a2_1, .string a2_2, .int .i64 a2_3, .slice A2_4 l2_4.length c2_4] 35)).alloc (Obj.cells #[.int .i64 0] 3)) (Obj.cells #[.bool false] 4); rwa [World.size_alloc, World.size_alloc, World.size_alloc] at h_) _) _) _)
  have R6 : wl.heap[w.heap.size + 1 + 1 + 1 + 1]? = some (.cells #[.int .i64 0] 3 (0, 0)) := by rw [hwl]; exact (blk_alloc (blk_alloc (by have h_ := World.alloc_heap_new ((((w.alloc (Obj.cells #[.slice A0_0 l0_0.length c0_0] 27)).alloc (Obj.cells #[.int .i64 a2_0, .int .i64 a2_1, .string a2_2, .int .i64 a2_3, .slice A2_4 l2_4.length c2_4] 35)).alloc (Obj.cells #[.int .i64 0] 3)).alloc (Obj.cells #[.bool false] 4)) (Obj.cells #[.int .i64 0] 3); rwa [World.size_alloc, World.size_alloc, World.size_alloc, World.size_alloc] at h_) _) _)
  have RS : wl.heap[w.heap.size + 1 + 1 + 1 + 1 + 1]? = some (.cells #[.slice A0_0 l0_0.length c0_0] 27 (0, 0)) := by rw [hwl]; exact (blk_alloc (by have h_ := World.alloc_heap_new (((((w.alloc (Obj.cells #[.slice A0_0 l0_0.length c0_0] 27)).alloc (Obj.cells #[.int .i64 a2_0, .int .i64 a2_1, .string a2_2, .int .i64 a2_3, .slice A2_4 l2_4.length c2_4] 35)).alloc (Obj.cells #[.int .i64 0] 3)).alloc (Obj.cells #[.bool false] 4)).alloc (Obj.cells #[.int .i64 0] 3)) (Obj.cells #[.slice A0_0 l0_0.length c0_0] 27); rwa [World.size_alloc, World.size_alloc, World.size_alloc, World.size_alloc, World.size_alloc] at h_) _)
  have RM : wl.heap[w.heap.size + 1 + 1 + 1 + 1 + 1 + 1]? = some (.cells #[.int .i64 a1] 3 (0, 0)) := by rw [hwl]; exact (by have h_ := World.alloc_heap_new ((((((w.alloc (Obj.cells #[.slice A0_0 l0_0.length c0_0] 27)).alloc (Obj.cells #[.int .i64 a2_0, .int .i64 a2_1, .string a2_2, .int .i64 a2_3, .slice A2_4 l2_4.length c2_4] 35)).alloc (Obj.cells #[.int .i64 0] 3)).alloc (Obj.cells #[.bool false] 4)).alloc (Obj.cells #[.int .i64 0] 3)).alloc (Obj.cells #[.slice A0_0 l0_0.length c0_0] 27)) (Obj.cells #[.int .i64 a1] 3); rwa [World.size_alloc, World.size_alloc, World.size_alloc, World.size_alloc, World.size_alloc, World.size_alloc] at h_)
  have hbS : wl.cell? ⟨w.heap.size + 1 + 1 + 1 + 1 + 1, 0, none⟩ = some (.slice A0_0 l0_0.length c0_0) := (blk_cell RS 0).trans rfl
  have hbM : wl.cell? ⟨w.heap.size + 1 + 1 + 1 + 1 + 1 + 1, 0, none⟩ = some (.int .i64 a1) := (blk_cell RM 0).trans rfl
  clear hwl RS RM
  obtain ⟨es, hes, hst⟩ := entries_stops w wl hB0 (fun k => k < w.heap.size) (w.heap.size + 1 + 1 + 1 + 1 + 1 + 1) (w.heap.size + 1 + 1 + 1 + 1 + 1) A0_0 c0_0 l0_0 a1 HF.out (by omega) (by omega) hbM hbS
  have hdef : ∀ p ∈ en es, ∃ c, ckey k a2_0 a2_1 a2_2 a2_3 l2_4 p.2.x = some c := by
    intro p hp
    refine HA.out p.2.x ?_
    rw [← hes]
    exact List.mem_map.2 ⟨p.2, (List.of_mem_zip hp).2, rfl⟩
  have HP := hst (fun p => ∃ c, ckey k a2_0 a2_1 a2_2 a2_3 l2_4 p.2.x = some c) hdef
  have HES := Aside0.mk hes
  have HB0 := Aside0.mk hB0
  have HSZ := Aside0.mk hsz
  clear hst hbS hbM hes hB0 hsz hdef
  obtain ⟨I, hI⟩ : ∃ I : List { p : Nat × EE w (fun k => k < w.heap.size) // ∃ c, ckey k a2_0 a2_1 a2_2 a2_3 l2_4 p.2.x = some c } → World → Prop, I = (fun pre W => Aside0 (∀ p ∈ pre, cval k a2_0 a2_1 a2_2 a2_3 l2_4 p.1.2.x < 0) ∧ Aside0 (W.heap[w.heap.size + 1]? = some (.cells #[.int .i64 a2_0, .int .i64 a2_1, .string a2_2, .int .i64 a2_3, .slice A2_4 l2_4.length c2_4] 35 (0, 0))) ∧ Aside0 (W.heap[w.heap.size + 1 + 1]? = some (.cells #[.int .i64 0] 3 (0, 0))) ∧ Aside0 (W.heap[w.heap.size + 1 + 1 + 1]? = some (.cells #[.bool false] 4 (0, 0))) ∧ Aside0 (W.heap[w.heap.size + 1 + 1 + 1 + 1]? = some (.cells #[.int .i64 (lastIx (pre.map (·.1)))] 3 (0, 0))) ∧ Aside0 (Below w.heap.size w W)) := ⟨_, rfl⟩
  obtain ⟨Ix, hIx⟩ : ∃ Ix : Code → List { p : Nat × EE w (fun k => k < w.heap.size) // ∃ c, ckey k a2_0 a2_1 a2_2 a2_3 l2_4 p.2.x = some c } → World → Prop, Ix = (fun c pre W => ∃ init x, pre = init ++ [x] ∧ Aside0 (∀ p ∈ init, cval k a2_0 a2_1 a2_2 a2_3 l2_4 p.1.2.x < 0) ∧ Aside0 (Below w.heap.size w W) ∧ ((c = .ret ∧ Aside0 (cval k a2_0 a2_1 a2_2 a2_3 l2_4 x.1.2.x = 0) ∧ Aside0 (W.heap[w.heap.size + 1 + 1]? = some (.cells #[.int .i64 (x.1.1 : Int)] 3 (0, 0))) ∧ Aside0 (W.heap[w.heap.size + 1 + 1 + 1]? = some (.cells #[.bool true] 4 (0, 0)))) ∨ (c = .exit 0 ∧ Aside0 (0 < cval k a2_0 a2_1 a2_2 a2_3 l2_4 x.1.2.x) ∧ Aside0 (W.heap[w.heap.size + 1 + 1]? = some (.cells #[.int .i64 0] 3 (0, 0))) ∧ Aside0 (W.heap[w.heap.size + 1 + 1 + 1]? = some (.cells #[.bool false] 4 (0, 0))) ∧ Aside0 (W.heap[w.heap.size + 1 + 1 + 1 + 1]? = some (.cells #[.int .i64 (lastIx (init.map (·.1)))] 3 (0, 0)))))) := ⟨_, rfl⟩
  have HI := Aside0.mk (fun pre W => Iff.of_eq (congrFun (congrFun hI pre) W))
  have HIx := Aside0.mk (fun c pre W => Iff.of_eq (congrFun (congrFun (congrFun hIx c) pre) W))
  clear hI hIx
  have HMX := Aside0.mk (mapOf_max a1 HF.out)
  refine (wpIn_wide (n := 4)).1 ?_
  refine wpIn_rangeFunc_ownH (n := 4) rfl (by omega) (gf := 59) (lb := #[.pointer (some ⟨w.heap.size + 1 + 1 + 1 + 1 + 1 + 1, 0, none⟩), .pointer (some ⟨w.heap.size + 1 + 1 + 1 + 1 + 1, 0, none⟩)]) rfl trivial (enters_of Try.func59 (by kernel_rfl) rfl)
    HP belowK_t (belowK_b HB0.out.size) (Below.refl _ _) (fun _ => rfl)
    I Ix
    ?hI ?hIx ((HI.out _ _).2 ⟨⟨by simp⟩, ⟨R1⟩, ⟨R4⟩, ⟨R5⟩, ⟨R6⟩, HB0⟩)
    (fun x a' W => ∃ Bx, Aside0 (w.heap.size + 1 + 1 + 1 + 1 < Bx) ∧ Aside0 (W.heap[Bx]? = some (.cells #[.int .i64 x.1.2.x.f0.f0, .int .i64 x.1.2.x.f0.f1, .string x.1.2.x.f0.f2, .int .i64 x.1.2.x.f0.f3, .slice x.1.2.A4 x.1.2.x.f0.f4.length x.1.2.c4, .int .i64 x.1.2.x.f1.f0, .int .i64 x.1.2.x.f1.f1, .string x.1.2.x.f1.f2, .int .i64 x.1.2.x.f1.f3, .slice x.1.2.A9 x.1.2.x.f1.f4.length x.1.2.c9] 82 (0, 0))) ∧ a' = { tmps := #[.agg #[.slice A0_0 l0_0.length c0_0], .int .i64 a1, .agg #[.int .i64 a2_0, .int .i64 a2_1, .string a2_2, .int .i64 a2_3, .slice A2_4 l2_4.length c2_4], .pointer (some ⟨w.heap.size, 0, none⟩), undef, .pointer (some ⟨w.heap.size + 1, 0, none⟩), .pointer (some ⟨w.heap.size + 1 + 1, 0, none⟩), .pointer (some ⟨w.heap.size + 1 + 1 + 1, 0, none⟩), .pointer (some ⟨w.heap.size + 1 + 1 + 1 + 1, 0, none⟩), .int .i64 (x.1.1 : Int), .pointer (some ⟨Bx, 0, none⟩), undef, .agg #[.slice A0_0 l0_0.length c0_0], .int .i64 a1, .func (.func 59) #[] #[.pointer (some ⟨w.heap.size + 1 + 1 + 1 + 1 + 1 + 1, 0, none⟩), .pointer (some ⟨w.heap.size + 1 + 1 + 1 + 1 + 1, 0, none⟩)], .int .i64 (x.1.1 : Int), x.1.2.v, undef, undef, undef, undef, undef, undef, undef, undef, undef, undef, undef, undef, undef, undef], defers := [] })
    ?hAx ?assign ?body ?done ?stop
  case hI =>
    intro s X Y row hs_ hg hr
    have hs := (HI.out _ _).1 hs_
    exact (HI.out _ _).2 ⟨hs.1, blk_from hs.2.1 hg hr, blk_from hs.2.2.1 hg hr, blk_from hs.2.2.2.1 hg hr, blk_from hs.2.2.2.2.1 hg hr, below_from hs.2.2.2.2.2 (Nat.le_refl _) HB0.out.size hg hr⟩
  case hIx =>
    intro c s X Y row hs_ hg hr
    obtain ⟨init, x, hx, h0, hw, ⟨hc, hz, h4, h5⟩ | ⟨hc, hz, h4, h5, h6⟩⟩ := (HIx.out _ _ _).1 hs_
    · exact (HIx.out _ _ _).2 ⟨init, x, hx, h0, below_from hw (Nat.le_refl _) HB0.out.size hg hr, .inl ⟨hc, hz, blk_from h4 hg hr, blk_from h5 hg hr⟩⟩
    · exact (HIx.out _ _ _).2 ⟨init, x, hx, h0, below_from hw (Nat.le_refl _) HB0.out.size hg hr, .inr ⟨hc, hz, blk_from h4 hg hr, blk_from h5 hg hr, blk_from h6 hg hr⟩⟩
  case hAx =>
    rintro x a' s X Y row ⟨Bx, gx, bx, ha⟩ hg hr
    exact ⟨Bx, gx, blk_from bx hg hr, ha⟩
  case assign =>
    intro l pre x W K hi_ hK
    obtain ⟨H0, h1, h4, h5, h6, hB⟩ := (HI.out _ _).1 hi_
    clear hi_
    simp only [EE.v]
    gi_wp2
    have hlt := (Array.getElem?_eq_some_iff.1 h6.out).1
    exact hK _ _ ((KeepsOthers.alloc _ _).from _) ((Below.refl _ W).alloc hB.out.size _) ((HI.out _ _).2 ⟨H0, ⟨blk_alloc h1.out _⟩, ⟨blk_alloc h4.out _⟩, ⟨blk_alloc h5.out _⟩, ⟨blk_alloc h6.out _⟩, ⟨hB.out.alloc hB.out.size _⟩⟩) ⟨W.heap.size, ⟨hlt⟩, ⟨World.alloc_heap_new W _⟩, rfl⟩
  case body =>
    rintro l pre ⟨⟨ix, e⟩, c, hc⟩ a' W hl hrec hi_ ⟨Bx, gx, bx, rfl⟩ hlt
    obtain ⟨H0, h1, h4, h5, h6, hB⟩ := (HI.out _ _).1 hi_
    have HC0 := Aside0.mk hc
    clear hlt hi_
    have hx0 : W.cell? ⟨Bx, 0, none⟩ = some (.int .i64 e.x.f0.f0) := (blk_cell bx.out 0).trans rfl
    have hx1 : W.cell? ⟨Bx, 1, none⟩ = some (.int .i64 e.x.f0.f1) := (blk_cell bx.out 1).trans rfl
    have hx2 : W.cell? ⟨Bx, 2, none⟩ = some (.string e.x.f0.f2) := (blk_cell bx.out 2).trans rfl
    have hx3 : W.cell? ⟨Bx, 3, none⟩ = some (.int .i64 e.x.f0.f3) := (blk_cell bx.out 3).trans rfl
    have hx4 : W.cell? ⟨Bx, 4, none⟩ = some (.slice e.A4 e.x.f0.f4.length e.c4) := (blk_cell bx.out 4).trans rfl
    have hk0 : W.cell? ⟨w.heap.size + 1, 0, none⟩ = some (.int .i64 a2_0) := (blk_cell h1.out 0).trans rfl
    have hk1 : W.cell? ⟨w.heap.size + 1, 1, none⟩ = some (.int .i64 a2_1) := (blk_cell h1.out 1).trans rfl
    have hk2 : W.cell? ⟨w.heap.size + 1, 2, none⟩ = some (.string a2_2) := (blk_cell h1.out 2).trans rfl
    have hk3 : W.cell? ⟨w.heap.size + 1, 3, none⟩ = some (.int .i64 a2_3) := (blk_cell h1.out 3).trans rfl
    have hk4 : W.cell? ⟨w.heap.size + 1, 4, none⟩ = some (.slice A2_4 l2_4.length c2_4) := (blk_cell h1.out 4).trans rfl
    have hd : 1 ≤ 4 - 1 - 1 := by omega
    have hcv : cval k a2_0 a2_1 a2_2 a2_3 l2_4 e.x = c := by simp [cval, show ckey k a2_0 a2_1 a2_2 a2_3 l2_4 e.x = some c from HC0.out]
    have HCV := Aside0.mk hcv
    clear hcv
    have hlt4 := Aside0.mk (Array.getElem?_eq_some_iff.1 h4.out).1
    have hlt5 := Aside0.mk (Array.getElem?_eq_some_iff.1 h5.out).1
    have hlt6 := Aside0.mk (Array.getElem?_eq_some_iff.1 h6.out).1
    have hlt1 := Aside0.mk (Array.getElem?_eq_some_iff.1 h1.out).1
    have hsz := Aside0.mk hB.out.size
    have hne : w.heap.size + 1 + 1 ≠ w.heap.size + 1 + 1 + 1 := by omega
    have HNE := Aside0.mk hne
    clear hne
    by_cases hz0 : c = 0
    · have hp1 : (c == 0) = true := beq_iff_eq.mpr hz0
      have HPOS := Aside0.mk hz0
      clear hz0
      gi_wp2
      refine ⟨trivial, ?_⟩
      refine (CallsIn.inRound l (callsIn_wide.2 (value_Compare.calls k e.x.f0.f0 e.x.f0.f1 e.x.f0.f2 e.x.f0.f3 e.A4 e.c4 e.x.f0.f4 a2_0 a2_1 a2_2 a2_3 A2_4 c2_4 l2_4 c _ (Kd.F_now (Kd.F_below e.rd4 hB.out)) e.le4 (Kd.C_below HR.out hB.out) HC.out HC0.out))).mono ?_
      rintro e_ W3 ⟨rfl, hb3⟩
      have B3 := Aside0.mk hb3
      have h43 := Aside0.mk ((hb3.block _ hlt4.out).trans h4.out)
      have h53 := Aside0.mk ((hb3.block _ hlt5.out).trans h5.out)
      have h63 := Aside0.mk ((hb3.block _ hlt6.out).trans h6.out)
      clear hb3 hx0 hx1 hx2 hx3 hx4 hk0 hk1 hk2 hk3 hk4
      have hr0 : W3.cell? ⟨w.heap.size + 1 + 1, 0, none⟩ = some (.int .i64 0) := (blk_cell h43.out 0).trans rfl
      have hs0 := blk_frozen h43.out 0
      have hq0 : W3.cell? ⟨w.heap.size + 1 + 1 + 1, 0, none⟩ = some (.bool false) := (blk_cell h53.out 0).trans rfl
      have ht0 := blk_frozen h53.out 0
      have hu0 : W3.cell? ⟨w.heap.size + 1 + 1 + 1 + 1, 0, none⟩ = some (.int .i64 (lastIx (pre.map (·.1)))) := (blk_cell h63.out 0).trans rfl
      have hv0 := blk_frozen h63.out 0
      dsimp only
      gi_wp2
      have hb3 := B3.out
      have hne := HNE.out
      refine ⟨(keeps_of_below hb3).trans (((KeepsOthers.setCell _ _ _).trans (KeepsOthers.setCell _ _ _)).from _), (HIx.out _ _ _).2 ⟨pre, _, rfl, H0, ⟨?_⟩, .inl ⟨rfl, ⟨by show cval k a2_0 a2_1 a2_2 a2_3 l2_4 e.x = 0; rw [HCV.out]; exact HPOS.out⟩, ⟨?_⟩, ⟨?_⟩⟩⟩⟩
      · exact ((hB.out.trans (hb3.mono hsz.out)).setCell (p := ⟨w.heap.size + 1 + 1, 0, none⟩) (by simp; omega) _).setCell (p := ⟨w.heap.size + 1 + 1 + 1, 0, none⟩) (by simp; omega) _
      · exact (Below.heap_setCell _ _ _ _ hne).trans (Boxed.set (.int .i64 (ix : Int)) (show Boxed W3 (w.heap.size + 1 + 1) 3 (.int .i64 0) from h43.out))
      · exact Boxed.set (.bool true) (show Boxed (W3.setCell ⟨w.heap.size + 1 + 1, 0, none⟩ _) (w.heap.size + 1 + 1 + 1) 4 (.bool false) from (Below.heap_setCell _ _ _ _ (Ne.symm hne)).trans h53.out)
    · have hp1 : (c == 0) = false := beq_eq_false_iff_ne.mpr hz0
      have HZ0 := Aside0.mk hz0
      by_cases hpos : 0 < c
      · have hp3 : decide (c > 0) = true := decide_eq_true hpos
        have hp2 : decide (0 < c) = true := decide_eq_true hpos
        have HPOS := Aside0.mk hpos
        clear hpos hz0
        gi_wp2
        refine ⟨trivial, ?_⟩
        refine (CallsIn.inRound l (callsIn_wide.2 (value_Compare.calls k e.x.f0.f0 e.x.f0.f1 e.x.f0.f2 e.x.f0.f3 e.A4 e.c4 e.x.f0.f4 a2_0 a2_1 a2_2 a2_3 A2_4 c2_4 l2_4 c _ (Kd.F_now (Kd.F_below e.rd4 hB.out)) e.le4 (Kd.C_below HR.out hB.out) HC.out HC0.out))).mono ?_
        rintro e_ W3 ⟨rfl, hb3⟩
        have B3 := Aside0.mk hb3
        have h43 := Aside0.mk ((hb3.block _ hlt4.out).trans h4.out)
        have h53 := Aside0.mk ((hb3.block _ hlt5.out).trans h5.out)
        have h63 := Aside0.mk ((hb3.block _ hlt6.out).trans h6.out)
        clear hb3 hx0 hx1 hx2 hx3 hx4 hk0 hk1 hk2 hk3 hk4
        have hr0 : W3.cell? ⟨w.heap.size + 1 + 1, 0, none⟩ = some (.int .i64 0) := (blk_cell h43.out 0).trans rfl
        have hs0 := blk_frozen h43.out 0
        have hq0 : W3.cell? ⟨w.heap.size + 1 + 1 + 1, 0, none⟩ = some (.bool false) := (blk_cell h53.out 0).trans rfl
        have ht0 := blk_frozen h53.out 0
        have hu0 : W3.cell? ⟨w.heap.size + 1 + 1 + 1 + 1, 0, none⟩ = some (.int .i64 (lastIx (pre.map (·.1)))) := (blk_cell h63.out 0).trans rfl
        have hv0 := blk_frozen h63.out 0
        dsimp only
        gi_wp2
        have hb3 := B3.out
        refine ⟨keeps_of_below hb3, (HIx.out _ _ _).2 ⟨pre, _, rfl, H0, ⟨hB.out.trans (hb3.mono hsz.out)⟩, .inr ⟨rfl, ⟨by show 0 < cval k a2_0 a2_1 a2_2 a2_3 l2_4 e.x; rw [HCV.out]; exact HPOS.out⟩, h43, h53, h63⟩⟩⟩
      · have hp3 : decide (c > 0) = false := decide_eq_false hpos
        have hp2 : decide (0 < c) = false := decide_eq_false hpos
        have HPOS := Aside0.mk hpos
        clear hpos hz0
        gi_wp2
        refine ⟨trivial, ?_⟩
        refine (CallsIn.inRound l (callsIn_wide.2 (value_Compare.calls k e.x.f0.f0 e.x.f0.f1 e.x.f0.f2 e.x.f0.f3 e.A4 e.c4 e.x.f0.f4 a2_0 a2_1 a2_2 a2_3 A2_4 c2_4 l2_4 c _ (Kd.F_now (Kd.F_below e.rd4 hB.out)) e.le4 (Kd.C_below HR.out hB.out) HC.out HC0.out))).mono ?_
        rintro e_ W3 ⟨rfl, hb3⟩
        have B3 := Aside0.mk hb3
        have h43 := Aside0.mk ((hb3.block _ hlt4.out).trans h4.out)
        have h53 := Aside0.mk ((hb3.block _ hlt5.out).trans h5.out)
        have h63 := Aside0.mk ((hb3.block _ hlt6.out).trans h6.out)
        clear hb3 hx0 hx1 hx2 hx3 hx4 hk0 hk1 hk2 hk3 hk4
        have hr0 : W3.cell? ⟨w.heap.size + 1 + 1, 0, none⟩ = some (.int .i64 0) := (blk_cell h43.out 0).trans rfl
        have hs0 := blk_frozen h43.out 0
        have hq0 : W3.cell? ⟨w.heap.size + 1 + 1 + 1, 0, none⟩ = some (.bool false) := (blk_cell h53.out 0).trans rfl
        have ht0 := blk_frozen h53.out 0
        have hu0 : W3.cell? ⟨w.heap.size + 1 + 1 + 1 + 1, 0, none⟩ = some (.int .i64 (lastIx (pre.map (·.1)))) := (blk_cell h63.out 0).trans rfl
        have hv0 := blk_frozen h63.out 0
        dsimp only
        gi_wp2
        have hb3 := B3.out
        refine ⟨(keeps_of_below hb3).trans ((KeepsOthers.setCell _ _ _).from _), ((hb3.mono hsz.out).trans ((Below.refl _ _).setCell (p := ⟨w.heap.size + 1 + 1 + 1 + 1, 0, none⟩) (by simp; omega) _)), (HI.out _ _).2 ⟨⟨?_⟩, ⟨?_⟩, ⟨?_⟩, ⟨?_⟩, ⟨?_⟩, ⟨?_⟩⟩⟩
        · intro p hp
          rcases List.mem_append.1 hp with hp | hp
          · exact H0.out p hp
          · obtain rfl := List.mem_singleton.1 hp
            show cval k a2_0 a2_1 a2_2 a2_3 l2_4 e.x < 0
            rw [HCV.out]
            have h1_ := HPOS.out
            have h2_ := HZ0.out
            omega
        · exact (Below.heap_setCell _ _ _ _ (by simp)).trans ((hb3.block _ hlt1.out).trans h1.out)
        · exact (Below.heap_setCell _ _ _ _ (by simp)).trans h43.out
        · exact (Below.heap_setCell _ _ _ _ (by simp)).trans h53.out
        · rw [List.map_append, List.map_cons, List.map_nil, lastIx_snoc]
          exact Boxed.set _ (show Boxed W3 (w.heap.size + 1 + 1 + 1 + 1) 3 _ from h63.out)
        · exact (hB.out.trans (hb3.mono hsz.out)).setCell (p := ⟨w.heap.size + 1 + 1 + 1 + 1, 0, none⟩) (by simp; omega) _
  case done =>
    intro D ys W hD hys hi_ hK
    obtain ⟨H0, h1, h4, h5, h6, hB⟩ := (HI.out _ _).1 hi_
    clear hi_
    have hr0 : W.cell? ⟨w.heap.size + 1 + 1, 0, none⟩ = some (.int .i64 0) := (blk_cell h4.out 0).trans rfl
    have hs0 := blk_frozen h4.out 0
    have hq0 : W.cell? ⟨w.heap.size + 1 + 1 + 1, 0, none⟩ = some (.bool false) := (blk_cell h5.out 0).trans rfl
    have ht0 := blk_frozen h5.out 0
    have hu0 : W.cell? ⟨w.heap.size + 1 + 1 + 1 + 1, 0, none⟩ = some (.int .i64 (lastIx (ys.map (·.1)))) := (blk_cell h6.out 0).trans rfl
    have hv0 := blk_frozen h6.out 0
    have HK := Aside0.mk hK
    have HD := Aside0.mk hD
    have HYS := Aside0.mk hys
    clear hK hD hys
    go_wp2_with (first | (with_reducible refine wp_label ?_) | ((with_reducible refine Opn.wp_scope_nog ?sc ?_); (case sc => funext e_ a_ w_; cases e_ <;> rfl)))
    have hne : w.heap.size + 1 + 1 ≠ w.heap.size + 1 + 1 + 1 := by omega
    have hmx : es.length ≤ 9223372036854775807 := by have h_ := HMX.out; rw [← HES.out, List.length_map] at h_; exact h_
    have hlast : lastIx (ys.map (·.1)) = (es.length : Int) := by
      rw [HYS.out, lastIx_en hmx (List.prefix_refl _), en_length]
    have hf := HH.out
    rw [← HES.out, show es.map (·.x) = es.map (·.x) ++ [] from (List.append_nil _).symm, placeOf_app _ _ _ (fun x hx => by
      obtain ⟨e, he, rfl⟩ := List.mem_map.1 hx
      obtain ⟨p, hp, rfl⟩ := en_mem he
      rw [← HYS.out] at hp
      obtain ⟨q, hq, rfl⟩ := List.mem_map.1 hp
      exact H0.out q hq)] at hf
    simp only [placeOf, Prod.mk.injEq, List.length_map, Int.zero_add] at hf
    obtain ⟨rfl, rfl⟩ := hf
    rw [hlast]
    have hK' := ((KeepsOthers.setCell W ⟨w.heap.size + 1 + 1, 0, none⟩ (.int .i64 (es.length : Int))).trans (KeepsOthers.setCell _ ⟨w.heap.size + 1 + 1 + 1, 0, none⟩ (.bool false))).same D _ HK.out rfl
    have r4 := (Below.heap_setCell (W.setCell ⟨w.heap.size + 1 + 1, 0, none⟩ (.int .i64 (es.length : Int))) ⟨w.heap.size + 1 + 1 + 1, 0, none⟩ (.bool false) _ hne).trans (Boxed.set (.int .i64 (es.length : Int)) (show Boxed W (w.heap.size + 1 + 1) 3 (.int .i64 0) from h4.out))
    have r5 := Boxed.set (.bool false) (show Boxed (W.setCell ⟨w.heap.size + 1 + 1, 0, none⟩ (.int .i64 (es.length : Int))) (w.heap.size + 1 + 1 + 1) 4 (.bool false) from (Below.heap_setCell _ _ _ _ (Ne.symm hne)).trans h5.out)
    have q4 := (blk_from (B := 0) ⟨r4⟩ (grownBy_putObj' _ D (.deferred none)) (fun r e => by cases e; exact ⟨Nat.zero_le _, _, hK', rfl⟩)).out
    have q5 := (blk_from (B := 0) ⟨r5⟩ (grownBy_putObj' _ D (.deferred none)) (fun r e => by cases e; exact ⟨Nat.zero_le _, _, hK', rfl⟩)).out
    show LeavesInM Fence.wide 5 Try.prog Try.f37 _ _ _ .returning _
    refine ⟨by simp, .inl ⟨_, _, rfl, run_takeDeferred hK', ?_⟩⟩
    refine ⟨.tuple #[.int .i64 (es.length : Int), .bool false], ?_, rfl, ((hB.out.setCell (p := ⟨w.heap.size + 1 + 1, 0, none⟩) (by simp; omega) _).setCell (p := ⟨w.heap.size + 1 + 1 + 1, 0, none⟩) (by simp; omega) _).trans (belowK_b (w := w) (Nat.le_refl _) _ D _ _ (Nat.le_trans HB0.out.size HD.out) hK' rfl rfl)⟩
    have c0 := (blk_cell q4 0).trans rfl
    have c1 := (blk_cell q5 0).trans rfl
    simp [results, Try.f37, go_sem, c0, c1]
  case stop =>
    intro D c pre W hD hpre hi_ hK
    obtain ⟨init, x, rfl, h0, hB, ⟨rfl, hz, h4, h5⟩ | ⟨rfl, hz, h4, h5, h6⟩⟩ := (HIx.out _ _ _).1 hi_
    · have HK := Aside0.mk hK
      have HD := Aside0.mk hD
      have HPRE := Aside0.mk hpre
      clear hK hD hpre hi_
      refine wpIn_wide.2 ?_
      go_wp2_with (first | (with_reducible refine wp_label ?_) | ((with_reducible refine Opn.wp_scope_nog ?sc ?_); (case sc => funext e_ a_ w_; cases e_ <;> rfl)))
      obtain ⟨hix, tl, htl⟩ := en_split HPRE.out
      have hf := HH.out
      rw [← HES.out, htl, placeOf_app _ _ _ (fun y hy => by obtain ⟨q, hq, rfl⟩ := List.mem_map.1 hy; exact h0.out q hq)] at hf
      simp only [placeOf, if_pos hz.out, Prod.mk.injEq, List.length_map, Int.zero_add] at hf
      obtain ⟨rfl, rfl⟩ := hf
      rw [hix] at h4
      have hK := HK.out
      have q4 := (blk_from (B := 0) h4 (grownBy_putObj' _ D (.deferred none)) (fun r e => by cases e; exact ⟨Nat.zero_le _, _, hK, rfl⟩)).out
      have q5 := (blk_from (B := 0) h5 (grownBy_putObj' _ D (.deferred none)) (fun r e => by cases e; exact ⟨Nat.zero_le _, _, hK, rfl⟩)).out
      show LeavesInM Fence.wide 5 Try.prog Try.f37 _ _ _ .returning _
      refine ⟨by simp, .inl ⟨_, _, rfl, run_takeDeferred hK, ?_⟩⟩
      refine ⟨.tuple #[.int .i64 (init.length : Int), .bool true], ?_, rfl, hB.out.trans (belowK_b (w := w) (Nat.le_refl _) W D (.deferred (some [])) (.deferred none) (Nat.le_trans HB0.out.size HD.out) hK rfl rfl)⟩
      have c0 := (blk_cell q4 0).trans rfl
      have c1 := (blk_cell q5 0).trans rfl
      simp [results, Try.f37, go_sem, c0, c1]
    · have HK := Aside0.mk hK
      have HD := Aside0.mk hD
      have HPRE := Aside0.mk hpre
      clear hK hD hpre hi_
      have hr0 : W.cell? ⟨w.heap.size + 1 + 1, 0, none⟩ = some (.int .i64 0) := (blk_cell h4.out 0).trans rfl
      have hs0 := blk_frozen h4.out 0
      have hq0 : W.cell? ⟨w.heap.size + 1 + 1 + 1, 0, none⟩ = some (.bool false) := (blk_cell h5.out 0).trans rfl
      have ht0 := blk_frozen h5.out 0
      have hu0 : W.cell? ⟨w.heap.size + 1 + 1 + 1 + 1, 0, none⟩ = some (.int .i64 (lastIx (init.map (·.1)))) := (blk_cell h6.out 0).trans rfl
      have hv0 := blk_frozen h6.out 0
      refine wpIn_wide.2 ?_
      go_wp2_with (first | (with_reducible refine wp_label ?_) | ((with_reducible refine Opn.wp_scope_nog ?sc ?_); (case sc => funext e_ a_ w_; cases e_ <;> rfl)))
      obtain ⟨hix, tl, htl⟩ := en_split HPRE.out
      have hne : w.heap.size + 1 + 1 ≠ w.heap.size + 1 + 1 + 1 := by omega
      have hmx : es.length ≤ 9223372036854775807 := by have h_ := HMX.out; rw [← HES.out, List.length_map] at h_; exact h_
      have hpre2 : init.map (·.1) <+: en es := ((List.prefix_append init [x]).map _).trans HPRE.out
      have hlast : lastIx (init.map (·.1)) = (init.length : Int) := by rw [lastIx_en hmx hpre2, List.length_map]
      have hf := HH.out
      rw [← HES.out, htl, placeOf_app _ _ _ (fun y hy => by obtain ⟨q, hq, rfl⟩ := List.mem_map.1 hy; exact h0.out q hq)] at hf
      simp only [placeOf] at hf
      rw [if_neg (by have h_ := hz.out; omega), if_pos hz.out] at hf
      simp only [Prod.mk.injEq, List.length_map, Int.zero_add] at hf
      obtain ⟨rfl, rfl⟩ := hf
      rw [hlast]
      have hK' := ((KeepsOthers.setCell W ⟨w.heap.size + 1 + 1, 0, none⟩ (.int .i64 (init.length : Int))).trans (KeepsOthers.setCell _ ⟨w.heap.size + 1 + 1 + 1, 0, none⟩ (.bool false))).same D _ HK.out rfl
      have r4 := (Below.heap_setCell (W.setCell ⟨w.heap.size + 1 + 1, 0, none⟩ (.int .i64 (init.length : Int))) ⟨w.heap.size + 1 + 1 + 1, 0, none⟩ (.bool false) _ hne).trans (Boxed.set (.int .i64 (init.length : Int)) (show Boxed W (w.heap.size + 1 + 1) 3 (.int .i64 0) from h4.out))
      have r5 := Boxed.set (.bool false) (show Boxed (W.setCell ⟨w.heap.size + 1 + 1, 0, none⟩ (.int .i64 (init.length : Int))) (w.heap.size + 1 + 1 + 1) 4 (.bool false) from (Below.heap_setCell _ _ _ _ (Ne.symm hne)).trans h5.out)
      have q4 := (blk_from (B := 0) ⟨r4⟩ (grownBy_putObj' _ D (.deferred none)) (fun r e => by cases e; exact ⟨Nat.zero_le _, _, hK', rfl⟩)).out
      have q5 := (blk_from (B := 0) ⟨r5⟩ (grownBy_putObj' _ D (.deferred none)) (fun r e => by cases e; exact ⟨Nat.zero_le _, _, hK', rfl⟩)).out
      show LeavesInM Fence.wide 5 Try.prog Try.f37 _ _ _ .returning _
      refine ⟨by simp, .inl ⟨_, _, rfl, run_takeDeferred hK', ?_⟩⟩
      refine ⟨.tuple #[.int .i64 (init.length : Int), .bool false], ?_, rfl, ((hB.out.setCell (p := ⟨w.heap.size + 1 + 1, 0, none⟩) (by simp; omega) _).setCell (p := ⟨w.heap.size + 1 + 1 + 1, 0, none⟩) (by simp; omega) _).trans (belowK_b (w := w) (Nat.le_refl _) _ D _ _ (Nat.le_trans HB0.out.size HD.out) hK' rfl rfl)⟩
      have c0 := (blk_cell q4 0).trans rfl
      have c1 := (blk_cell q5 0).trans rfl
      simp [results, Try.f37, go_sem, c0, c1]
end Go.Proofs.Ytnokieaebnmljaa.PAll
namespace Go.Proofs.Ytnokieaebnmljaa.PAll
open Go Go.Proofs Go.RowKit Go.Shelf Go.Proofs.YtnokieaebnmljaaW.PrintWords Go.Proofs.YtnokieaebnmljaaW.PrintLast Go.Proofs.YtnokieaebnmljaaW.PrintMore
attribute [local go_sem] Oper.semAt_some
set_option linter.unusedVariables false
set_option linter.unusedSimpArgs false
/-- A map's rows as a state's row has them. -/
structure SE (w0 : World) (ok : Nat → Prop) where
  x : List S82
  A : Option Addr
  c : Nat
  le : x.length ≤ c
  rd : Kd.F k82 w0 ok A x.length x
def SE.v {w0 : World} {ok : Nat → Prop} (e : SE w0 ok) : Value := .slice e.A e.x.length e.c
theorem se_of {w0 : World} {ok : Nat → Prop} {A : Option Addr} {l : List (List S82)} (h : Kd.F (Kd.slice 82 k82) w0 ok A l.length l) : ∃ es : List (SE w0 ok), es.map (·.x) = l ∧ ∀ i (hi : i < es.length), ∃ ad, A = some ad ∧ w0.cell? (ad.add i) = some es[i].v := by
  have hx : ∀ i (hi : i < l.length), ∃ e : SE w0 ok, e.x = l[i] ∧ ∃ ad, A = some ad ∧ w0.cell? (ad.add i) = some e.v := by
    intro i hi
    obtain ⟨ad, cs, ha, hcl, hK, hcc, _⟩ := Kd.F_get h ([] : List S82) (i : Int) (by omega) (by omega)
    have er : l.getD (i : Int).toNat ([] : List S82) = l[i] := by simp [hi]
    rw [er] at hK
    rw [Int.toNat_natCast] at hcc
    obtain ⟨Am, cm, rfl, hle, hFm⟩ := Kd.FK_slice_open hK
    have h0 := hcc 0 _ rfl
    rw [show (Kd.slice 82 k82).sz = 1 from rfl, Nat.mul_one, Nat.add_zero] at h0
    exact ⟨⟨l[i], Am, cm, hle, hFm⟩, rfl, ad, ha, h0⟩
  refine ⟨List.ofFn (fun i : Fin l.length => Classical.choose (hx i.1 i.2)), ?_, ?_⟩
  · apply List.ext_getElem
    · simp
    · intro i h1 h2
      simp only [List.getElem_map, List.getElem_ofFn]
      exact (Classical.choose_spec (hx i h2)).1
  · intro i hi
    have hi' : i < l.length := by simpa using hi
    simp only [List.getElem_ofFn]
    exact (Classical.choose_spec (hx i hi')).2
/-- A row of maps in a block of the call's own. -/
theorem N_of_se {W : World} {base g cap : Nat} {ok okr : Nat → Prop} (ses : List (SE W okr)) (cur : Array Value) (hg : W.heap[g]? = some (.cells cur 41 (0, 0))) (hcur : cur.toList.take ses.length = ses.map SE.v) (hcs : cur.size = cap) (hb : base ≤ g) (hokg : ok g) (hcap : ses.length ≤ cap) (hmax : cap ≤ maxLen) (hok : ∀ k, okr k → ok k ∧ k ≠ g) :
    Kd.N (Kd.slice 82 k82) 41 W base ok (.slice (some ⟨g, 0, none⟩) ses.length cap) (ses.map (·.x)) := by
  refine ⟨fun k hk => ?_, ses.map (fun e => [e.v]), by simp, ⟨fun k hk => hk.symm, ses.map SE.v, ?_, ?_⟩, ?_⟩
  · simp [Value.ownBlock] at hk
    rw [← hk]
    exact hokg
  · refine ⟨by rw [List.length_map, List.length_map]; exact (Nat.mul_one _).symm, .inr ⟨g, cap, cur, by simp, hb, hg, by simpa using hcap, hmax, by rw [hcs]; simp [show (Kd.raw (Kd.slice 82 k82).sz).sz = 1 from rfl], ?_⟩⟩
    simp only [List.length_map]
    rw [show ses.length * (Kd.raw (Kd.slice 82 k82).sz).sz = ses.length from Nat.mul_one _]
    exact hcur
  · refine ⟨by rw [List.length_map, List.length_map]; exact (Nat.mul_one _).symm, fun j p hj => ?_⟩
    rw [List.getElem?_map] at hj
    cases he : ses[j]? with
    | none => rw [he] at hj; cases hj
    | some e =>
      rw [he] at hj
      obtain rfl := Option.some.inj hj
      obtain ⟨hjl, hje⟩ := List.getElem?_eq_some_iff.1 he
      have hd : (List.map SE.v ses).drop (j * 1) = e.v :: (List.map SE.v ses).drop (j + 1) := by
        rw [Nat.mul_one, List.drop_eq_getElem_cons (by simpa using hjl), List.getElem_map, hje]
      show ((List.map SE.v ses).drop (j * 1)).take 1 = [e.v] ∧ (((List.map SE.v ses).drop (j * 1)).take 1).length = 1 ∧ ∀ u ∈ ((List.map SE.v ses).drop (j * 1)).take 1, u.oneCell' = true
      rw [hd]
      simp [SE.v, Value.oneCell']
  · intro j x c hx hc
    rw [List.getElem?_map] at hx hc
    cases he : ses[j]? with
    | none => rw [he] at hx; cases hx
    | some e =>
      rw [he] at hx hc
      obtain rfl := Option.some.inj hx
      obtain rfl := Option.some.inj hc
      exact Kd.FK_mono (Kd.FK_slice_mk e.le e.rd) (fun k hk => ⟨(hok k hk).1, by simp [Value.ownBlock]; exact (hok k hk).2⟩)
/-- The same row, read in a later world that has all below. -/
def SE.later {w W : World} {ok : Nat → Prop} (hb : Below w.heap.size w W) (e : SE w ok) : SE W (fun k => ok k ∧ k < w.heap.size) := ⟨e.x, e.A, e.c, e.le, Kd.F_old e.rd hb⟩
def SE.wide {W : World} {ok ok' : Nat → Prop} (h : ∀ k, ok k → ok' k) (e : SE W ok) : SE W ok' := ⟨e.x, e.A, e.c, e.le, Kd.F_mono e.rd h⟩
def heap_with.f (l0_0 : List (List S82)) (a1 : Int) (l2 : List S82) : Option (List (List S82)) :=
  if l0_0.length ≤ 11728124029610 ∧ 0 ≤ a1 ∧ a1 < (l0_0.length : Int) then some (l0_0.set a1.toNat l2) else none
set_option maxHeartbeats 8000000 in
set_option maxRecDepth 100000 in
theorem heap_with.calls (P0_0_ : Nat → Prop) (A0_0 : Option Addr) (c0_0 : Nat) (l0_0 : List (List (S82))) (a1 : Int) (P2_ : Nat → Prop) (A2 : Option Addr) (c2 : Nat) (l2 : List (S82)) (r : List (List (S82))) (w : World) (hs0_0 : Kd.V (Kd.slice 82 k82) 41 w w.heap.size (fun k_ => P0_0_ k_) (.slice A0_0 l0_0.length c0_0) l0_0) (hs2 : Kd.V k82 82 w w.heap.size (fun k_ => P2_ k_) (.slice A2 l2.length c2) l2) (h : heap_with.f l0_0 a1 l2 = some r) :
    Calls Try.prog 38 #[.agg #[.slice A0_0 l0_0.length c0_0], .int .i64 a1, .slice A2 l2.length c2] w fun e w' => ∃ v0_ : Value, e = .returned (.agg #[v0_]) ∧ Kd.N (Kd.slice 82 k82) 41 w' w.heap.size (fun k_ => ((P0_0_ k_ ∨ P2_ k_) ∨ w.heap.size ≤ k_)) v0_ r ∧ Below w.heap.size w w' := by
  have hu27 := Try.underlying27
  unfold heap_with.f at h
  by_cases hg : l0_0.length ≤ 11728124029610 ∧ 0 ≤ a1 ∧ a1 < (l0_0.length : Int)
  case neg => rw [if_neg hg] at h; exact absurd h (by simp)
  rw [if_pos hg] at h
  obtain rfl := Option.some.inj h
  obtain ⟨hlen, hm0, hm1⟩ := hg
  obtain ⟨hn2, hle2, hF2⟩ := Kd.V_at hs2
  obtain ⟨ses, hses, hcells⟩ := se_of (Kd.V_F hs0_0)
  have hsl : ses.length = l0_0.length := by rw [← hses, List.length_map]
  obtain ⟨ad0, rfl, hx0⟩ := hcells 0 (by omega)
  have hsrc : ∀ j v, (ses.map SE.v)[j]? = some v → w.cell? (ad0.add j) = some v := by
    intro j v hj
    rw [List.getElem?_map] at hj
    cases he : ses[j]? with
    | none => rw [he] at hj; cases hj
    | some e =>
      rw [he] at hj
      obtain rfl := Option.some.inj hj
      obtain ⟨hjl, rfl⟩ := List.getElem?_eq_some_iff.1 he
      obtain ⟨ad, h1, h2⟩ := hcells j hjl
      cases h1
      exact h2
  obtain ⟨i0, hi, hz0, hz1, hz2⟩ := info_parts info41
  have hsz41 : (Try.prog.info? 41).map (·.size) = some 1 := by rw [hi]; simp [hz1]
  obtain ⟨M, hM⟩ : ∃ M, M = madeCells (Value.slice none 0 0).cells (((l0_0.length : Nat) : Int).toNat * i0.size) := ⟨_, rfl⟩
  have hMs : M.size = l0_0.length := by rw [hM, size_madeCells, hz1]; simp
  have hmk : ∀ W : World, (Instr.makeSlice 25 (.int .i64 (l0_0.length : Int)) (.int .i64 (l0_0.length : Int))).run Try.prog W = .ok (.slice (some ⟨W.heap.size, 0, none⟩) l0_0.length l0_0.length) (W.alloc (.cells M 41)) := fun W => by
    have h := run_make (P := Try.prog) W 25 41 i0 (.slice none 0 0) Try.underlying25 hi hz0 .i64 .i64 (l0_0.length : Int) (l0_0.length : Int) (by omega) (by omega) (by rw [hz2]; omega) (by omega)
    rw [← hM] at h
    simpa using h
  have HSES := Aside0.mk hses
  have HSRC := Aside0.mk hsrc
  have HSL := Aside0.mk hsl
  have HMS := Aside0.mk hMs
  have HS2 := Aside0.mk (And.intro hle2 hF2)
  have HLEN := Aside0.mk hlen
  have HI := Aside0.mk hsz41
  clear hx0 hM hs0_0 hs2 hcells hses hsrc hsl hMs hn2 hle2 hF2 hlen hi hz0 hz1 hz2 hsz41
  go_enter Try.func38, Try.ntmps38
  go_wp2
  obtain ⟨g, hgd⟩ : ∃ g, g = w.heap.size + 1 + 1 := ⟨_, rfl⟩
  obtain ⟨W4, hW4⟩ : ∃ W4, W4 = (((w.alloc (Obj.cells #[.slice (some ad0) l0_0.length c0_0] 27)).alloc (Obj.cells #[.slice none 0 0] 27)).alloc (Obj.cells M 41)).alloc (Obj.cells #[.slice (some ⟨w.heap.size + 1 + 1, 0, none⟩) l0_0.length l0_0.length] 27) := ⟨_, rfl⟩
  have hB4 : Below w.heap.size w W4 := by
    rw [hW4]
    exact (((((Below.refl _ w).alloc (Nat.le_refl _) _).alloc (by simp) _).alloc (by simp; omega) _).alloc (by simp; omega) _)
  have R1 : W4.heap[w.heap.size + 1]? = some (.cells #[.slice none 0 0] 27 (0, 0)) := by
    rw [hW4]
    exact blk_alloc (blk_alloc (by have h_ := World.alloc_heap_new (w.alloc (Obj.cells #[.slice (some ad0) l0_0.length c0_0] 27)) (Obj.cells #[.slice none 0 0] 27); rwa [World.size_alloc] at h_) _) _
  have R2 : W4.heap[g]? = some (.cells M 41 (0, 0)) := by
    rw [hW4, hgd]
    exact blk_alloc (by have h_ := World.alloc_heap_new ((w.alloc (Obj.cells #[.slice (some ad0) l0_0.length c0_0] 27)).alloc (Obj.cells #[.slice none 0 0] 27)) (Obj.cells M 41); rwa [World.size_alloc, World.size_alloc] at h_) _
  have R3 : W4.heap[g + 1]? = some (.cells #[.slice (some ⟨g, 0, none⟩) l0_0.length l0_0.length] 27 (0, 0)) := by
    rw [hW4, hgd]
    have h_ := World.alloc_heap_new (((w.alloc (Obj.cells #[.slice (some ad0) l0_0.length c0_0] 27)).alloc (Obj.cells #[.slice none 0 0] 27)).alloc (Obj.cells M 41)) (Obj.cells #[.slice (some ⟨w.heap.size + 1 + 1, 0, none⟩) l0_0.length l0_0.length] 27)
    rwa [World.size_alloc, World.size_alloc, World.size_alloc] at h_
  rw [← hW4]
  rw [← hgd]
  have hcs1 : (ses.map SE.v).length = l0_0.length := by rw [List.length_map]; exact HSL.out
  have hcp := run_copy_row (P := Try.prog) W4 25 25 3 41 g 0 l0_0.length l0_0.length ad0 l0_0.length c0_0 M 41 (ses.map SE.v) Try.underlying25 HI.out R2 (by rw [hcs1]; exact (Nat.min_self _).symm) (fun j v hj => El.cell hB4 (HSRC.out j v hj)) (by rw [hcs1, HMS.out]; omega) (by intro v hv; obtain ⟨e, _, rfl⟩ := List.mem_map.1 hv; simp [SE.v, Value.oneCell'])
  obtain ⟨Y, hY⟩ : ∃ Y, Y = (M.toList.take 0 ++ ses.map SE.v ++ M.toList.drop (0 + (ses.map SE.v).length)).toArray := ⟨_, rfl⟩
  rw [← hY] at hcp
  have hYl : Y.toList = ses.map SE.v := by
    rw [hY, List.toList_toArray, List.take_zero, List.nil_append, List.drop_of_length_le (by rw [Array.length_toList, hcs1, HMS.out]; omega), List.append_nil]
  have hYs : Y.size = l0_0.length := by rw [← Array.length_toList, hYl, hcs1]
  rw [hcp]
  obtain ⟨W5, hW5⟩ : ∃ W5, W5 = W4.setRow g Y := ⟨_, rfl⟩
  rw [← hW5]
  have S2 : W5.heap[g]? = some (.cells Y 41 (0, 0)) := by rw [hW5]; exact setRow_heap _ _ M _ 41 (0, 0) R2
  have S1 : W5.heap[w.heap.size + 1]? = some (.cells #[.slice none 0 0] 27 (0, 0)) := by rw [hW5]; exact (setRow_other _ _ _ _ (by omega)).trans R1
  have S3 : W5.heap[g + 1]? = some (.cells #[.slice (some ⟨g, 0, none⟩) l0_0.length l0_0.length] 27 (0, 0)) := by rw [hW5]; exact (setRow_other _ _ _ _ (by omega)).trans R3
  have hB5 : Below w.heap.size w W5 := by rw [hW5]; exact hB4.trans ⟨rfl, rfl, rfl, by simp [World.setRow], fun k hk => setRow_other _ _ _ _ (by omega)⟩
  have hc3 : W5.cell? ⟨g + 1, 0, none⟩ = some (.slice (some ⟨g, 0, none⟩) l0_0.length l0_0.length) := (blk_cell S3 0).trans rfl
  have hc1 : W5.cell? ⟨w.heap.size + 1, 0, none⟩ = some (.slice none 0 0) := (blk_cell S1 0).trans rfl
  have hf1 := blk_frozen S1 0
  obtain ⟨n, hn⟩ : ∃ n : Nat, a1 = (n : Int) := ⟨a1.toNat, by omega⟩
  subst hn
  have hnl : n < l0_0.length := by omega
  have hcm : ∃ u, W5.cell? ⟨g, n, none⟩ = some u := ⟨Y[n]'(by omega), (blk_cell S2 n).trans (by simp [show n < Y.size from by omega])⟩
  obtain ⟨u, hcm⟩ := hcm
  have hfm := blk_frozen S2 n
  have HB5 := Aside0.mk hB5
  have HS1 := Aside0.mk S1
  have HSS2 := Aside0.mk S2
  have HSS3 := Aside0.mk S3
  have HY := Aside0.mk (And.intro hYl hYs)
  have HGD := Aside0.mk hgd
  clear hW4 hW5 hcp R1 R2 R3 S1 S2 S3 hB4 hB5 hYl hYs hY hgd hcs1 hmk
  have hne1 : (w.heap.size + 1 = g) = False := eq_false (by have := HGD.out; omega)
  have hne2 : (g = w.heap.size + 1) = False := eq_false (by have := HGD.out; omega)
  have hne3 : (g + 1 = w.heap.size + 1) = False := eq_false (by have := HGD.out; omega)
  have hne4 : (w.heap.size + 1 = g + 1) = False := eq_false (by have := HGD.out; omega)
  have HNL := Aside0.mk hnl
  dsimp only [Result.andThen]
  go_wp2
  obtain ⟨W7, hW7⟩ : ∃ W7, W7 = (W5.setCell ⟨g, n, none⟩ (.slice A2 l2.length c2)).setCell ⟨w.heap.size + 1, 0, none⟩ (.slice (some ⟨g, 0, none⟩) l0_0.length l0_0.length) := ⟨_, rfl⟩
  rw [← hW7]
  have hgd := HGD.out
  have hB7 : Below w.heap.size w W7 := by
    rw [hW7]
    exact (HB5.out.setCell (p := ⟨g, n, none⟩) (by simp; omega) _).setCell (p := ⟨w.heap.size + 1, 0, none⟩) (by simp) _
  have T2 : W7.heap[g]? = some (.cells (Y.setIfInBounds n (.slice A2 l2.length c2)) 41 (0, 0)) := by
    rw [hW7]
    exact (Below.heap_setCell _ _ _ _ (by simp; omega)).trans (blk_put HSS2.out n _ rfl)
  have T1 : W7.heap[w.heap.size + 1]? = some (.cells #[.slice (some ⟨g, 0, none⟩) l0_0.length l0_0.length] 27 (0, 0)) := by
    rw [hW7]
    exact Boxed.set _ (show Boxed _ (w.heap.size + 1) 27 (.slice none 0 0) from (Below.heap_setCell _ _ _ _ (by simp; omega)).trans HS1.out)
  have hc9 := (blk_cell T1 0).trans (show (#[Value.slice (some ⟨g, 0, none⟩) l0_0.length l0_0.length])[0]? = some (.slice (some ⟨g, 0, none⟩) l0_0.length l0_0.length) from rfl)
  refine bodyPost_ret (v := .agg #[.slice (some ⟨g, 0, none⟩) l0_0.length l0_0.length]) ?_ rfl ⟨_, rfl, ?_, hB7⟩
  · simp [results, Try.f38, go_sem, hc9, hu27]
  · obtain ⟨okr, hokr⟩ : ∃ okr : Nat → Prop, okr = fun k => (P0_0_ k ∨ P2_ k) ∧ k < w.heap.size := ⟨_, rfl⟩
    obtain ⟨ses2, hs2⟩ : ∃ ses2 : List (SE W7 okr), ses2 = (ses.map (fun e => SE.wide (ok' := okr) (fun k hk => by rw [hokr]; exact ⟨.inl hk.1, hk.2⟩) (SE.later hB7 e))).set n ⟨l2, A2, c2, HS2.out.1, by rw [hokr]; exact Kd.F_mono (Kd.F_old HS2.out.2 hB7) (fun k hk => ⟨.inr hk.1, hk.2⟩)⟩ := ⟨_, rfl⟩
    have hl2 : ses2.length = l0_0.length := by rw [hs2, List.length_set, List.length_map]; exact HSL.out
    have hv2 : ses2.map SE.v = (ses.map SE.v).set n (.slice A2 l2.length c2) := by
      rw [hs2, List.map_set, List.map_map]
      rfl
    have hx2 : ses2.map (·.x) = l0_0.set n l2 := by
      rw [hs2, List.map_set, List.map_map, ← HSES.out]
      rfl
    have hN := N_of_se (W := W7) (base := w.heap.size) (g := g) (cap := l0_0.length) (ok := fun k_ => ((P0_0_ k_ ∨ P2_ k_) ∨ w.heap.size ≤ k_)) ses2 _ T2 (by rw [hl2, hv2, Array.toList_setIfInBounds, HY.out.1]; exact List.take_of_length_le (by rw [List.length_set, List.length_map]; exact Nat.le_of_eq HSL.out)) (by rw [Array.size_setIfInBounds]; exact HY.out.2) (by omega) (.inr (by omega)) (by omega) (by have := HLEN.out; exact Nat.le_trans this (by decide)) (fun k hk => by rw [hokr] at hk; exact ⟨.inl hk.1, by omega⟩)
    rw [hl2, hx2] at hN
    rw [Int.toNat_natCast]
    exact hN
end Go.Proofs.Ytnokieaebnmljaa.PAll
namespace Go.Proofs.Ytnokieaebnmljaa.PAll
open Go Go.Proofs Go.RowKit Go.Shelf Go.Proofs.YtnokieaebnmljaaW.PrintWords Go.Proofs.YtnokieaebnmljaaW.PrintLast Go.Proofs.YtnokieaebnmljaaW.PrintMore
set_option linter.unusedVariables false
set_option linter.unusedSimpArgs false
/-- append onto a cut without room ('x[:i:i]'), of what is only read: what comes lies in a block of its own. -/
theorem append_full_run {α : Type} (d : Kd α) {P : Program} {W : World} (base : Nat) (t ty e : TypeId) (z : Value) (bytes : Nat)
    (ht : P.underlying t = some (.slice e)) (hinfo : (P.info? e).map (fun i => (i.zero, i.size, i.bytes)) = some (some z, d.sz, bytes)) (hz : z.cells.size = d.sz) (hs0 : 0 < d.sz) (hb0 : 0 < bytes)
    (xs ys : List α) (Ax : Option Addr) (ad : Addr) (m c : Nat) (ok okx oky : Nat → Prop)
    (HX : Kd.F d W okx Ax xs.length xs) (HY : Kd.F d W oky (some ad) m ys) (hAx : Ax = none → xs.length = 0) (hm : 0 < m) (hokx : ∀ k, okx k → ok k) (hoky : ∀ k, oky k → ok k) (hfresh : ∀ k, W.heap.size ≤ k → ok k)
    (hbase : base ≤ W.heap.size) (hl : (xs.length + m) * bytes ≤ 140737488355328) :
    ∃ v1 w1, (Builtin.append_ #[t, t] ty #[.slice Ax xs.length xs.length, .slice (some ad) m c]).run P W = .ok v1 w1 ∧ Kd.N d e w1 base ok v1 (xs ++ ys) ∧ W.grownBy w1 none ∧ ∃ b, v1.ownBlock = some b ∧ W.heap.size ≤ b := by
  obtain ⟨i0, hi, hzz⟩ := Option.map_eq_some_iff.1 hinfo
  simp only [Prod.mk.injEq] at hzz
  obtain ⟨hz0, hz1, hz2⟩ := hzz
  have hlen : xs.length + m ≤ 140737488355328 := Nat.le_trans (Nat.le_mul_of_pos_right _ hb0) hl
  obtain ⟨rx, hxl, hxr, hxf⟩ := Kd.reads_raw (Kd.F_rows HX) (fun y c hk => ⟨d.K_len (Kd.FK_now hk), d.K_one (Kd.FK_now hk)⟩)
  obtain ⟨ry, hyl, hyr, hyf⟩ := Kd.reads_raw (Kd.F_rows HY) (fun y c hk => ⟨d.K_len (Kd.FK_now hk), d.K_one (Kd.FK_now hk)⟩)
  obtain ⟨news, hnr, hnc⟩ := ReadsRow.inner_ hyr
  have hone : ∀ u ∈ news, u.oneCell' = true := by
    intro u hu
    obtain ⟨q, hq, rfl⟩ := List.mem_iff_getElem.1 hu
    have hql : q / d.sz < ry.length := by
      rw [Nat.div_lt_iff_lt_mul hs0]
      rw [← hnr.1]
      exact hq
    have hc := hnr.2 (q / d.sz) _ (List.getElem?_eq_getElem hql)
    refine hc.2.2 _ ?_
    rw [List.mem_iff_getElem?]
    refine ⟨q % d.sz, ?_⟩
    rw [List.getElem?_take, if_pos (Nat.mod_lt _ hs0), List.getElem?_drop, Nat.mul_comm, Nat.div_add_mod, List.getElem?_eq_getElem hq]
  have hym : ry.length = m := hyr.1
  have hrun : ∃ v1 w1 olds, (Builtin.append_ #[t, t] ty #[.slice Ax xs.length xs.length, .slice (some ad) m c]).run P W = .ok v1 w1 ∧ Reps (fun x cs => cs = x ∧ cs.length = d.sz ∧ ∀ u ∈ cs, u.oneCell' = true) d.sz rx olds ∧ w1.ownsRow W.heap.size e d.sz v1 (xs.length + m) (olds ++ news) ∧ W.grownBy w1 none := by
    cases Ax with
    | some b =>
      obtain ⟨olds, hor, hoc⟩ := ReadsRow.inner_ hxr
      obtain ⟨v', w', h1, h2, h3⟩ := run_append_arg_grows (P := P) W t ty e i0 z d.sz bytes ht hi hz0 hz1 hz2 hz hs0 b xs.length xs.length olds (by rw [hor.1, hxl]) hoc ad m c news (by rw [hnr.1, hym]) hnc (by omega) (by simp only [maxLen]; omega) hl
      exact ⟨v', w', olds, h1, hor, h2, h3⟩
    | none =>
      have h0 := hAx rfl
      obtain rfl : xs = [] := List.eq_nil_of_length_eq_zero h0
      obtain rfl : rx = [] := List.eq_nil_of_length_eq_zero hxl
      obtain ⟨v', w', h1, h2, h3, _⟩ := run_append_own (P := P) W W.heap.size t ty e i0 z d.sz bytes ht hi hz0 hz1 hz2 hz hs0 (.slice none 0 0) 0 [] (World.ownsRow_nil W _ e d.sz) ad m c news (by rw [hnr.1, hym]) hnc hone (by simp only [maxLen]; simp at hlen; omega) (by simpa using hl) (Nat.le_refl _)
      exact ⟨v', w', [], by simpa using h1, ⟨by simp, fun j p hj => by simp at hj⟩, by simpa using h2, h3⟩
  obtain ⟨v1, w1, olds, hrun, hor, hown, hg⟩ := hrun
  have hb : ∃ b, v1.ownBlock = some b ∧ W.heap.size ≤ b := by
    rcases hown.2 with ⟨_, h0⟩ | ⟨g, cap, cur, rfl, hge, _⟩
    · omega
    · exact ⟨g, rfl, hge⟩
  refine ⟨v1, w1, hrun, ?_, hg, hb⟩
  obtain ⟨b, hb1, hb2⟩ := hb
  have hlow : w1.ownsRow base e d.sz v1 (xs.length + m) (olds ++ news) := by
    refine ⟨hown.1, ?_⟩
    rcases hown.2 with h0 | ⟨g, cap, cur, h1, hge, h2⟩
    · exact .inl h0
    · exact .inr ⟨g, cap, cur, h1, Nat.le_trans hbase hge, h2⟩
  refine ⟨fun k hk => hfresh k (by rw [hb1] at hk; injection hk with hk; omega), rx ++ ry, by rw [List.length_append, List.length_append, hxl, hyl], ⟨fun k hk => hk.symm, olds ++ news, ?_, Kd.reps_append hor hnr⟩, ?_⟩
  · rw [List.length_append, hxl, hym]
    exact hlow
  · have hmove : ∀ {x : α} {cs : List Value} {o : Nat → Prop}, Kd.FK d W o x cs → (∀ k, o k → ok k) → Kd.FK d w1 (fun k => ok k ∧ some k ≠ v1.ownBlock) x cs := by
      intro x cs o hf ho
      refine Kd.FK_mono (Kd.FK_step (Kd.FK_bound hf) (fun k hk hlt => hg.block k hlt (by simp))) (fun k hk => ⟨ho k hk.1, ?_⟩)
      rw [hb1]
      intro he
      injection he with he
      have := hk.2
      omega
    intro j x cs hx hc
    rcases Nat.lt_or_ge j xs.length with hlt | hge
    · rw [List.getElem?_append_left hlt] at hx
      rw [List.getElem?_append_left (by omega)] at hc
      exact hmove (hxf j x cs hx hc) hokx
    · rw [List.getElem?_append_right hge] at hx
      rw [List.getElem?_append_right (by omega), hxl] at hc
      exact hmove (hyf _ x cs hx hc) hoky
section
variable {P : Program} {ops : Array Oper} {rest : List Oper} {o : Oper} {a : Act} {Q : Exit → Act → World → Prop} {Kc : Act → World → Prop}
theorem N_append_full_step {α : Type} (d : Kd α) {w0 W : World} (base : Nat) (hw : Region.wanted o (yielded ops a.tmps) = true) (s x : Operand) (t e : TypeId) (z : Value) (bytes : Nat)
    (ho : o.op = .call { callee := .builtin .append, args := #[s, x], argTypes := #[t, t] })
    (ht : P.underlying t = some (.slice e)) (hinfo : (P.info? e).map (fun i => (i.zero, i.size, i.bytes)) = some (some z, d.sz, bytes)) (hz : z.cells.size = d.sz) (hs0 : 0 < d.sz) (hb0 : 0 < bytes)
    (xs ys : List α) (Ax : Option Addr) (ad : Addr) (n m c : Nat) (ok okx oky : Nat → Prop) (hs : a.eval s = .slice Ax n n) (hx : a.eval x = .slice (some ad) m c) (hn : n = xs.length)
    (HX : Kd.F d W okx Ax xs.length xs) (HY : Kd.F d W oky (some ad) m ys) (hAx : Ax = none → xs.length = 0) (hm : 0 < m) (hokx : ∀ k, okx k → ok k) (hoky : ∀ k, oky k → ok k) (hfresh : ∀ k, W.heap.size ≤ k → ok k)
    (HB : Below base w0 W) (hbase : base ≤ W.heap.size) (hl : (xs.length + m) * bytes ≤ 140737488355328)
    (h : ∀ v1 w1, Kd.N d e w1 base ok v1 (xs ++ ys) → Below base w0 w1 → W.grownBy w1 none → (∃ b, v1.ownBlock = some b ∧ W.heap.size ≤ b) → Kc (a.put o.dst v1) w1) :
    if Region.wanted o (yielded ops a.tmps) = true then Oper.wp P o a W Kc Q else Kc (a.put o.dst undef) W := by
  subst hn
  obtain ⟨v1, w1, hr1, h1, hg, hb⟩ := append_full_run (P := P) d base t o.type e z bytes ht hinfo hz hs0 hb0 xs ys Ax ad m c ok okx oky HX HY hAx hm hokx hoky hfresh hbase hl
  rw [if_pos hw]
  unfold Oper.wp execOp
  simp only [ho, resolve, invoke, builtin, Sem.run_bind, Sem.run_pure, Result.andThen_ok, List.map_toArray, List.map_cons, List.map_nil, hs, hx, hr1]
  exact h v1 w1 h1 (HB.grown hg hbase (by simp)) hg hb
end
end Go.Proofs.Ytnokieaebnmljaa.PAll
namespace Go.Proofs.Ytnokieaebnmljaa.PAll
open Go Go.Proofs Go.RowKit Go.Shelf Go.Proofs.YtnokieaebnmljaaW.PrintWords Go.Proofs.YtnokieaebnmljaaW.PrintLast Go.Proofs.YtnokieaebnmljaaW.PrintMore
attribute [local go_sem] Oper.semAt_some
set_option linter.unusedVariables false
set_option linter.unusedSimpArgs false
theorem cut_full {P : Program} (t e : TypeId) (kh km : IntKind) {i : TypeInfo} (ht : P.underlying t = some (.slice e)) (hi : P.info? e = some i) (A : Option Addr) (n c : Nat) (j : Int) (h0 : 0 ≤ j) (hm : j ≤ n) (hc : n ≤ c) :
    ∀ W : World, (Instr.slice t (.slice A n c) none (some (.int kh j)) (some (.int km j))).run P W = .ok (.slice A j.toNat j.toNat) W := by
  intro W
  have hel : P.elem t = e := by simp [Program.elem, ht]
  have hu : P.underlying t = some (.slice (P.elem t)) := by rw [hel]; exact ht
  have ha : (A.map fun x => x.add 0) = A := by cases A <;> simp [Addr.add]
  rw [run_slice_hm W t A n c hu kh km j j h0 (Int.le_refl _) (by omega), hel]
  simp [sizeOf, typeInfo, hi, sliced, Result.andThen, ha]
theorem placeOf_range {c : S82 → Int} : ∀ (l : List S82) (s : Int), ∃ ix : Nat, (placeOf c l s).1 = s + ix ∧ ix ≤ l.length ∧ ((placeOf c l s).2 = true → ix < l.length)
  | [], s => ⟨0, by simp [placeOf]⟩
  | e :: es, s => by
    simp only [placeOf]
    split
    · exact ⟨0, by simp⟩
    · split
      · exact ⟨0, by simp⟩
      · obtain ⟨ix, h1, h2, h3⟩ := placeOf_range (c := c) es (s + 1)
        exact ⟨ix + 1, by rw [h1]; simp; omega, by simp; omega, fun h => by have := h3 h; simp; omega⟩
/-- A row in which an entry stands at a place, in place of as many as told. -/
def putRow (l : List S82) (ix J : Nat) (e : S82) : List S82 := l.take ix ++ [e] ++ l.drop J
noncomputable def heap_Put.f (k : Nat) (l0_0 : List (List S82)) (a1 : Int) (a2_0 : Int) (a2_1 : Int) (a2_2 : ByteArray) (a2_3 : Int) (l2_4 : List S35) (a3_0 : Int) (a3_1 : Int) (a3_2 : ByteArray) (a3_3 : Int) (l3_4 : List S35) : Option (List (List S82) × Int) :=
  if 0 ≤ a1 ∧ a1 < (l0_0.length : Int) then
    (if l0_0.length ≤ 11728124029610 ∧ (mapOf l0_0 a1).length ≤ 549755813886 then
      (heap_place.f k l0_0 a1 a2_0 a2_1 a2_2 a2_3 l2_4).bind fun p =>
        if p.2 = true then some (l0_0.set a1.toNat (putRow (mapOf l0_0 a1) p.1.toNat (p.1.toNat + 1) (⟨⟨a2_0, a2_1, a2_2, a2_3, l2_4⟩, ⟨a3_0, a3_1, a3_2, a3_3, l3_4⟩⟩ : S82)), 0)
        else if 24 ≤ (mapOf l0_0 a1).length then some ([], 41)
        else some (l0_0.set a1.toNat (putRow (mapOf l0_0 a1) p.1.toNat p.1.toNat (⟨⟨a2_0, a2_1, a2_2, a2_3, l2_4⟩, ⟨a3_0, a3_1, a3_2, a3_3, l3_4⟩⟩ : S82)), 0)
    else none)
  else some ([], 42)
theorem heap_Put.mono : ∀ l0_0 a1 a2_0 a2_1 a2_2 a2_3 l2_4 a3_0 a3_1 a3_2 a3_3 l3_4 k, LeO (heap_Put.f k l0_0 a1 a2_0 a2_1 a2_2 a2_3 l2_4 a3_0 a3_1 a3_2 a3_3 l3_4) (heap_Put.f (k + 1) l0_0 a1 a2_0 a2_1 a2_2 a2_3 l2_4 a3_0 a3_1 a3_2 a3_3 l3_4) := by
  intro l0_0 a1 a2_0 a2_1 a2_2 a2_3 l2_4 a3_0 a3_1 a3_2 a3_3 l3_4 k
  unfold heap_Put.f
  exact LeO.ite (LeO.ite (LeO.bind (heap_place.mono _ _ _ _ _ _ _ _) (fun _ => LeO.refl _)) (LeO.refl _)) (LeO.refl _)
def heap_Put.T10 : Bool × List (List Nat × List Nat) := (true, [([], []), ([], []), ([], []), ([], []), ([], []), ([2, 3, 4], [2, 3, 4]), ([], []), ([], []), ([6, 7], [6, 7]), ([8], [8]), ([5, 9], [5, 9]), ([], []), ([10, 11, 10], [10, 11]), ([0, 1, 12, 12], [0, 1, 12]), ([13, 13, 0, 1, 2, 3, 4, 5, 6, 7, 8, 9, 10, 11, 12, 13], [13]), ([14, 0, 1, 2, 3, 4, 5, 6, 7, 8, 9, 10, 11, 12, 13, 14], [])])
def heap_Put.B10 : List Nat := [0, 0, 0, 0, 0, 28, 0, 0, 192, 448, 1020, 0, 4092, 8191, 16383, 32767]
theorem heap_Put.tab10 : rtab .any (opsOf Try.f10 10) = heap_Put.T10 := by kernel_rfl
theorem heap_Put.bits10 : waitsOk heap_Put.T10.2 heap_Put.B10 = true := by kernel_rfl
set_option maxHeartbeats 16000000 in
set_option maxRecDepth 100000 in
theorem heap_Put.calls (k : Nat) (P0_0_ : Nat → Prop) (A0_0 : Option Addr) (c0_0 : Nat) (l0_0 : List (List (S82))) (a1 : Int) (a2_0 : Int) (a2_1 : Int) (a2_2 : ByteArray) (a2_3 : Int) (P2_4_ : Nat → Prop) (A2_4 : Option Addr) (c2_4 : Nat) (l2_4 : List (S35)) (a3_0 : Int) (a3_1 : Int) (a3_2 : ByteArray) (a3_3 : Int) (P3_4_ : Nat → Prop) (A3_4 : Option Addr) (c3_4 : Nat) (l3_4 : List (S35)) (r1 : List (List (S82))) (r2 : Int) (w : World) (hs0_0 : Kd.V (Kd.slice 82 k82) 41 w w.heap.size (fun k_ => P0_0_ k_) (.slice A0_0 l0_0.length c0_0) l0_0) (hs2_4 : Kd.V k35 35 w w.heap.size (fun k_ => P2_4_ k_) (.slice A2_4 l2_4.length c2_4) l2_4) (hs3_4 : Kd.V k35 35 w w.heap.size (fun k_ => P3_4_ k_) (.slice A3_4 l3_4.length c3_4) l3_4) (h : heap_Put.f k l0_0 a1 a2_0 a2_1 a2_2 a2_3 l2_4 a3_0 a3_1 a3_2 a3_3 l3_4 = some (r1, r2)) :
    Calls Try.prog 10 #[.agg #[.slice A0_0 l0_0.length c0_0], .int .i64 a1, .agg #[.int .i64 a2_0, .int .i64 a2_1, .string a2_2, .int .i64 a2_3, .slice A2_4 l2_4.length c2_4], .agg #[.int .i64 a3_0, .int .i64 a3_1, .string a3_2, .int .i64 a3_3, .slice A3_4 l3_4.length c3_4]] w fun e w' => ∃ v0_ : Value, e = .returned (.tuple #[.agg #[v0_], .int .i64 r2]) ∧ Kd.N (Kd.slice 82 k82) 41 w' w.heap.size (fun k_ => ((P0_0_ k_ ∨ P2_4_ k_ ∨ P3_4_ k_) ∨ w.heap.size ≤ k_)) v0_ r1 ∧ Below w.heap.size w w' := by
  have hu27 := Try.underlying27
  have hu35 := Try.underlying35
  have hu82 := Try.underlying82
  unfold heap_Put.f at h
  by_cases hm : 0 ≤ a1 ∧ a1 < (l0_0.length : Int)
  case neg =>
    rw [if_neg hm] at h
    simp only [Option.some.injEq, Prod.mk.injEq] at h
    obtain ⟨rfl, rfl⟩ := h
    clear hs0_0 hs2_4 hs3_4
    by_cases hlt : a1 < 0
    · have hd1 : decide (a1 < 0) = true := decide_eq_true hlt
      go_enter Try.func10, Try.ntmps10
      go_wp2
      refine bodyPost_ret (v := .tuple #[.agg #[.slice none 0 0], .int .i64 42]) ?_ rfl ⟨_, rfl, Kd.N_nil _ _ _ _ _, ((((Below.refl _ w).alloc (Nat.le_refl _) _).alloc (by simp) _).alloc (by simp; omega) _).alloc (by simp; omega) _⟩
      simp [results, Try.f10, go_sem, hu27]
    · have hd1 : decide (a1 < 0) = false := decide_eq_false hlt
      have hd2 : decide ((l0_0.length : Int) ≤ a1) = true := decide_eq_true (by omega)
      go_enter Try.func10, Try.ntmps10
      go_wp2
      refine bodyPost_ret (v := .tuple #[.agg #[.slice none 0 0], .int .i64 42]) ?_ rfl ⟨_, rfl, Kd.N_nil _ _ _ _ _, ((((Below.refl _ w).alloc (Nat.le_refl _) _).alloc (by simp) _).alloc (by simp; omega) _).alloc (by simp; omega) _⟩
      simp [results, Try.f10, go_sem, hu27]
  rw [if_pos hm] at h
  by_cases hbd : l0_0.length ≤ 11728124029610 ∧ (mapOf l0_0 a1).length ≤ 549755813886
  case neg => rw [if_neg hbd] at h; exact absurd h (by simp)
  rw [if_pos hbd] at h
  obtain ⟨p, hp, h⟩ := Option.bind_eq_some_iff.mp h
  have HF0 := Aside0.mk (Kd.V_F hs0_0)
  have HF2 := Aside0.mk (Kd.V_F hs2_4)
  have HF3 := Aside0.mk (Kd.V_F hs3_4)
  have HC0 := Aside0.mk (Kd.V_at hs0_0).2.1
  have HC2 := Aside0.mk (Kd.V_at hs2_4).2.1
  have HC3 := Aside0.mk (Kd.V_at hs3_4).2.1
  obtain ⟨ad, cs, rfl, hcl, hK, hcc, _⟩ := Kd.F_get HF0.out ([] : List S82) a1 hm.1 hm.2
  obtain ⟨Am, cm, rfl, hle, hFm⟩ := Kd.FK_slice_open hK
  have hcm := hcc 0 _ rfl
  rw [show (Kd.slice 82 k82).sz = 1 from rfl, Nat.mul_one, Nat.add_zero] at hcm
  obtain ⟨l, hl⟩ : ∃ l, l = l0_0.getD a1.toNat ([] : List S82) := ⟨_, rfl⟩
  have hmap : mapOf l0_0 a1 = l := by rw [hl]; simp [mapOf, hm, rd_L5]
  rw [← hl] at hcm hle hFm
  rw [hmap] at h hbd
  obtain ⟨ix, hix1, hix2, hix3⟩ : ∃ ix : Nat, p.1 = (ix : Int) ∧ ix ≤ l.length ∧ (p.2 = true → ix < l.length) := by
    have hpf := hp
    unfold heap_place.f at hpf
    split at hpf
    · obtain ⟨ix, h1, h2, h3⟩ := placeOf_range (c := cval k a2_0 a2_1 a2_2 a2_3 l2_4) (mapOf l0_0 a1) 0
      rw [Option.some.inj hpf] at h1 h3
      rw [hmap] at h2 h3
      exact ⟨ix, by rw [h1]; simp, h2, h3⟩
    · exact absurd hpf (by simp)
  obtain ⟨p1, p2⟩ := p
  simp only at hix1 hix3 h
  subst hix1
  obtain ⟨i041, hi041, _, hsz41, _⟩ := info_parts info41
  obtain ⟨i082, hi082, _, hsz82, _⟩ := info_parts info82
  have hcut1 := cut_from (P := Try.prog) 41 82 .i64 Try.underlying41 hi082 10 hsz82 Am l.length cm (ix : Int) (by omega) (by omega)
  have hcut3 := cut_full (P := Try.prog) 41 82 .i64 .i64 Try.underlying41 hi082 Am l.length cm (ix : Int) (by omega) (by omega) hle
  simp only [Int.toNat_natCast] at hcut1 hcut3
  obtain ⟨B1, hB1⟩ : ∃ B1, B1 = (if cm = ix then Am else Am.map (·.add (ix * 10))) := ⟨_, rfl⟩
  rw [← hB1] at hcut1
  have HB1 := Aside0.mk hB1
  clear hB1
  have HP := Aside0.mk hp
  have HFm := Aside0.mk hFm
  have HLE := Aside0.mk hle
  have HI1 := Aside0.mk hix2
  have HMX := Aside0.mk hbd.2
  have HL0 := Aside0.mk hbd.1
  have HM := Aside0.mk hm
  have HCM := Aside0.mk hcm
  have hd1 : decide (a1 < 0) = false := decide_eq_false (by omega)
  have hd2 : decide ((l0_0.length : Int) ≤ a1) = false := decide_eq_false (by omega)
  have hd3 : decide (0 ≤ a1) = true := decide_eq_true hm.1
  have hd4 : decide (a1 < (l0_0.length : Int)) = true := decide_eq_true hm.2
  obtain ⟨hm0, hm1⟩ := hm
  have HIX3 := Aside0.mk hix3
  have HH := Aside0.mk h
  clear hs0_0 hs2_4 hs3_4 hcl hK hcc hcm hle hFm hp h hbd hl hix2 hix3 hi041 hsz41 hi082 hsz82
  go_enter Try.func10, Try.ntmps10
  go_wp2_with (fail)
  obtain ⟨wA, hwA⟩ : ∃ wA, wA = (((w.alloc (Obj.cells #[.slice (some ad) l0_0.length c0_0] 27)).alloc (Obj.cells #[.int .i64 a2_0, .int .i64 a2_1, .string a2_2, .int .i64 a2_3, .slice A2_4 l2_4.length c2_4] 35)).alloc (Obj.cells #[.int .i64 a3_0, .int .i64 a3_1, .string a3_2, .int .i64 a3_3, .slice A3_4 l3_4.length c3_4] 35)).alloc (Obj.cells #[.slice none 0 0] 27) := ⟨_, rfl⟩
  have hBA : Below w.heap.size w wA := by
    rw [hwA]
    exact (((((Below.refl _ w).alloc (Nat.le_refl _) _).alloc (by simp) _).alloc (by simp; omega) _).alloc (by simp; omega) _)
  have R4 : wA.heap[w.heap.size]? = some (.cells #[.slice (some ad) l0_0.length c0_0] 27 (0, 0)) := by
    rw [hwA]
    exact blk_alloc (blk_alloc (blk_alloc (World.alloc_heap_new w _) _) _) _
  have R6 : wA.heap[w.heap.size + 1]? = some (.cells #[.int .i64 a2_0, .int .i64 a2_1, .string a2_2, .int .i64 a2_3, .slice A2_4 l2_4.length c2_4] 35 (0, 0)) := by
    rw [hwA]
    exact blk_alloc (blk_alloc (by have h_ := World.alloc_heap_new (w.alloc (Obj.cells #[.slice (some ad) l0_0.length c0_0] 27)) (Obj.cells #[.int .i64 a2_0, .int .i64 a2_1, .string a2_2, .int .i64 a2_3, .slice A2_4 l2_4.length c2_4] 35); rwa [World.size_alloc] at h_) _) _
  have R7 : wA.heap[w.heap.size + 1 + 1]? = some (.cells #[.int .i64 a3_0, .int .i64 a3_1, .string a3_2, .int .i64 a3_3, .slice A3_4 l3_4.length c3_4] 35 (0, 0)) := by
    rw [hwA]
    exact blk_alloc (by have h_ := World.alloc_heap_new ((w.alloc (Obj.cells #[.slice (some ad) l0_0.length c0_0] 27)).alloc (Obj.cells #[.int .i64 a2_0, .int .i64 a2_1, .string a2_2, .int .i64 a2_3, .slice A2_4 l2_4.length c2_4] 35)) (Obj.cells #[.int .i64 a3_0, .int .i64 a3_1, .string a3_2, .int .i64 a3_3, .slice A3_4 l3_4.length c3_4] 35); rwa [World.size_alloc, World.size_alloc] at h_) _
  have R8 : wA.heap[w.heap.size + 1 + 1 + 1]? = some (.cells #[.slice none 0 0] 27 (0, 0)) := by
    rw [hwA]
    have h_ := World.alloc_heap_new (((w.alloc (Obj.cells #[.slice (some ad) l0_0.length c0_0] 27)).alloc (Obj.cells #[.int .i64 a2_0, .int .i64 a2_1, .string a2_2, .int .i64 a2_3, .slice A2_4 l2_4.length c2_4] 35)).alloc (Obj.cells #[.int .i64 a3_0, .int .i64 a3_1, .string a3_2, .int .i64 a3_3, .slice A3_4 l3_4.length c3_4] 35)) (Obj.cells #[.slice none 0 0] 27)
    rwa [World.size_alloc, World.size_alloc, World.size_alloc] at h_
  rw [← hwA]
  clear hwA
  refine (heap_place.calls k (some ad) c0_0 l0_0 a1 a2_0 a2_1 a2_2 a2_3 A2_4 c2_4 l2_4 (ix : Int) p2 wA (Kd.F_now (Kd.F_below HF0.out hBA)) HC0.out (Kd.F_now (Kd.F_below HF2.out hBA)) HC2.out HP.out).mono ?_
  rintro e_ w1 ⟨rfl, hb1⟩
  have D4 := Aside0.mk (blk_below R4 hb1)
  have D6 := Aside0.mk (blk_below R6 hb1)
  have D7 := Aside0.mk (blk_below R7 hb1)
  have D8 := Aside0.mk (blk_below R8 hb1)
  have HBD := Aside0.mk (hBA.trans (hb1.mono hBA.size))
  clear R4 R6 R7 R8 hb1 hBA
  have hcs0 : w1.cell? ⟨w.heap.size, 0, none⟩ = some (.slice (some ad) l0_0.length c0_0) := (blk_cell D4.out 0).trans rfl
  have hcm1 : w1.cell? (ad.add a1.toNat) = some (.slice Am l.length cm) := El.cell HBD.out HCM.out
  dsimp only
  cases p2 with
  | true =>
    have hJ : ix + 1 ≤ l.length := HIX3.out rfl
    have HJ := Aside0.mk hJ
    have hw : wrap64 ((ix : Int) + 1) = (ix : Int) + 1 := wrap_in _ (by have := HMX.out; omega)
    obtain ⟨i082, hi082, _, hsz82, _⟩ := info_parts info82
    have hcut2 := cut_from (P := Try.prog) 41 82 .i64 Try.underlying41 hi082 10 hsz82 Am l.length cm ((ix : Int) + 1) (by omega) (by omega)
    simp only [show ((ix : Int) + 1).toNat = ix + 1 from by omega] at hcut2
    have hf := HH.out
    simp only [if_true, Option.some.injEq, Prod.mk.injEq] at hf
    obtain ⟨rfl, rfl⟩ := hf
    have HWITH : Aside0 (heap_with.f l0_0 a1 (l.take ix ++ [(⟨⟨a2_0, a2_1, a2_2, a2_3, l2_4⟩, ⟨a3_0, a3_1, a3_2, a3_3, l3_4⟩⟩ : S82)] ++ l.drop (ix + 1)) = some (l0_0.set a1.toNat (putRow l (ix : Int).toNat ((ix : Int).toNat + 1) (⟨⟨a2_0, a2_1, a2_2, a2_3, l2_4⟩, ⟨a3_0, a3_1, a3_2, a3_3, l3_4⟩⟩ : S82)))) := ⟨by unfold heap_with.f; rw [if_pos ⟨HL0.out, HM.out⟩]; simp [putRow]⟩
    clear hi082 hsz82 hJ HH
    obtain ⟨J, hJd⟩ : ∃ J, J = ix + 1 := ⟨_, rfl⟩
    rw [← hJd] at HJ hcut2 HWITH
    obtain ⟨B2, hB2⟩ : ∃ B2, B2 = (if cm = J then Am else Am.map (·.add (J * 10))) := ⟨_, rfl⟩
    rw [← hB2] at hcut2
    have HBJ := Aside0.mk hB2
    clear hJd hB2
    go_wp2
    refine start_ (n := 16) (S := fun w' => w'.cell? ⟨w.heap.size, 0, none⟩ = some (.slice (some ad) l0_0.length c0_0) ∧ w'.cell? ⟨w.heap.size + 1, 0, none⟩ = some (.int .i64 a2_0) ∧ w'.cell? ⟨w.heap.size + 1, 1, none⟩ = some (.int .i64 a2_1) ∧ w'.cell? ⟨w.heap.size + 1, 2, none⟩ = some (.string a2_2) ∧ w'.cell? ⟨w.heap.size + 1, 3, none⟩ = some (.int .i64 a2_3) ∧ w'.cell? ⟨w.heap.size + 1, 4, none⟩ = some (.slice A2_4 l2_4.length c2_4) ∧ w'.cell? ⟨w.heap.size + 1 + 1, 0, none⟩ = some (.int .i64 a3_0) ∧ w'.cell? ⟨w.heap.size + 1 + 1, 1, none⟩ = some (.int .i64 a3_1) ∧ w'.cell? ⟨w.heap.size + 1 + 1, 2, none⟩ = some (.string a3_2) ∧ w'.cell? ⟨w.heap.size + 1 + 1, 3, none⟩ = some (.int .i64 a3_3) ∧ w'.cell? ⟨w.heap.size + 1 + 1, 4, none⟩ = some (.slice A3_4 l3_4.length c3_4)) (ds := []) #[false, false, false, false, false, false, false, false, false, false, false, false, false, false, false, false] (by kernel_rfl) rfl rfl ?_ (fun hHeld => ?_)
    · exact ⟨(blk_cell (blk_drew D4.out) 0).trans rfl, (blk_cell (blk_drew D6.out) 0).trans rfl, (blk_cell (blk_drew D6.out) 1).trans rfl, (blk_cell (blk_drew D6.out) 2).trans rfl, (blk_cell (blk_drew D6.out) 3).trans rfl, (blk_cell (blk_drew D6.out) 4).trans rfl, (blk_cell (blk_drew D7.out) 0).trans rfl, (blk_cell (blk_drew D7.out) 1).trans rfl, (blk_cell (blk_drew D7.out) 2).trans rfl, (blk_cell (blk_drew D7.out) 3).trans rfl, (blk_cell (blk_drew D7.out) 4).trans rfl⟩
    refine with_tabW heap_Put.tab10 heap_Put.bits10 (fun HT_ HW_ => ?_)
    have C4 := Aside0.mk (blk_drew D4.out)
    have C6 := Aside0.mk (blk_drew D6.out)
    have C7 := Aside0.mk (blk_drew D7.out)
    have C8 := Aside0.mk (blk_drew D8.out)
    have HBC := Aside0.mk (below_drew1 HBD.out)
    clear D4 D6 D7 D8 HBD
    generalize w1.drew = w12 at C4 C6 C7 C8 HBC hHeld ⊢
    have B4 := C4
    have B6 := C6
    have B7 := C7
    have B8 := C8
    have HBW := HBC
    refine pure_ (i := 1) (N := some 51) (v := ?_) (a' := ?_) #[false, true, false, false, false, false, false, false, false, false, false, false, false, false, false, false] rfl rfl (any_of HT_.out (by kernel_rfl)) (fun _ _ _ h => h) (Or.inl ⟨by rfl, ?_⟩) ?_ ?_
    rotate_left
    · intro w'
      go_simp
      with_reducible rfl
    rotate_left
    · simp only [Act.put, List.setIfInBounds_toArray, List.set_cons_zero, List.set_cons_succ, i64_w, i32_w]
      rfl
    refine pure_ (i := 2) (N := some 52) (v := ?_) (a' := ?_) #[false, true, true, false, false, false, false, false, false, false, false, false, false, false, false, false] rfl rfl (any_of HT_.out (by kernel_rfl)) (fun _ _ _ h => h) (Or.inl ⟨by rfl, ?_⟩) ?_ ?_
    rotate_left
    · intro w'
      go_simp
      with_reducible rfl
    rotate_left
    · simp only [Act.put, List.setIfInBounds_toArray, List.set_cons_zero, List.set_cons_succ, i64_w, i32_w]
      rfl
    refine pure_ (i := 3) (N := some 53) (v := ?_) (a' := ?_) #[false, true, true, true, false, false, false, false, false, false, false, false, false, false, false, false] rfl rfl (any_of HT_.out (by kernel_rfl)) (fun _ _ _ h => h) (Or.inl ⟨by rfl, ?_⟩) ?_ ?_
    rotate_left
    · intro w'
      go_simp
      with_reducible rfl
    rotate_left
    · simp only [Act.put, List.setIfInBounds_toArray, List.set_cons_zero, List.set_cons_succ, i64_w, i32_w]
      rfl
    refine pure_ (i := 4) (N := some 54) (v := ?_) (a' := ?_) #[false, true, true, true, true, false, false, false, false, false, false, false, false, false, false, false] rfl rfl (any_of HT_.out (by kernel_rfl)) (fun _ _ _ h => h) (Or.inl ⟨by rfl, ?_⟩) ?_ ?_
    rotate_left
    · intro w'
      go_simp
      with_reducible rfl
    rotate_left
    · simp only [Act.put, List.setIfInBounds_toArray, List.set_cons_zero, List.set_cons_succ, i64_w, i32_w]
      rfl
    refine pure_ (i := 11) (N := some 61) (v := ?_) (a' := ?_) #[false, true, true, true, true, false, false, false, false, false, false, true, false, false, false, false] rfl rfl (any_of HT_.out (by kernel_rfl)) (fun _ _ _ h => h) (Or.inl ⟨by rfl, ?_⟩) ?_ ?_
    rotate_left
    · intro w'
      go_simp
      with_reducible rfl
    rotate_left
    · simp only [Act.put, List.setIfInBounds_toArray, List.set_cons_zero, List.set_cons_succ, i64_w, i32_w]
      rfl
    refine pure_ (i := 5) (N := some 55) (v := ?_) (a' := ?_) #[false, true, true, true, true, true, false, false, false, false, false, true, false, false, false, false] rfl rfl (any_of HT_.out (by kernel_rfl)) (fun _ _ _ h => h) (Or.inl ⟨by rfl, ?_⟩) ?_ ?_
    rotate_left
    · intro w'
      go_simp
      with_reducible rfl
    rotate_left
    · simp only [Act.put, List.setIfInBounds_toArray, List.set_cons_zero, List.set_cons_succ, i64_w, i32_w]
      rfl
    refine take_ (i := 0) (N := some 50) (v := ?_) (a' := ?_) #[true, true, true, true, true, true, false, false, false, false, false, true, false, false, false, false] rfl rfl (take_ofW HT_.out HW_.out (by kernel_rfl)) (fun _ _ _ h => h) (Or.inl ⟨by rfl, ?_⟩) hHeld ?_ ?_
    rotate_left
    · rintro w' ⟨s0, s1, s2, s3, s4, s5, s6, s7, s8, s9, s10⟩
      go_simp
      with_reducible rfl
    rotate_left
    · simp only [Act.put, List.setIfInBounds_toArray, List.set_cons_zero, List.set_cons_succ, i64_w, i32_w]
      rfl
    refine take_ (i := 6) (N := some 56) (v := ?_) (a' := ?_) #[true, true, true, true, true, true, true, false, false, false, false, true, false, false, false, false] rfl rfl (take_ofW HT_.out HW_.out (by kernel_rfl)) (fun _ _ _ h => h) (Or.inl ⟨by rfl, ?_⟩) hHeld ?_ ?_
    rotate_left
    · rintro w' ⟨s0, s1, s2, s3, s4, s5, s6, s7, s8, s9, s10⟩
      go_simp
      with_reducible rfl
    rotate_left
    · simp only [Act.put, List.setIfInBounds_toArray, List.set_cons_zero, List.set_cons_succ, i64_w, i32_w]
      rfl
    refine take_ (i := 7) (N := some 57) (v := ?_) (a' := ?_) #[true, true, true, true, true, true, true, true, false, false, false, true, false, false, false, false] rfl rfl (take_ofW HT_.out HW_.out (by kernel_rfl)) (fun _ _ _ h => h) (Or.inl ⟨by rfl, ?_⟩) hHeld ?_ ?_
    rotate_left
    · rintro w' ⟨s0, s1, s2, s3, s4, s5, s6, s7, s8, s9, s10⟩
      go_simp
      with_reducible rfl
    rotate_left
    · simp only [Act.put, List.setIfInBounds_toArray, List.set_cons_zero, List.set_cons_succ, i64_w, i32_w]
      rfl
    refine pure_ (i := 8) (N := some 58) (v := ?_) (a' := ?_) #[true, true, true, true, true, true, true, true, true, false, false, true, false, false, false, false] rfl rfl (any_of HT_.out (by kernel_rfl)) (fun _ _ _ h => h) (Or.inl ⟨by rfl, ?_⟩) ?_ ?_
    rotate_left
    · intro w'
      go_simp
      with_reducible rfl
    rotate_left
    · simp only [Act.put, List.setIfInBounds_toArray, List.set_cons_zero, List.set_cons_succ, i64_w, i32_w]
      rfl
    refine one_ (i := 9) (N := some 59) #[true, true, true, true, true, true, true, true, true, true, false, true, false, false, false, false] rfl rfl (one_of HT_.out (by kernel_rfl)) (by decide) (fun K hK => ?_)
    refine Kd.N_lit_step k82 (w0 := w12) w12.heap.size 82 ?hg (N' := 59) ?hd (xs := [(⟨⟨a2_0, a2_1, a2_2, a2_3, l2_4⟩, ⟨a3_0, a3_1, a3_2, a3_3, l3_4⟩⟩ : S82)]) (inner := [.int .i64 a2_0, .int .i64 a2_1, .string a2_2, .int .i64 a2_3, .slice A2_4 l2_4.length c2_4, .int .i64 a3_0, .int .i64 a3_1, .string a3_2, .int .i64 a3_3, .slice A3_4 l3_4.length c3_4]) (ok := (fun k_ => ((P0_0_ k_ ∨ P2_4_ k_ ∨ P3_4_ k_) ∧ k_ < w.heap.size) ∨ w12.heap.size ≤ k_)) (okp := fun k => (P2_4_ k ∨ P3_4_ k) ∧ k < w.heap.size) ?hr ?hp (fun k hk => .inl ⟨.inr hk.1, hk.2⟩) (.inr (Nat.le_refl _)) (Below.refl _ _) (Nat.le_refl _) (by simp) ?_; (case hd => rfl); (case hg => rfl); (case hr => first | (go_simp; done) | (go_simp; rfl))
    case hp => exact Reps.c10 (k82_mkF _ _ (⟨⟨a2_0, a2_1, a2_2, a2_3, l2_4⟩, ⟨a3_0, a3_1, a3_2, a3_3, l3_4⟩⟩ : S82) HC2.out (Kd.F_mono (Kd.F_old HF2.out HBW.out) (fun k hk => ⟨.inl hk.1, hk.2⟩)) HC3.out (Kd.F_mono (Kd.F_old HF3.out HBW.out) (fun k hk => ⟨.inr hk.1, hk.2⟩))) (Reps.none _ _)
    intro v59 w13 ho59 hb13 hg13 hat13
    obtain ⟨g59, cap59, rfl, hb59, hl59, _⟩ := Kd.N_form ho59 (by simp)
    have n4 := Aside0.mk (blk_below C4.out hb13)
    have n6 := Aside0.mk (blk_below C6.out hb13)
    have n7 := Aside0.mk (blk_below C7.out hb13)
    have n8 := Aside0.mk (blk_below C8.out hb13)
    have nb := Aside0.mk (HBC.out.trans (hb13.mono HBC.out.size))
    clear B4 B6 B7 B8 HBW
    have B4 := n4
    have B6 := n6
    have B7 := n7
    have B8 := n8
    have HBW := nb
    clear n4 n6 n7 n8 nb
    have HO59 := Aside0.mk ho59
    have HBX := Aside0.mk hb13
    clear ho59 hg13 hat13 hb13 hb59 hl59
    refine hK.out _ _ ⟨(blk_cell B4.out 0).trans rfl, (blk_cell B6.out 0).trans rfl, (blk_cell B6.out 1).trans rfl, (blk_cell B6.out 2).trans rfl, (blk_cell B6.out 3).trans rfl, (blk_cell B6.out 4).trans rfl, (blk_cell B7.out 0).trans rfl, (blk_cell B7.out 1).trans rfl, (blk_cell B7.out 2).trans rfl, (blk_cell B7.out 3).trans rfl, (blk_cell B7.out 4).trans rfl⟩ (fun hHeld => ?_)
    clear hK K
    refine norm_ (a' := ?_) ?_ ?_
    rotate_left
    · show Act.put _ (some 59) _ = _
      simp only [Act.put, List.setIfInBounds_toArray, List.set_cons_zero, List.set_cons_succ, i64_w, i32_w]
      rfl
    refine one_ (i := 10) (N := some 60) #[true, true, true, true, true, true, true, true, true, true, true, true, false, false, false, false] rfl rfl (one_of HT_.out (by kernel_rfl)) (by decide) (fun K hK => ?_)
    refine N_append_full_step k82 (w0 := w12) w12.heap.size rfl (.tmp 55) (.tmp 59) 41 82 (.agg #[.int .i64 0, .int .i64 0, .string (⟨#[]⟩ : ByteArray), .int .i64 0, .slice none 0 0, .int .i64 0, .int .i64 0, .string (⟨#[]⟩ : ByteArray), .int .i64 0, .slice none 0 0]) 128 rfl Try.underlying41 info82 rfl (by decide) (by omega) (l.take ix) [(⟨⟨a2_0, a2_1, a2_2, a2_3, l2_4⟩, ⟨a3_0, a3_1, a3_2, a3_3, l3_4⟩⟩ : S82)] Am ⟨g59, 0, none⟩ _ 1 cap59 (fun k_ => ((P0_0_ k_ ∨ P2_4_ k_ ∨ P3_4_ k_) ∧ k_ < w.heap.size) ∨ w12.heap.size ≤ k_) (fun k => P0_0_ k ∧ k < w.heap.size) (fun k_ => ((P0_0_ k_ ∨ P2_4_ k_ ∨ P3_4_ k_) ∧ k_ < w.heap.size) ∨ w12.heap.size ≤ k_) rfl rfl ?_ (Kd.F_take (Kd.F_old HFm.out HBW.out) HI1.out) (Kd.N_F HO59.out) ?_ (by omega) (fun k hk => .inl ⟨.inl hk.1, hk.2⟩) (fun _ hk => hk) (fun k hk => .inr (Nat.le_trans HBX.out.size hk)) HBX.out HBX.out.size ?_ ?_
    · rw [List.length_take]; have := HI1.out; omega
    · intro hA
      have h_ := Kd.F_now HFm.out
      rw [hA] at h_
      rcases Nat.eq_zero_or_pos l.length with h0 | h0
      · rw [List.length_take]; omega
      · obtain ⟨ad_, he, _⟩ := h_.2.2 h0
        cases he
    · rw [List.length_take]; have h1_ := HMX.out; have h2_ := HI1.out; omega
    intro v60 w14 ho60 hb14 hg14 hat14
    have n4 := Aside0.mk (blk_below C4.out hb14)
    have n6 := Aside0.mk (blk_below C6.out hb14)
    have n7 := Aside0.mk (blk_below C7.out hb14)
    have n8 := Aside0.mk (blk_below C8.out hb14)
    have nb := Aside0.mk (HBC.out.trans (hb14.mono HBC.out.size))
    clear B4 B6 B7 B8 HBW
    have B4 := n4
    have B6 := n6
    have B7 := n7
    have B8 := n8
    have HBW := nb
    clear n4 n6 n7 n8 nb
    have HO60 := Aside0.mk ho60
    have HAT := Aside0.mk hat14
    have HSZ13 := Aside0.mk (Nat.le_trans HBC.out.size HBX.out.size)
    clear HBX HO59
    have HBX := Aside0.mk hb14
    clear ho60 hg14 hat14 hb14
    refine hK.out _ _ ⟨(blk_cell B4.out 0).trans rfl, (blk_cell B6.out 0).trans rfl, (blk_cell B6.out 1).trans rfl, (blk_cell B6.out 2).trans rfl, (blk_cell B6.out 3).trans rfl, (blk_cell B6.out 4).trans rfl, (blk_cell B7.out 0).trans rfl, (blk_cell B7.out 1).trans rfl, (blk_cell B7.out 2).trans rfl, (blk_cell B7.out 3).trans rfl, (blk_cell B7.out 4).trans rfl⟩ (fun hHeld => ?_)
    clear hK K
    refine norm_ (a' := ?_) ?_ ?_
    rotate_left
    · show Act.put _ (some 60) _ = _
      simp only [Act.put, List.setIfInBounds_toArray, List.set_cons_zero, List.set_cons_succ, i64_w, i32_w]
      rfl
    refine one_ (i := 12) (N := some 62) #[true, true, true, true, true, true, true, true, true, true, true, true, true, false, false, false] rfl rfl (one_of HT_.out (by kernel_rfl)) (by decide) (fun K hK => ?_)
    refine Kd.N_append_rows_step k82 (w0 := w12) w12.heap.size rfl (.tmp 60) (.tmp 61) 41 82 (.agg #[.int .i64 0, .int .i64 0, .string (⟨#[]⟩ : ByteArray), .int .i64 0, .slice none 0 0, .int .i64 0, .int .i64 0, .string (⟨#[]⟩ : ByteArray), .int .i64 0, .slice none 0 0]) 128 rfl Try.underlying41 info82 rfl (by decide) (by omega) v60 (l.take ix ++ [(⟨⟨a2_0, a2_1, a2_2, a2_3, l2_4⟩, ⟨a3_0, a3_1, a3_2, a3_3, l3_4⟩⟩ : S82)]) (l.drop J) B2 (l.length - J) (cm - J) (fun k_ => ((P0_0_ k_ ∨ P2_4_ k_ ∨ P3_4_ k_) ∧ k_ < w.heap.size) ∨ w12.heap.size ≤ k_) (fun k => P0_0_ k ∧ k < w.heap.size) rfl rfl HO60.out ?_ (fun k hk => ⟨.inl ⟨.inl hk.1, hk.2⟩, ?_⟩) (fun k hk => .inr (Nat.le_trans HBX.out.size hk)) HBX.out HBX.out.size ?_ ?_
    · have h_ := Kd.F_cut (m := J) (c := cm) (Kd.F_old HFm.out HBW.out) HJ.out HLE.out
      rw [List.length_drop] at h_
      rw [HBJ.out]
      exact h_
    · obtain ⟨b_, hb_, hge_⟩ := HAT.out
      rw [hb_]
      intro he_
      injection he_ with he_
      have h1_ := hk.2
      have h2_ := HSZ13.out
      omega
    · rw [List.length_append, List.length_take]; have h1_ := HMX.out; have h2_ := HI1.out; simp; omega
    intro v62 w15 ho62 hb15 hg15 hat15
    have n4 := Aside0.mk (blk_below C4.out hb15)
    have n6 := Aside0.mk (blk_below C6.out hb15)
    have n7 := Aside0.mk (blk_below C7.out hb15)
    have n8 := Aside0.mk (blk_below C8.out hb15)
    have nb := Aside0.mk (HBC.out.trans (hb15.mono HBC.out.size))
    clear B4 B6 B7 B8 HBW
    have B4 := n4
    have B6 := n6
    have B7 := n7
    have B8 := n8
    have HBW := nb
    clear n4 n6 n7 n8 nb
    have HBY := Aside0.mk hb15
    obtain ⟨A62, c62, rfl⟩ := Kd.N_slice ho62
    have HV62 := Aside0.mk (show Kd.V k82 82 w15 w15.heap.size (fun k_ => ((P0_0_ k_ ∨ P2_4_ k_ ∨ P3_4_ k_) ∧ k_ < w.heap.size) ∨ w12.heap.size ≤ k_) (.slice A62 (l.take ix ++ [(⟨⟨a2_0, a2_1, a2_2, a2_3, l2_4⟩, ⟨a3_0, a3_1, a3_2, a3_3, l3_4⟩⟩ : S82)] ++ l.drop J).length c62) (l.take ix ++ [(⟨⟨a2_0, a2_1, a2_2, a2_3, l2_4⟩, ⟨a3_0, a3_1, a3_2, a3_3, l3_4⟩⟩ : S82)] ++ l.drop J) from Kd.V_mk (Kd.N_reads' ho62).2.1 (Kd.N_F ho62))
    clear ho62 hg15 hat15 hb15 HO60 HAT HBX
    refine hK.out _ _ ⟨(blk_cell B4.out 0).trans rfl, (blk_cell B6.out 0).trans rfl, (blk_cell B6.out 1).trans rfl, (blk_cell B6.out 2).trans rfl, (blk_cell B6.out 3).trans rfl, (blk_cell B6.out 4).trans rfl, (blk_cell B7.out 0).trans rfl, (blk_cell B7.out 1).trans rfl, (blk_cell B7.out 2).trans rfl, (blk_cell B7.out 3).trans rfl, (blk_cell B7.out 4).trans rfl⟩ (fun hHeld => ?_)
    clear hK K
    refine norm_ (a' := ?_) ?_ ?_
    rotate_left
    · show Act.put _ (some 62) _ = _
      simp only [Act.put, List.setIfInBounds_toArray, List.set_cons_zero, List.set_cons_succ, i64_w, i32_w]
      rfl
    refine one_ (i := 13) (N := some 63) #[true, true, true, true, true, true, true, true, true, true, true, true, true, true, false, false] rfl rfl (one_of HT_.out (by kernel_rfl)) (by decide) (fun K hK => ?_)
    refine goes_ Try.func38 (by kernel_rfl) rfl #[.agg #[.slice (some ad) l0_0.length c0_0], .int .i64 a1, .slice A62 (l.take ix ++ [(⟨⟨a2_0, a2_1, a2_2, a2_3, l2_4⟩, ⟨a3_0, a3_1, a3_2, a3_3, l3_4⟩⟩ : S82)] ++ l.drop J).length c62] (by rfl) rfl rfl (by (try simp only [List.map_toArray, List.map_cons, List.map_nil]); first | done | rfl | (go_simp; done) | (go_simp; simp; done)) ?_
    refine (heap_with.calls (fun k => P0_0_ k ∧ k < w.heap.size) (some ad) c0_0 l0_0 a1 (fun k_ => ((P0_0_ k_ ∨ P2_4_ k_ ∨ P3_4_ k_) ∧ k_ < w.heap.size) ∨ w12.heap.size ≤ k_) A62 c62 (l.take ix ++ [(⟨⟨a2_0, a2_1, a2_2, a2_3, l2_4⟩, ⟨a3_0, a3_1, a3_2, a3_3, l3_4⟩⟩ : S82)] ++ l.drop J) _ w15 (Kd.V_mk HC0.out (Kd.F_old HF0.out HBW.out)) HV62.out HWITH.out).mono ?_
    rintro e_ w16 ⟨v63, rfl, ho63, hb16⟩
    refine ⟨_, rfl, ?_⟩
    have hb16c := HBY.out.trans (hb16.mono HBY.out.size)
    have HN63 := Aside0.mk (Kd.N_mono (ok' := (fun k_ => ((P0_0_ k_ ∨ P2_4_ k_ ∨ P3_4_ k_) ∧ k_ < w.heap.size) ∨ w12.heap.size ≤ k_)) (Kd.N_lower ho63 HBW.out.size) (fun k hk => hk.elim (fun h1 => h1.elim (fun h2 => .inl ⟨.inl h2.1, h2.2⟩) id) (fun h1 => .inr (Nat.le_trans HBY.out.size h1))))
    have n4 := Aside0.mk (blk_below C4.out hb16c)
    have n6 := Aside0.mk (blk_below C6.out hb16c)
    have n7 := Aside0.mk (blk_below C7.out hb16c)
    have n8 := Aside0.mk (blk_below C8.out hb16c)
    have nb := Aside0.mk (HBC.out.trans (hb16c.mono HBC.out.size))
    clear B4 B6 B7 B8 HBW
    have B4 := n4
    have B6 := n6
    have B7 := n7
    have B8 := n8
    have HBW := nb
    clear n4 n6 n7 n8 nb
    have HSZ15 := Aside0.mk hb16.size
    have HOWN := Aside0.mk (Kd.N_base ho63)
    clear ho63 hb16 hb16c
    refine hK.out _ _ ⟨(blk_cell B4.out 0).trans rfl, (blk_cell B6.out 0).trans rfl, (blk_cell B6.out 1).trans rfl, (blk_cell B6.out 2).trans rfl, (blk_cell B6.out 3).trans rfl, (blk_cell B6.out 4).trans rfl, (blk_cell B7.out 0).trans rfl, (blk_cell B7.out 1).trans rfl, (blk_cell B7.out 2).trans rfl, (blk_cell B7.out 3).trans rfl, (blk_cell B7.out 4).trans rfl⟩ (fun hHeld => ?_)
    clear hK K
    refine norm_ (a' := ?_) ?_ ?_
    rotate_left
    · show Act.put _ (some 63) _ = _
      simp only [Act.put, List.setIfInBounds_toArray, List.set_cons_zero, List.set_cons_succ, i64_w, i32_w]
      rfl
    refine one_ (i := 14) (N := none) #[true, true, true, true, true, true, true, true, true, true, true, true, true, true, true, false] rfl rfl (one_of HT_.out (by kernel_rfl)) (by decide) (fun K hK => ?_)
    obtain ⟨A63, c63, rfl⟩ := Kd.N_slice HN63.out
    have hc8 : w16.cell? ⟨w.heap.size + 1 + 1 + 1, 0, none⟩ = some (.slice none 0 0) := (blk_cell B8.out 0).trans rfl
    have hf8 := blk_frozen B8.out 0
    rw [if_pos (by rfl)]
    unfold Oper.wp
    go_simp
    obtain ⟨w17, hw17⟩ : ∃ w17, w17 = w16.setCell ⟨w.heap.size + 1 + 1 + 1, 0, none⟩ (.slice A63 l0_0.length c63) := ⟨_, rfl⟩
    rw [← hw17]
    have hP3 := (Array.getElem?_eq_some_iff.1 C8.out).1
    have n4 := Aside0.mk (show w17.heap[w.heap.size]? = _ from hw17 ▸ blk_far B4.out (by simp <;> omega) _)
    have n6 := Aside0.mk (show w17.heap[w.heap.size + 1]? = _ from hw17 ▸ blk_far B6.out (by simp <;> omega) _)
    have n7 := Aside0.mk (show w17.heap[w.heap.size + 1 + 1]? = _ from hw17 ▸ blk_far B7.out (by simp <;> omega) _)
    have n8 : w17.heap[w.heap.size + 1 + 1 + 1]? = some (.cells #[.slice A63 l0_0.length c63] 27 (0, 0)) := hw17 ▸ Boxed.set _ (show Boxed w16 (w.heap.size + 1 + 1 + 1) 27 (.slice none 0 0) from B8.out)
    have nb := Aside0.mk (show Below w.heap.size w w17 from hw17 ▸ HBW.out.setCell (p := ⟨w.heap.size + 1 + 1 + 1, 0, none⟩) (by simp <;> omega) _)
    have hN17 := Kd.N_mono (ok' := (fun k_ => ((P0_0_ k_ ∨ P2_4_ k_ ∨ P3_4_ k_) ∨ w.heap.size ≤ k_))) (Kd.N_far (p := ⟨w.heap.size + 1 + 1 + 1, 0, none⟩) HN63.out (fun k hk => by rcases hk with hk | hk <;> simp <;> omega) (.slice A63 l0_0.length c63)) (fun k hk => hk.elim (fun h1 => .inl h1.1) (fun h1 => .inr (Nat.le_trans HBC.out.size h1)))
    rw [← hw17] at hN17
    have HN17 := Aside0.mk hN17
    have HN8 := Aside0.mk n8
    clear B4 B6 B7 hN17 n8 hc8 hf8 hP3
    have B4 := n4
    have B6 := n6
    have B7 := n7
    refine hK.out _ _ ⟨(blk_cell B4.out 0).trans rfl, (blk_cell B6.out 0).trans rfl, (blk_cell B6.out 1).trans rfl, (blk_cell B6.out 2).trans rfl, (blk_cell B6.out 3).trans rfl, (blk_cell B6.out 4).trans rfl, (blk_cell B7.out 0).trans rfl, (blk_cell B7.out 1).trans rfl, (blk_cell B7.out 2).trans rfl, (blk_cell B7.out 3).trans rfl, (blk_cell B7.out 4).trans rfl⟩ (fun hHeld => ?_)
    clear hK K
    refine pure_ (i := 15) (N := some 9) (v := ?_) (a' := ?_) #[true, true, true, true, true, true, true, true, true, true, true, true, true, true, true, true] rfl rfl (any_of HT_.out (by kernel_rfl)) (fun _ _ _ h => h) (Or.inl ⟨by rfl, ?_⟩) ?_ ?_
    rotate_left
    · intro w'
      go_simp
      with_reducible rfl
    rotate_left
    · simp only [Act.put, List.setIfInBounds_toArray, List.set_cons_zero, List.set_cons_succ, i64_w, i32_w]
      rfl
    refine done_ (done_of HT_.out (by kernel_rfl)) ?_
    go_wp2
    have hc9 : w17.cell? ⟨w.heap.size + 1 + 1 + 1, 0, none⟩ = some (.slice A63 l0_0.length c63) := (blk_cell HN8.out 0).trans rfl
    have HNF := HN17.out
    rw [List.length_set] at HNF
    refine bodyPost_ret (v := .tuple #[.agg #[.slice A63 l0_0.length c63], .int .i64 0]) ?_ rfl ⟨_, rfl, HNF, nb.out⟩
    simp [results, Try.f10, go_sem, hu27, hc9]
  | false =>
    have hf := HH.out
    simp only [Bool.false_eq_true, if_false] at hf
    have HJ := HI1
    by_cases hfull : 24 ≤ l.length
    · rw [if_pos hfull] at hf
      simp only [Option.some.injEq, Prod.mk.injEq] at hf
      obtain ⟨rfl, rfl⟩ := hf
      have hd5 : decide ((24 : Int) ≤ (l.length : Int)) = true := decide_eq_true (by omega)
      have hd6 : decide (24 ≤ l.length) = true := decide_eq_true hfull
      have hc8 : w1.cell? ⟨w.heap.size + 1 + 1 + 1, 0, none⟩ = some (.slice none 0 0) := (blk_cell D8.out 0).trans rfl
      have hf8 := blk_frozen D8.out 0
      clear hfull HH
      go_wp2
      have hc9 := World.cell?_setCell_same' w1 ⟨w.heap.size + 1 + 1 + 1, 0, none⟩ (.slice none 0 0) (by rw [hc8]; rfl)
      refine bodyPost_ret (v := .tuple #[.agg #[.slice none 0 0], .int .i64 41]) ?_ rfl ⟨_, rfl, Kd.N_nil _ _ _ _ _, HBD.out.setCell (p := ⟨w.heap.size + 1 + 1 + 1, 0, none⟩) (by simp; omega) _⟩
      simp [results, Try.f10, go_sem, hu27, hc9]
    · rw [if_neg hfull] at hf
      simp only [Option.some.injEq, Prod.mk.injEq] at hf
      obtain ⟨rfl, rfl⟩ := hf
      have hd5 : decide ((24 : Int) ≤ (l.length : Int)) = false := decide_eq_false (by omega)
      have hd6 : decide (24 ≤ l.length) = false := decide_eq_false hfull
      have HWITH : Aside0 (heap_with.f l0_0 a1 (l.take ix ++ [(⟨⟨a2_0, a2_1, a2_2, a2_3, l2_4⟩, ⟨a3_0, a3_1, a3_2, a3_3, l3_4⟩⟩ : S82)] ++ l.drop ix) = some (l0_0.set a1.toNat (putRow l (ix : Int).toNat (ix : Int).toNat (⟨⟨a2_0, a2_1, a2_2, a2_3, l2_4⟩, ⟨a3_0, a3_1, a3_2, a3_3, l3_4⟩⟩ : S82)))) := ⟨by unfold heap_with.f; rw [if_pos ⟨HL0.out, HM.out⟩]; simp [putRow]⟩
      clear hfull HH
      have HBJ := HB1
      go_wp2
      refine start_ (n := 16) (S := fun w' => w'.cell? ⟨w.heap.size, 0, none⟩ = some (.slice (some ad) l0_0.length c0_0) ∧ w'.cell? ⟨w.heap.size + 1, 0, none⟩ = some (.int .i64 a2_0) ∧ w'.cell? ⟨w.heap.size + 1, 1, none⟩ = some (.int .i64 a2_1) ∧ w'.cell? ⟨w.heap.size + 1, 2, none⟩ = some (.string a2_2) ∧ w'.cell? ⟨w.heap.size + 1, 3, none⟩ = some (.int .i64 a2_3) ∧ w'.cell? ⟨w.heap.size + 1, 4, none⟩ = some (.slice A2_4 l2_4.length c2_4) ∧ w'.cell? ⟨w.heap.size + 1 + 1, 0, none⟩ = some (.int .i64 a3_0) ∧ w'.cell? ⟨w.heap.size + 1 + 1, 1, none⟩ = some (.int .i64 a3_1) ∧ w'.cell? ⟨w.heap.size + 1 + 1, 2, none⟩ = some (.string a3_2) ∧ w'.cell? ⟨w.heap.size + 1 + 1, 3, none⟩ = some (.int .i64 a3_3) ∧ w'.cell? ⟨w.heap.size + 1 + 1, 4, none⟩ = some (.slice A3_4 l3_4.length c3_4)) (ds := []) #[false, false, false, false, false, false, false, false, false, false, false, false, false, false, false, false] (by kernel_rfl) rfl rfl ?_ (fun hHeld => ?_)
      · exact ⟨(blk_cell (blk_drew D4.out) 0).trans rfl, (blk_cell (blk_drew D6.out) 0).trans rfl, (blk_cell (blk_drew D6.out) 1).trans rfl, (blk_cell (blk_drew D6.out) 2).trans rfl, (blk_cell (blk_drew D6.out) 3).trans rfl, (blk_cell (blk_drew D6.out) 4).trans rfl, (blk_cell (blk_drew D7.out) 0).trans rfl, (blk_cell (blk_drew D7.out) 1).trans rfl, (blk_cell (blk_drew D7.out) 2).trans rfl, (blk_cell (blk_drew D7.out) 3).trans rfl, (blk_cell (blk_drew D7.out) 4).trans rfl⟩
      refine with_tabW heap_Put.tab10 heap_Put.bits10 (fun HT_ HW_ => ?_)
      have C4 := Aside0.mk (blk_drew D4.out)
      have C6 := Aside0.mk (blk_drew D6.out)
      have C7 := Aside0.mk (blk_drew D7.out)
      have C8 := Aside0.mk (blk_drew D8.out)
      have HBC := Aside0.mk (below_drew1 HBD.out)
      clear D4 D6 D7 D8 HBD
      generalize w1.drew = w12 at C4 C6 C7 C8 HBC hHeld ⊢
      have B4 := C4
      have B6 := C6
      have B7 := C7
      have B8 := C8
      have HBW := HBC
      refine pure_ (i := 1) (N := some 51) (v := ?_) (a' := ?_) #[false, true, false, false, false, false, false, false, false, false, false, false, false, false, false, false] rfl rfl (any_of HT_.out (by kernel_rfl)) (fun _ _ _ h => h) (Or.inl ⟨by rfl, ?_⟩) ?_ ?_
      rotate_left
      · intro w'
        go_simp
        with_reducible rfl
      rotate_left
      · simp only [Act.put, List.setIfInBounds_toArray, List.set_cons_zero, List.set_cons_succ, i64_w, i32_w]
        rfl
      refine pure_ (i := 2) (N := some 52) (v := ?_) (a' := ?_) #[false, true, true, false, false, false, false, false, false, false, false, false, false, false, false, false] rfl rfl (any_of HT_.out (by kernel_rfl)) (fun _ _ _ h => h) (Or.inl ⟨by rfl, ?_⟩) ?_ ?_
      rotate_left
      · intro w'
        go_simp
        with_reducible rfl
      rotate_left
      · simp only [Act.put, List.setIfInBounds_toArray, List.set_cons_zero, List.set_cons_succ, i64_w, i32_w]
        rfl
      refine pure_ (i := 3) (N := some 53) (v := ?_) (a' := ?_) #[false, true, true, true, false, false, false, false, false, false, false, false, false, false, false, false] rfl rfl (any_of HT_.out (by kernel_rfl)) (fun _ _ _ h => h) (Or.inl ⟨by rfl, ?_⟩) ?_ ?_
      rotate_left
      · intro w'
        go_simp
        with_reducible rfl
      rotate_left
      · simp only [Act.put, List.setIfInBounds_toArray, List.set_cons_zero, List.set_cons_succ, i64_w, i32_w]
        rfl
      refine pure_ (i := 4) (N := some 54) (v := ?_) (a' := ?_) #[false, true, true, true, true, false, false, false, false, false, false, false, false, false, false, false] rfl rfl (any_of HT_.out (by kernel_rfl)) (fun _ _ _ h => h) (Or.inl ⟨by rfl, ?_⟩) ?_ ?_
      rotate_left
      · intro w'
        go_simp
        with_reducible rfl
      rotate_left
      · simp only [Act.put, List.setIfInBounds_toArray, List.set_cons_zero, List.set_cons_succ, i64_w, i32_w]
        rfl
      refine pure_ (i := 11) (N := some 61) (v := ?_) (a' := ?_) #[false, true, true, true, true, false, false, false, false, false, false, true, false, false, false, false] rfl rfl (any_of HT_.out (by kernel_rfl)) (fun _ _ _ h => h) (Or.inl ⟨by rfl, ?_⟩) ?_ ?_
      rotate_left
      · intro w'
        go_simp
        with_reducible rfl
      rotate_left
      · simp only [Act.put, List.setIfInBounds_toArray, List.set_cons_zero, List.set_cons_succ, i64_w, i32_w]
        rfl
      refine pure_ (i := 5) (N := some 55) (v := ?_) (a' := ?_) #[false, true, true, true, true, true, false, false, false, false, false, true, false, false, false, false] rfl rfl (any_of HT_.out (by kernel_rfl)) (fun _ _ _ h => h) (Or.inl ⟨by rfl, ?_⟩) ?_ ?_
      rotate_left
      · intro w'
        go_simp
        with_reducible rfl
      rotate_left
      · simp only [Act.put, List.setIfInBounds_toArray, List.set_cons_zero, List.set_cons_succ, i64_w, i32_w]
        rfl
      refine take_ (i := 0) (N := some 50) (v := ?_) (a' := ?_) #[true, true, true, true, true, true, false, false, false, false, false, true, false, false, false, false] rfl rfl (take_ofW HT_.out HW_.out (by kernel_rfl)) (fun _ _ _ h => h) (Or.inl ⟨by rfl, ?_⟩) hHeld ?_ ?_
      rotate_left
      · rintro w' ⟨s0, s1, s2, s3, s4, s5, s6, s7, s8, s9, s10⟩
        go_simp
        with_reducible rfl
      rotate_left
      · simp only [Act.put, List.setIfInBounds_toArray, List.set_cons_zero, List.set_cons_succ, i64_w, i32_w]
        rfl
      refine take_ (i := 6) (N := some 56) (v := ?_) (a' := ?_) #[true, true, true, true, true, true, true, false, false, false, false, true, false, false, false, false] rfl rfl (take_ofW HT_.out HW_.out (by kernel_rfl)) (fun _ _ _ h => h) (Or.inl ⟨by rfl, ?_⟩) hHeld ?_ ?_
      rotate_left
      · rintro w' ⟨s0, s1, s2, s3, s4, s5, s6, s7, s8, s9, s10⟩
        go_simp
        with_reducible rfl
      rotate_left
      · simp only [Act.put, List.setIfInBounds_toArray, List.set_cons_zero, List.set_cons_succ, i64_w, i32_w]
        rfl
      refine take_ (i := 7) (N := some 57) (v := ?_) (a' := ?_) #[true, true, true, true, true, true, true, true, false, false, false, true, false, false, false, false] rfl rfl (take_ofW HT_.out HW_.out (by kernel_rfl)) (fun _ _ _ h => h) (Or.inl ⟨by rfl, ?_⟩) hHeld ?_ ?_
      rotate_left
      · rintro w' ⟨s0, s1, s2, s3, s4, s5, s6, s7, s8, s9, s10⟩
        go_simp
        with_reducible rfl
      rotate_left
      · simp only [Act.put, List.setIfInBounds_toArray, List.set_cons_zero, List.set_cons_succ, i64_w, i32_w]
        rfl
      refine pure_ (i := 8) (N := some 58) (v := ?_) (a' := ?_) #[true, true, true, true, true, true, true, true, true, false, false, true, false, false, false, false] rfl rfl (any_of HT_.out (by kernel_rfl)) (fun _ _ _ h => h) (Or.inl ⟨by rfl, ?_⟩) ?_ ?_
      rotate_left
      · intro w'
        go_simp
        with_reducible rfl
      rotate_left
      · simp only [Act.put, List.setIfInBounds_toArray, List.set_cons_zero, List.set_cons_succ, i64_w, i32_w]
        rfl
      refine one_ (i := 9) (N := some 59) #[true, true, true, true, true, true, true, true, true, true, false, true, false, false, false, false] rfl rfl (one_of HT_.out (by kernel_rfl)) (by decide) (fun K hK => ?_)
      refine Kd.N_lit_step k82 (w0 := w12) w12.heap.size 82 ?hg (N' := 59) ?hd (xs := [(⟨⟨a2_0, a2_1, a2_2, a2_3, l2_4⟩, ⟨a3_0, a3_1, a3_2, a3_3, l3_4⟩⟩ : S82)]) (inner := [.int .i64 a2_0, .int .i64 a2_1, .string a2_2, .int .i64 a2_3, .slice A2_4 l2_4.length c2_4, .int .i64 a3_0, .int .i64 a3_1, .string a3_2, .int .i64 a3_3, .slice A3_4 l3_4.length c3_4]) (ok := (fun k_ => ((P0_0_ k_ ∨ P2_4_ k_ ∨ P3_4_ k_) ∧ k_ < w.heap.size) ∨ w12.heap.size ≤ k_)) (okp := fun k => (P2_4_ k ∨ P3_4_ k) ∧ k < w.heap.size) ?hr ?hp (fun k hk => .inl ⟨.inr hk.1, hk.2⟩) (.inr (Nat.le_refl _)) (Below.refl _ _) (Nat.le_refl _) (by simp) ?_; (case hd => rfl); (case hg => rfl); (case hr => first | (go_simp; done) | (go_simp; rfl))
      case hp => exact Reps.c10 (k82_mkF _ _ (⟨⟨a2_0, a2_1, a2_2, a2_3, l2_4⟩, ⟨a3_0, a3_1, a3_2, a3_3, l3_4⟩⟩ : S82) HC2.out (Kd.F_mono (Kd.F_old HF2.out HBW.out) (fun k hk => ⟨.inl hk.1, hk.2⟩)) HC3.out (Kd.F_mono (Kd.F_old HF3.out HBW.out) (fun k hk => ⟨.inr hk.1, hk.2⟩))) (Reps.none _ _)
      intro v59 w13 ho59 hb13 hg13 hat13
      obtain ⟨g59, cap59, rfl, hb59, hl59, _⟩ := Kd.N_form ho59 (by simp)
      have n4 := Aside0.mk (blk_below C4.out hb13)
      have n6 := Aside0.mk (blk_below C6.out hb13)
      have n7 := Aside0.mk (blk_below C7.out hb13)
      have n8 := Aside0.mk (blk_below C8.out hb13)
      have nb := Aside0.mk (HBC.out.trans (hb13.mono HBC.out.size))
      clear B4 B6 B7 B8 HBW
      have B4 := n4
      have B6 := n6
      have B7 := n7
      have B8 := n8
      have HBW := nb
      clear n4 n6 n7 n8 nb
      have HO59 := Aside0.mk ho59
      have HBX := Aside0.mk hb13
      clear ho59 hg13 hat13 hb13 hb59 hl59
      refine hK.out _ _ ⟨(blk_cell B4.out 0).trans rfl, (blk_cell B6.out 0).trans rfl, (blk_cell B6.out 1).trans rfl, (blk_cell B6.out 2).trans rfl, (blk_cell B6.out 3).trans rfl, (blk_cell B6.out 4).trans rfl, (blk_cell B7.out 0).trans rfl, (blk_cell B7.out 1).trans rfl, (blk_cell B7.out 2).trans rfl, (blk_cell B7.out 3).trans rfl, (blk_cell B7.out 4).trans rfl⟩ (fun hHeld => ?_)
      clear hK K
      refine norm_ (a' := ?_) ?_ ?_
      rotate_left
      · show Act.put _ (some 59) _ = _
        simp only [Act.put, List.setIfInBounds_toArray, List.set_cons_zero, List.set_cons_succ, i64_w, i32_w]
        rfl
      refine one_ (i := 10) (N := some 60) #[true, true, true, true, true, true, true, true, true, true, true, true, false, false, false, false] rfl rfl (one_of HT_.out (by kernel_rfl)) (by decide) (fun K hK => ?_)
      refine N_append_full_step k82 (w0 := w12) w12.heap.size rfl (.tmp 55) (.tmp 59) 41 82 (.agg #[.int .i64 0, .int .i64 0, .string (⟨#[]⟩ : ByteArray), .int .i64 0, .slice none 0 0, .int .i64 0, .int .i64 0, .string (⟨#[]⟩ : ByteArray), .int .i64 0, .slice none 0 0]) 128 rfl Try.underlying41 info82 rfl (by decide) (by omega) (l.take ix) [(⟨⟨a2_0, a2_1, a2_2, a2_3, l2_4⟩, ⟨a3_0, a3_1, a3_2, a3_3, l3_4⟩⟩ : S82)] Am ⟨g59, 0, none⟩ _ 1 cap59 (fun k_ => ((P0_0_ k_ ∨ P2_4_ k_ ∨ P3_4_ k_) ∧ k_ < w.heap.size) ∨ w12.heap.size ≤ k_) (fun k => P0_0_ k ∧ k < w.heap.size) (fun k_ => ((P0_0_ k_ ∨ P2_4_ k_ ∨ P3_4_ k_) ∧ k_ < w.heap.size) ∨ w12.heap.size ≤ k_) rfl rfl ?_ (Kd.F_take (Kd.F_old HFm.out HBW.out) HI1.out) (Kd.N_F HO59.out) ?_ (by omega) (fun k hk => .inl ⟨.inl hk.1, hk.2⟩) (fun _ hk => hk) (fun k hk => .inr (Nat.le_trans HBX.out.size hk)) HBX.out HBX.out.size ?_ ?_
      · rw [List.length_take]; have := HI1.out; omega
      · intro hA
        have h_ := Kd.F_now HFm.out
        rw [hA] at h_
        rcases Nat.eq_zero_or_pos l.length with h0 | h0
        · rw [List.length_take]; omega
        · obtain ⟨ad_, he, _⟩ := h_.2.2 h0
          cases he
      · rw [List.length_take]; have h1_ := HMX.out; have h2_ := HI1.out; omega
      intro v60 w14 ho60 hb14 hg14 hat14
      have n4 := Aside0.mk (blk_below C4.out hb14)
      have n6 := Aside0.mk (blk_below C6.out hb14)
      have n7 := Aside0.mk (blk_below C7.out hb14)
      have n8 := Aside0.mk (blk_below C8.out hb14)
      have nb := Aside0.mk (HBC.out.trans (hb14.mono HBC.out.size))
      clear B4 B6 B7 B8 HBW
      have B4 := n4
      have B6 := n6
      have B7 := n7
      have B8 := n8
      have HBW := nb
      clear n4 n6 n7 n8 nb
      have HO60 := Aside0.mk ho60
      have HAT := Aside0.mk hat14
      have HSZ13 := Aside0.mk (Nat.le_trans HBC.out.size HBX.out.size)
      clear HBX HO59
      have HBX := Aside0.mk hb14
      clear ho60 hg14 hat14 hb14
      refine hK.out _ _ ⟨(blk_cell B4.out 0).trans rfl, (blk_cell B6.out 0).trans rfl, (blk_cell B6.out 1).trans rfl, (blk_cell B6.out 2).trans rfl, (blk_cell B6.out 3).trans rfl, (blk_cell B6.out 4).trans rfl, (blk_cell B7.out 0).trans rfl, (blk_cell B7.out 1).trans rfl, (blk_cell B7.out 2).trans rfl, (blk_cell B7.out 3).trans rfl, (blk_cell B7.out 4).trans rfl⟩ (fun hHeld => ?_)
      clear hK K
      refine norm_ (a' := ?_) ?_ ?_
      rotate_left
      · show Act.put _ (some 60) _ = _
        simp only [Act.put, List.setIfInBounds_toArray, List.set_cons_zero, List.set_cons_succ, i64_w, i32_w]
        rfl
      refine one_ (i := 12) (N := some 62) #[true, true, true, true, true, true, true, true, true, true, true, true, true, false, false, false] rfl rfl (one_of HT_.out (by kernel_rfl)) (by decide) (fun K hK => ?_)
      refine Kd.N_append_rows_step k82 (w0 := w12) w12.heap.size rfl (.tmp 60) (.tmp 61) 41 82 (.agg #[.int .i64 0, .int .i64 0, .string (⟨#[]⟩ : ByteArray), .int .i64 0, .slice none 0 0, .int .i64 0, .int .i64 0, .string (⟨#[]⟩ : ByteArray), .int .i64 0, .slice none 0 0]) 128 rfl Try.underlying41 info82 rfl (by decide) (by omega) v60 (l.take ix ++ [(⟨⟨a2_0, a2_1, a2_2, a2_3, l2_4⟩, ⟨a3_0, a3_1, a3_2, a3_3, l3_4⟩⟩ : S82)]) (l.drop ix) B1 (l.length - ix) (cm - ix) (fun k_ => ((P0_0_ k_ ∨ P2_4_ k_ ∨ P3_4_ k_) ∧ k_ < w.heap.size) ∨ w12.heap.size ≤ k_) (fun k => P0_0_ k ∧ k < w.heap.size) rfl rfl HO60.out ?_ (fun k hk => ⟨.inl ⟨.inl hk.1, hk.2⟩, ?_⟩) (fun k hk => .inr (Nat.le_trans HBX.out.size hk)) HBX.out HBX.out.size ?_ ?_
      · have h_ := Kd.F_cut (m := ix) (c := cm) (Kd.F_old HFm.out HBW.out) HJ.out HLE.out
        rw [List.length_drop] at h_
        rw [HBJ.out]
        exact h_
      · obtain ⟨b_, hb_, hge_⟩ := HAT.out
        rw [hb_]
        intro he_
        injection he_ with he_
        have h1_ := hk.2
        have h2_ := HSZ13.out
        omega
      · rw [List.length_append, List.length_take]; have h1_ := HMX.out; have h2_ := HI1.out; simp; omega
      intro v62 w15 ho62 hb15 hg15 hat15
      have n4 := Aside0.mk (blk_below C4.out hb15)
      have n6 := Aside0.mk (blk_below C6.out hb15)
      have n7 := Aside0.mk (blk_below C7.out hb15)
      have n8 := Aside0.mk (blk_below C8.out hb15)
      have nb := Aside0.mk (HBC.out.trans (hb15.mono HBC.out.size))
      clear B4 B6 B7 B8 HBW
      have B4 := n4
      have B6 := n6
      have B7 := n7
      have B8 := n8
      have HBW := nb
      clear n4 n6 n7 n8 nb
      have HBY := Aside0.mk hb15
      obtain ⟨A62, c62, rfl⟩ := Kd.N_slice ho62
      have HV62 := Aside0.mk (show Kd.V k82 82 w15 w15.heap.size (fun k_ => ((P0_0_ k_ ∨ P2_4_ k_ ∨ P3_4_ k_) ∧ k_ < w.heap.size) ∨ w12.heap.size ≤ k_) (.slice A62 (l.take ix ++ [(⟨⟨a2_0, a2_1, a2_2, a2_3, l2_4⟩, ⟨a3_0, a3_1, a3_2, a3_3, l3_4⟩⟩ : S82)] ++ l.drop ix).length c62) (l.take ix ++ [(⟨⟨a2_0, a2_1, a2_2, a2_3, l2_4⟩, ⟨a3_0, a3_1, a3_2, a3_3, l3_4⟩⟩ : S82)] ++ l.drop ix) from Kd.V_mk (Kd.N_reads' ho62).2.1 (Kd.N_F ho62))
      clear ho62 hg15 hat15 hb15 HO60 HAT HBX
      refine hK.out _ _ ⟨(blk_cell B4.out 0).trans rfl, (blk_cell B6.out 0).trans rfl, (blk_cell B6.out 1).trans rfl, (blk_cell B6.out 2).trans rfl, (blk_cell B6.out 3).trans rfl, (blk_cell B6.out 4).trans rfl, (blk_cell B7.out 0).trans rfl, (blk_cell B7.out 1).trans rfl, (blk_cell B7.out 2).trans rfl, (blk_cell B7.out 3).trans rfl, (blk_cell B7.out 4).trans rfl⟩ (fun hHeld => ?_)
      clear hK K
      refine norm_ (a' := ?_) ?_ ?_
      rotate_left
      · show Act.put _ (some 62) _ = _
        simp only [Act.put, List.setIfInBounds_toArray, List.set_cons_zero, List.set_cons_succ, i64_w, i32_w]
        rfl
      refine one_ (i := 13) (N := some 63) #[true, true, true, true, true, true, true, true, true, true, true, true, true, true, false, false] rfl rfl (one_of HT_.out (by kernel_rfl)) (by decide) (fun K hK => ?_)
      refine goes_ Try.func38 (by kernel_rfl) rfl #[.agg #[.slice (some ad) l0_0.length c0_0], .int .i64 a1, .slice A62 (l.take ix ++ [(⟨⟨a2_0, a2_1, a2_2, a2_3, l2_4⟩, ⟨a3_0, a3_1, a3_2, a3_3, l3_4⟩⟩ : S82)] ++ l.drop ix).length c62] (by rfl) rfl rfl (by (try simp only [List.map_toArray, List.map_cons, List.map_nil]); first | done | rfl | (go_simp; done) | (go_simp; simp; done)) ?_
      refine (heap_with.calls (fun k => P0_0_ k ∧ k < w.heap.size) (some ad) c0_0 l0_0 a1 (fun k_ => ((P0_0_ k_ ∨ P2_4_ k_ ∨ P3_4_ k_) ∧ k_ < w.heap.size) ∨ w12.heap.size ≤ k_) A62 c62 (l.take ix ++ [(⟨⟨a2_0, a2_1, a2_2, a2_3, l2_4⟩, ⟨a3_0, a3_1, a3_2, a3_3, l3_4⟩⟩ : S82)] ++ l.drop ix) _ w15 (Kd.V_mk HC0.out (Kd.F_old HF0.out HBW.out)) HV62.out HWITH.out).mono ?_
      rintro e_ w16 ⟨v63, rfl, ho63, hb16⟩
      refine ⟨_, rfl, ?_⟩
      have hb16c := HBY.out.trans (hb16.mono HBY.out.size)
      have HN63 := Aside0.mk (Kd.N_mono (ok' := (fun k_ => ((P0_0_ k_ ∨ P2_4_ k_ ∨ P3_4_ k_) ∧ k_ < w.heap.size) ∨ w12.heap.size ≤ k_)) (Kd.N_lower ho63 HBW.out.size) (fun k hk => hk.elim (fun h1 => h1.elim (fun h2 => .inl ⟨.inl h2.1, h2.2⟩) id) (fun h1 => .inr (Nat.le_trans HBY.out.size h1))))
      have n4 := Aside0.mk (blk_below C4.out hb16c)
      have n6 := Aside0.mk (blk_below C6.out hb16c)
      have n7 := Aside0.mk (blk_below C7.out hb16c)
      have n8 := Aside0.mk (blk_below C8.out hb16c)
      have nb := Aside0.mk (HBC.out.trans (hb16c.mono HBC.out.size))
      clear B4 B6 B7 B8 HBW
      have B4 := n4
      have B6 := n6
      have B7 := n7
      have B8 := n8
      have HBW := nb
      clear n4 n6 n7 n8 nb
      have HSZ15 := Aside0.mk hb16.size
      have HOWN := Aside0.mk (Kd.N_base ho63)
      clear ho63 hb16 hb16c
      refine hK.out _ _ ⟨(blk_cell B4.out 0).trans rfl, (blk_cell B6.out 0).trans rfl, (blk_cell B6.out 1).trans rfl, (blk_cell B6.out 2).trans rfl, (blk_cell B6.out 3).trans rfl, (blk_cell B6.out 4).trans rfl, (blk_cell B7.out 0).trans rfl, (blk_cell B7.out 1).trans rfl, (blk_cell B7.out 2).trans rfl, (blk_cell B7.out 3).trans rfl, (blk_cell B7.out 4).trans rfl⟩ (fun hHeld => ?_)
      clear hK K
      refine norm_ (a' := ?_) ?_ ?_
      rotate_left
      · show Act.put _ (some 63) _ = _
        simp only [Act.put, List.setIfInBounds_toArray, List.set_cons_zero, List.set_cons_succ, i64_w, i32_w]
        rfl
      refine one_ (i := 14) (N := none) #[true, true, true, true, true, true, true, true, true, true, true, true, true, true, true, false] rfl rfl (one_of HT_.out (by kernel_rfl)) (by decide) (fun K hK => ?_)
      obtain ⟨A63, c63, rfl⟩ := Kd.N_slice HN63.out
      have hc8 : w16.cell? ⟨w.heap.size + 1 + 1 + 1, 0, none⟩ = some (.slice none 0 0) := (blk_cell B8.out 0).trans rfl
      have hf8 := blk_frozen B8.out 0
      rw [if_pos (by rfl)]
      unfold Oper.wp
      go_simp
      obtain ⟨w17, hw17⟩ : ∃ w17, w17 = w16.setCell ⟨w.heap.size + 1 + 1 + 1, 0, none⟩ (.slice A63 l0_0.length c63) := ⟨_, rfl⟩
      rw [← hw17]
      have hP3 := (Array.getElem?_eq_some_iff.1 C8.out).1
      have n4 := Aside0.mk (show w17.heap[w.heap.size]? = _ from hw17 ▸ blk_far B4.out (by simp <;> omega) _)
      have n6 := Aside0.mk (show w17.heap[w.heap.size + 1]? = _ from hw17 ▸ blk_far B6.out (by simp <;> omega) _)
      have n7 := Aside0.mk (show w17.heap[w.heap.size + 1 + 1]? = _ from hw17 ▸ blk_far B7.out (by simp <;> omega) _)
      have n8 : w17.heap[w.heap.size + 1 + 1 + 1]? = some (.cells #[.slice A63 l0_0.length c63] 27 (0, 0)) := hw17 ▸ Boxed.set _ (show Boxed w16 (w.heap.size + 1 + 1 + 1) 27 (.slice none 0 0) from B8.out)
      have nb := Aside0.mk (show Below w.heap.size w w17 from hw17 ▸ HBW.out.setCell (p := ⟨w.heap.size + 1 + 1 + 1, 0, none⟩) (by simp <;> omega) _)
      have hN17 := Kd.N_mono (ok' := (fun k_ => ((P0_0_ k_ ∨ P2_4_ k_ ∨ P3_4_ k_) ∨ w.heap.size ≤ k_))) (Kd.N_far (p := ⟨w.heap.size + 1 + 1 + 1, 0, none⟩) HN63.out (fun k hk => by rcases hk with hk | hk <;> simp <;> omega) (.slice A63 l0_0.length c63)) (fun k hk => hk.elim (fun h1 => .inl h1.1) (fun h1 => .inr (Nat.le_trans HBC.out.size h1)))
      rw [← hw17] at hN17
      have HN17 := Aside0.mk hN17
      have HN8 := Aside0.mk n8
      clear B4 B6 B7 hN17 n8 hc8 hf8 hP3
      have B4 := n4
      have B6 := n6
      have B7 := n7
      refine hK.out _ _ ⟨(blk_cell B4.out 0).trans rfl, (blk_cell B6.out 0).trans rfl, (blk_cell B6.out 1).trans rfl, (blk_cell B6.out 2).trans rfl, (blk_cell B6.out 3).trans rfl, (blk_cell B6.out 4).trans rfl, (blk_cell B7.out 0).trans rfl, (blk_cell B7.out 1).trans rfl, (blk_cell B7.out 2).trans rfl, (blk_cell B7.out 3).trans rfl, (blk_cell B7.out 4).trans rfl⟩ (fun hHeld => ?_)
      clear hK K
      refine pure_ (i := 15) (N := some 9) (v := ?_) (a' := ?_) #[true, true, true, true, true, true, true, true, true, true, true, true, true, true, true, true] rfl rfl (any_of HT_.out (by kernel_rfl)) (fun _ _ _ h => h) (Or.inl ⟨by rfl, ?_⟩) ?_ ?_
      rotate_left
      · intro w'
        go_simp
        with_reducible rfl
      rotate_left
      · simp only [Act.put, List.setIfInBounds_toArray, List.set_cons_zero, List.set_cons_succ, i64_w, i32_w]
        rfl
      refine done_ (done_of HT_.out (by kernel_rfl)) ?_
      go_wp2
      have hc9 : w17.cell? ⟨w.heap.size + 1 + 1 + 1, 0, none⟩ = some (.slice A63 l0_0.length c63) := (blk_cell HN8.out 0).trans rfl
      have HNF := HN17.out
      rw [List.length_set] at HNF
      refine bodyPost_ret (v := .tuple #[.agg #[.slice A63 l0_0.length c63], .int .i64 0]) ?_ rfl ⟨_, rfl, HNF, nb.out⟩
      simp [results, Try.f10, go_sem, hu27, hc9]
end Go.Proofs.Ytnokieaebnmljaa.PAll
namespace Go.Proofs.Ytnokieaebnmljaa.PAll
open Go Go.Proofs Go.RowKit Go.Shelf Go.Proofs.YtnokieaebnmljaaW.PrintWords Go.Proofs.YtnokieaebnmljaaW.PrintLast Go.Proofs.YtnokieaebnmljaaW.PrintMore
attribute [local go_sem] Oper.semAt_some
set_option linter.unusedVariables false
set_option linter.unusedSimpArgs false
/-- append of nothing onto a cut without room: it stays as it is. -/
theorem append_zero_run {P : Program} {W : World} (t ty e : TypeId) (z : Value) (size bytes : Nat) (ht : P.underlying t = some (.slice e)) (hinfo : (P.info? e).map (fun i => (i.zero, i.size, i.bytes)) = some (some z, size, bytes)) (Ax Ay : Option Addr) (n c : Nat) :
    (Builtin.append_ #[t, t] ty #[.slice Ax n n, .slice Ay 0 c]).run P W = .ok (.slice Ax n n) W := by
  obtain ⟨i0, hi, hzz⟩ := Option.map_eq_some_iff.1 hinfo
  cases Ax <;> cases Ay <;> simp [Builtin.append_, run_underlying ht, sizeOf, typeInfo, hi, Builtin.lenOf, Builtin.firstCells, storeCells, loadCells, loadCellsFrom]
section
variable {P : Program} {ops : Array Oper} {rest : List Oper} {o : Oper} {a : Act} {Q : Exit → Act → World → Prop} {Kc : Act → World → Prop}
theorem V_append_full_step {α : Type} (d : Kd α) {w0 W : World} (base : Nat) (hw : Region.wanted o (yielded ops a.tmps) = true) (s x : Operand) (t e : TypeId) (z : Value) (bytes : Nat)
    (ho : o.op = .call { callee := .builtin .append, args := #[s, x], argTypes := #[t, t] })
    (ht : P.underlying t = some (.slice e)) (hinfo : (P.info? e).map (fun i => (i.zero, i.size, i.bytes)) = some (some z, d.sz, bytes)) (hz : z.cells.size = d.sz) (hs0 : 0 < d.sz) (hb0 : 0 < bytes)
    (xs ys : List α) (Ax Ay : Option Addr) (n m c : Nat) (ok okx oky : Nat → Prop) (hs : a.eval s = .slice Ax n n) (hx : a.eval x = .slice Ay m c) (hn : n = xs.length)
    (HX : Kd.F d W okx Ax xs.length xs) (HY : Kd.F d W oky Ay m ys) (hAx : Ax = none → xs.length = 0) (hokx : ∀ k, okx k → ok k) (hoky : ∀ k, oky k → ok k) (hfresh : ∀ k, W.heap.size ≤ k → ok k)
    (HB : Below base w0 W) (hbase : base ≤ W.heap.size) (hl : (xs.length + m) * bytes ≤ 140737488355328)
    (h : ∀ v1 w1, Kd.V d e w1 base ok v1 (xs ++ ys) → Below base w0 w1 → Kc (a.put o.dst v1) w1) :
    if Region.wanted o (yielded ops a.tmps) = true then Oper.wp P o a W Kc Q else Kc (a.put o.dst undef) W := by
  subst hn
  have key : ∃ v1 w1, (Builtin.append_ #[t, t] o.type #[.slice Ax xs.length xs.length, .slice Ay m c]).run P W = .ok v1 w1 ∧ Kd.V d e w1 base ok v1 (xs ++ ys) ∧ Below base w0 w1 := by
    rcases Nat.eq_zero_or_pos m with rfl | hm
    · have hy : ys = [] := List.eq_nil_of_length_eq_zero (Kd.F_len HY)
      subst hy
      refine ⟨_, W, append_zero_run t o.type e z d.sz bytes ht hinfo Ax Ay xs.length c, ?_, HB⟩
      rw [List.append_nil]
      exact Kd.V_mk (Nat.le_refl _) (Kd.F_mono HX hokx)
    · obtain ⟨ad, rfl, _⟩ := (Kd.F_now HY).2.2 hm
      obtain ⟨v1, w1, hr1, h1, hg, hb⟩ := append_full_run (P := P) d base t o.type e z bytes ht hinfo hz hs0 hb0 xs ys Ax ad m c ok okx oky HX HY hAx hm hokx hoky hfresh hbase hl
      exact ⟨v1, w1, hr1, Kd.N_V h1, HB.grown hg hbase (by simp)⟩
  obtain ⟨v1, w1, hr1, h1, hb⟩ := key
  rw [if_pos hw]
  unfold Oper.wp execOp
  simp only [ho, resolve, invoke, builtin, Sem.run_bind, Sem.run_pure, Result.andThen_ok, List.map_toArray, List.map_cons, List.map_nil, hs, hx, hr1]
  exact h v1 w1 h1 hb
end
theorem placeOf_ok {c : S82 → Int} : ∀ (l : List S82) (s : Int), (placeOf c l s).2 = true → l ≠ []
  | [], s, h => by simp [placeOf] at h
  | e :: es, s, h => by simp
noncomputable def heap_Del.f (k : Nat) (l0_0 : List (List S82)) (a1 : Int) (a2_0 : Int) (a2_1 : Int) (a2_2 : ByteArray) (a2_3 : Int) (l2_4 : List S35) : Option (List (List S82)) :=
  (heap_place.f k l0_0 a1 a2_0 a2_1 a2_2 a2_3 l2_4).bind fun p =>
    if p.2 = true then (if l0_0.length ≤ 11728124029610 ∧ (mapOf l0_0 a1).length ≤ 549755813886 then some (l0_0.set a1.toNat ((mapOf l0_0 a1).take p.1.toNat ++ (mapOf l0_0 a1).drop (p.1.toNat + 1))) else none)
    else some l0_0
theorem heap_Del.mono : ∀ l0_0 a1 a2_0 a2_1 a2_2 a2_3 l2_4 k, LeO (heap_Del.f k l0_0 a1 a2_0 a2_1 a2_2 a2_3 l2_4) (heap_Del.f (k + 1) l0_0 a1 a2_0 a2_1 a2_2 a2_3 l2_4) := by
  intro l0_0 a1 a2_0 a2_1 a2_2 a2_3 l2_4 k
  unfold heap_Del.f
  exact LeO.bind (heap_place.mono _ _ _ _ _ _ _ _) (fun _ => LeO.refl _)
def heap_Del.T5 : Bool × List (List Nat × List Nat) := (true, [([], []), ([], []), ([], []), ([], []), ([], []), ([2, 3, 4], [2, 3, 4]), ([], []), ([], []), ([7], [7]), ([6, 8], [6, 8]), ([5, 9], [5, 9]), ([0, 1, 10, 10], [0, 1, 10]), ([11, 11, 0, 1, 2, 3, 4, 5, 6, 7, 8, 9, 10, 11], [11])])
def heap_Del.B5 : List Nat := [0, 0, 0, 0, 0, 28, 0, 0, 128, 448, 1020, 2047, 4095]
theorem heap_Del.tab5 : rtab .any (opsOf Try.f12 5) = heap_Del.T5 := by kernel_rfl
theorem heap_Del.bits5 : waitsOk heap_Del.T5.2 heap_Del.B5 = true := by kernel_rfl
set_option maxHeartbeats 16000000 in
set_option maxRecDepth 100000 in
theorem heap_Del.calls (k : Nat) (P0_0_ : Nat → Prop) (A0_0 : Option Addr) (c0_0 : Nat) (l0_0 : List (List (S82))) (a1 : Int) (a2_0 : Int) (a2_1 : Int) (a2_2 : ByteArray) (a2_3 : Int) (A2_4 : Option Addr) (c2_4 : Nat) (l2_4 : List (S35)) (r : List (List (S82))) (w : World) (hs0_0 : Kd.V (Kd.slice 82 k82) 41 w w.heap.size (fun k_ => P0_0_ k_) (.slice A0_0 l0_0.length c0_0) l0_0) (hr2_4 : Kd.C k35 w A2_4 l2_4.length l2_4) (hc2_4 : l2_4.length ≤ c2_4) (h : heap_Del.f k l0_0 a1 a2_0 a2_1 a2_2 a2_3 l2_4 = some r) :
    Calls Try.prog 12 #[.agg #[.slice A0_0 l0_0.length c0_0], .int .i64 a1, .agg #[.int .i64 a2_0, .int .i64 a2_1, .string a2_2, .int .i64 a2_3, .slice A2_4 l2_4.length c2_4]] w fun e w' => ∃ v0_ : Value, e = .returned (.agg #[v0_]) ∧ Kd.V (Kd.slice 82 k82) 41 w' w.heap.size (fun k_ => (P0_0_ k_ ∨ w.heap.size ≤ k_)) v0_ r ∧ Below w.heap.size w w' := by
  have hu27 := Try.underlying27
  have hu35 := Try.underlying35
  have hu82 := Try.underlying82
  unfold heap_Del.f at h
  obtain ⟨p, hp, h⟩ := Option.bind_eq_some_iff.mp h
  have HF0 := Aside0.mk (Kd.V_F hs0_0)
  have HC0 := Aside0.mk (Kd.V_at hs0_0).2.1
  have HR2 := Aside0.mk hr2_4
  have HC2 := Aside0.mk hc2_4
  obtain ⟨p1, p2⟩ := p
  have HP := Aside0.mk hp
  have HH := Aside0.mk h
  clear hs0_0 hr2_4 hc2_4 hp h
  go_enter Try.func12, Try.ntmps12
  go_wp2_with (fail)
  obtain ⟨wA, hwA⟩ : ∃ wA, wA = ((w.alloc (Obj.cells #[.slice A0_0 l0_0.length c0_0] 27)).alloc (Obj.cells #[.int .i64 a2_0, .int .i64 a2_1, .string a2_2, .int .i64 a2_3, .slice A2_4 l2_4.length c2_4] 35)).alloc (Obj.cells #[.slice none 0 0] 27) := ⟨_, rfl⟩
  have hBA : Below w.heap.size w wA := by
    rw [hwA]
    exact ((((Below.refl _ w).alloc (Nat.le_refl _) _).alloc (by simp) _).alloc (by simp; omega) _)
  have R4 : wA.heap[w.heap.size]? = some (.cells #[.slice A0_0 l0_0.length c0_0] 27 (0, 0)) := by
    rw [hwA]
    exact blk_alloc (blk_alloc (World.alloc_heap_new w _) _) _
  have R8 : wA.heap[w.heap.size + 1 + 1]? = some (.cells #[.slice none 0 0] 27 (0, 0)) := by
    rw [hwA]
    have h_ := World.alloc_heap_new ((w.alloc (Obj.cells #[.slice A0_0 l0_0.length c0_0] 27)).alloc (Obj.cells #[.int .i64 a2_0, .int .i64 a2_1, .string a2_2, .int .i64 a2_3, .slice A2_4 l2_4.length c2_4] 35)) (Obj.cells #[.slice none 0 0] 27)
    rwa [World.size_alloc, World.size_alloc] at h_
  rw [← hwA]
  clear hwA
  refine (heap_place.calls k A0_0 c0_0 l0_0 a1 a2_0 a2_1 a2_2 a2_3 A2_4 c2_4 l2_4 p1 p2 wA (Kd.F_now (Kd.F_below HF0.out hBA)) HC0.out (Kd.C_below HR2.out hBA) HC2.out HP.out).mono ?_
  rintro e_ w1 ⟨rfl, hb1⟩
  have D4 := Aside0.mk (blk_below R4 hb1)
  have D8 := Aside0.mk (blk_below R8 hb1)
  have HBD := Aside0.mk (hBA.trans (hb1.mono hBA.size))
  clear R4 R8 hb1 hBA
  have hcs0 : w1.cell? ⟨w.heap.size, 0, none⟩ = some (.slice A0_0 l0_0.length c0_0) := (blk_cell D4.out 0).trans rfl
  dsimp only
  cases p2 with
  | false =>
    have hf := HH.out
    simp only [Bool.false_eq_true, if_false, Option.some.injEq] at hf
    subst hf
    have hc8 : w1.cell? ⟨w.heap.size + 1 + 1, 0, none⟩ = some (.slice none 0 0) := (blk_cell D8.out 0).trans rfl
    have hf8 := blk_frozen D8.out 0
    clear HH
    go_wp2
    have hc9 := World.cell?_setCell_same' w1 ⟨w.heap.size + 1 + 1, 0, none⟩ (.slice A0_0 l0_0.length c0_0) (by rw [hc8]; rfl)
    have hbe := HBD.out.setCell (p := ⟨w.heap.size + 1 + 1, 0, none⟩) (by simp <;> omega) (.slice A0_0 l0_0.length c0_0)
    refine bodyPost_ret (v := .agg #[.slice A0_0 l0_0.length c0_0]) ?_ rfl ⟨_, rfl, Kd.V_mk HC0.out (Kd.F_mono (Kd.F_below HF0.out hbe) (fun k hk => .inl hk)), hbe⟩
    simp [results, Try.f12, go_sem, hu27, hc9]
  | true =>
    have hpf := HP.out
    unfold heap_place.f at hpf
    split at hpf
    case isFalse => exact absurd hpf (by simp)
    rename_i hcall
    have hpo := Option.some.inj hpf
    have hne : mapOf l0_0 a1 ≠ [] := placeOf_ok (c := cval k a2_0 a2_1 a2_2 a2_3 l2_4) (mapOf l0_0 a1) 0 (by rw [hpo])
    have hm : 0 ≤ a1 ∧ a1 < (l0_0.length : Int) := by
      by_cases hm : 0 ≤ a1 ∧ a1 < (l0_0.length : Int)
      · exact hm
      · exact absurd (by simp [mapOf, hm]) hne
    have hf := HH.out
    simp only [if_true] at hf
    by_cases hbd : l0_0.length ≤ 11728124029610 ∧ (mapOf l0_0 a1).length ≤ 549755813886
    case neg => rw [if_neg hbd] at hf; exact absurd hf (by simp)
    rw [if_pos hbd] at hf
    obtain rfl := Option.some.inj hf
    obtain ⟨ad, cs, rfl, hcl, hK, hcc, _⟩ := Kd.F_get HF0.out ([] : List S82) a1 hm.1 hm.2
    obtain ⟨Am, cm, rfl, hle, hFm⟩ := Kd.FK_slice_open hK
    have hcm := hcc 0 _ rfl
    rw [show (Kd.slice 82 k82).sz = 1 from rfl, Nat.mul_one, Nat.add_zero] at hcm
    obtain ⟨l, hl⟩ : ∃ l, l = l0_0.getD a1.toNat ([] : List S82) := ⟨_, rfl⟩
    have hmap : mapOf l0_0 a1 = l := by rw [hl]; simp [mapOf, hm, rd_L5]
    rw [← hl] at hcm hle hFm
    rw [hmap] at hbd
    obtain ⟨ix, hix1, hix2, hix3⟩ : ∃ ix : Nat, p1 = (ix : Int) ∧ ix ≤ l.length ∧ (true = true → ix < l.length) := by
      obtain ⟨ix, h1, h2, h3⟩ := placeOf_range (c := cval k a2_0 a2_1 a2_2 a2_3 l2_4) (mapOf l0_0 a1) 0
      rw [hpo] at h1 h3
      rw [hmap] at h2 h3
      exact ⟨ix, by simpa using h1, h2, h3⟩
    subst hix1
    have hJ : ix + 1 ≤ l.length := hix3 rfl
    have HJ := Aside0.mk hJ
    obtain ⟨i082, hi082, _, hsz82, _⟩ := info_parts info82
    have hcut3 := cut_full (P := Try.prog) 41 82 .i64 .i64 Try.underlying41 hi082 Am l.length cm (ix : Int) (by omega) (by omega) hle
    have hcut2 := cut_from (P := Try.prog) 41 82 .i64 Try.underlying41 hi082 10 hsz82 Am l.length cm ((ix : Int) + 1) (by omega) (by omega)
    simp only [Int.toNat_natCast, show ((ix : Int) + 1).toNat = ix + 1 from by omega] at hcut3 hcut2
    have hw : wrap64 ((ix : Int) + 1) = (ix : Int) + 1 := wrap_in _ (by have := hbd.2; omega)
    have hcm1 : w1.cell? (ad.add a1.toNat) = some (.slice Am l.length cm) := El.cell HBD.out hcm
    have HWITH : Aside0 (heap_with.f l0_0 a1 (l.take ix ++ l.drop (ix + 1)) = some (l0_0.set a1.toNat ((mapOf l0_0 a1).take (ix : Int).toNat ++ (mapOf l0_0 a1).drop ((ix : Int).toNat + 1)))) := ⟨by unfold heap_with.f; rw [if_pos ⟨hbd.1, hm⟩, hmap]; simp⟩
    have HFm := Aside0.mk hFm
    have HLE := Aside0.mk hle
    have HI1 := Aside0.mk hix2
    have HMX := Aside0.mk hbd.2
    have hd1 : decide (a1 < 0) = false := decide_eq_false (by omega)
    have hd3 : decide (0 ≤ a1) = true := decide_eq_true hm.1
    have hd4 : decide (a1 < (l0_0.length : Int)) = true := decide_eq_true hm.2
    obtain ⟨hm0, hm1⟩ := hm
    clear hpf hcall hpo hne hcl hK hcc hcm hl hmap hbd hFm hle hix2 hix3 hi082 hsz82 hJ HH hf
    obtain ⟨J, hJd⟩ : ∃ J, J = ix + 1 := ⟨_, rfl⟩
    rw [← hJd] at HJ hcut2 HWITH
    obtain ⟨B2, hB2⟩ : ∃ B2, B2 = (if cm = J then Am else Am.map (·.add (J * 10))) := ⟨_, rfl⟩
    rw [← hB2] at hcut2
    have HBJ := Aside0.mk hB2
    clear hJd hB2
    go_wp2
    refine start_ (n := 13) (S := fun w' => w'.cell? ⟨w.heap.size, 0, none⟩ = some (.slice (some ad) l0_0.length c0_0)) (ds := []) #[false, false, false, false, false, false, false, false, false, false, false, false, false] (by kernel_rfl) rfl rfl ?_ (fun hHeld => ?_)
    · exact (blk_cell (blk_drew D4.out) 0).trans rfl
    refine with_tabW heap_Del.tab5 heap_Del.bits5 (fun HT_ HW_ => ?_)
    have C4 := Aside0.mk (blk_drew D4.out)
    have C8 := Aside0.mk (blk_drew D8.out)
    have HBC := Aside0.mk (below_drew1 HBD.out)
    clear D4 D8 HBD
    generalize w1.drew = w12 at C4 C8 HBC hHeld ⊢
    have B4 := C4
    have B8 := C8
    have HBW := HBC
    refine pure_ (i := 1) (N := some 26) (v := ?_) (a' := ?_) #[false, true, false, false, false, false, false, false, false, false, false, false, false] rfl rfl (any_of HT_.out (by kernel_rfl)) (fun _ _ _ h => h) (Or.inl ⟨by rfl, ?_⟩) ?_ ?_
    rotate_left
    · intro w'
      go_simp
      with_reducible rfl
    rotate_left
    · simp only [Act.put, List.setIfInBounds_toArray, List.set_cons_zero, List.set_cons_succ, i64_w, i32_w]
      rfl
    refine pure_ (i := 2) (N := some 27) (v := ?_) (a' := ?_) #[false, true, true, false, false, false, false, false, false, false, false, false, false] rfl rfl (any_of HT_.out (by kernel_rfl)) (fun _ _ _ h => h) (Or.inl ⟨by rfl, ?_⟩) ?_ ?_
    rotate_left
    · intro w'
      go_simp
      with_reducible rfl
    rotate_left
    · simp only [Act.put, List.setIfInBounds_toArray, List.set_cons_zero, List.set_cons_succ, i64_w, i32_w]
      rfl
    refine pure_ (i := 3) (N := some 28) (v := ?_) (a' := ?_) #[false, true, true, true, false, false, false, false, false, false, false, false, false] rfl rfl (any_of HT_.out (by kernel_rfl)) (fun _ _ _ h => h) (Or.inl ⟨by rfl, ?_⟩) ?_ ?_
    rotate_left
    · intro w'
      go_simp
      with_reducible rfl
    rotate_left
    · simp only [Act.put, List.setIfInBounds_toArray, List.set_cons_zero, List.set_cons_succ, i64_w, i32_w]
      rfl
    refine pure_ (i := 4) (N := some 29) (v := ?_) (a' := ?_) #[false, true, true, true, true, false, false, false, false, false, false, false, false] rfl rfl (any_of HT_.out (by kernel_rfl)) (fun _ _ _ h => h) (Or.inl ⟨by rfl, ?_⟩) ?_ ?_
    rotate_left
    · intro w'
      go_simp
      with_reducible rfl
    rotate_left
    · simp only [Act.put, List.setIfInBounds_toArray, List.set_cons_zero, List.set_cons_succ, i64_w, i32_w]
      rfl
    refine pure_ (i := 6) (N := some 31) (v := ?_) (a' := ?_) #[false, true, true, true, true, false, true, false, false, false, false, false, false] rfl rfl (any_of HT_.out (by kernel_rfl)) (fun _ _ _ h => h) (Or.inl ⟨by rfl, ?_⟩) ?_ ?_
    rotate_left
    · intro w'
      go_simp
      with_reducible rfl
    rotate_left
    · simp only [Act.put, List.setIfInBounds_toArray, List.set_cons_zero, List.set_cons_succ, i64_w, i32_w]
      rfl
    refine pure_ (i := 7) (N := some 32) (v := ?_) (a' := ?_) #[false, true, true, true, true, false, true, true, false, false, false, false, false] rfl rfl (any_of HT_.out (by kernel_rfl)) (fun _ _ _ h => h) (Or.inl ⟨by rfl, ?_⟩) ?_ ?_
    rotate_left
    · intro w'
      go_simp
      with_reducible rfl
    rotate_left
    · simp only [Act.put, List.setIfInBounds_toArray, List.set_cons_zero, List.set_cons_succ, i64_w, i32_w]
      rfl
    refine pure_ (i := 8) (N := some 33) (v := ?_) (a' := ?_) #[false, true, true, true, true, false, true, true, true, false, false, false, false] rfl rfl (any_of HT_.out (by kernel_rfl)) (fun _ _ _ h => h) (Or.inl ⟨by rfl, ?_⟩) ?_ ?_
    rotate_left
    · intro w'
      go_simp
      with_reducible rfl
    rotate_left
    · simp only [Act.put, List.setIfInBounds_toArray, List.set_cons_zero, List.set_cons_succ, i64_w, i32_w]
      rfl
    refine pure_ (i := 5) (N := some 30) (v := ?_) (a' := ?_) #[false, true, true, true, true, true, true, true, true, false, false, false, false] rfl rfl (any_of HT_.out (by kernel_rfl)) (fun _ _ _ h => h) (Or.inl ⟨by rfl, ?_⟩) ?_ ?_
    rotate_left
    · intro w'
      go_simp
      with_reducible rfl
    rotate_left
    · simp only [Act.put, List.setIfInBounds_toArray, List.set_cons_zero, List.set_cons_succ, i64_w, i32_w]
      rfl
    refine pure_ (i := 9) (N := some 34) (v := ?_) (a' := ?_) #[false, true, true, true, true, true, true, true, true, true, false, false, false] rfl rfl (any_of HT_.out (by kernel_rfl)) (fun _ _ _ h => h) (Or.inl ⟨by rfl, ?_⟩) ?_ ?_
    rotate_left
    · intro w'
      go_simp
      with_reducible rfl
    rotate_left
    · simp only [Act.put, List.setIfInBounds_toArray, List.set_cons_zero, List.set_cons_succ, i64_w, i32_w]
      rfl
    refine take_ (i := 0) (N := some 25) (v := ?_) (a' := ?_) #[true, true, true, true, true, true, true, true, true, true, false, false, false] rfl rfl (take_ofW HT_.out HW_.out (by kernel_rfl)) (fun _ _ _ h => h) (Or.inl ⟨by rfl, ?_⟩) hHeld ?_ ?_
    rotate_left
    · intro w' s0
      go_simp
      with_reducible rfl
    rotate_left
    · simp only [Act.put, List.setIfInBounds_toArray, List.set_cons_zero, List.set_cons_succ, i64_w, i32_w]
      rfl
    refine one_ (i := 10) (N := some 35) #[true, true, true, true, true, true, true, true, true, true, true, false, false] rfl rfl (one_of HT_.out (by kernel_rfl)) (by decide) (fun K hK => ?_)
    refine V_append_full_step k82 (w0 := w12) w12.heap.size rfl (.tmp 30) (.tmp 34) 41 82 (.agg #[.int .i64 0, .int .i64 0, .string (⟨#[]⟩ : ByteArray), .int .i64 0, .slice none 0 0, .int .i64 0, .int .i64 0, .string (⟨#[]⟩ : ByteArray), .int .i64 0, .slice none 0 0]) 128 rfl Try.underlying41 info82 rfl (by decide) (by omega) (l.take ix) (l.drop J) Am B2 ix (l.length - J) (cm - J) (fun k_ => (P0_0_ k_ ∧ k_ < w.heap.size) ∨ w12.heap.size ≤ k_) (fun k => P0_0_ k ∧ k < w.heap.size) (fun k => P0_0_ k ∧ k < w.heap.size) rfl rfl ?_ (Kd.F_take (Kd.F_old HFm.out HBW.out) HI1.out) ?_ ?_ (fun k hk => .inl hk) (fun k hk => .inl hk) (fun k hk => .inr hk) (Below.refl _ _) (Nat.le_refl _) ?_ ?_
    · rw [List.length_take]; have := HI1.out; omega
    · have h_ := Kd.F_cut (m := J) (c := cm) (Kd.F_old HFm.out HBW.out) HJ.out HLE.out
      rw [List.length_drop] at h_
      rw [HBJ.out]
      exact h_
    · intro hA
      have h_ := Kd.F_now HFm.out
      rw [hA] at h_
      rcases Nat.eq_zero_or_pos l.length with h0 | h0
      · rw [List.length_take]; omega
      · obtain ⟨ad_, he, _⟩ := h_.2.2 h0
        cases he
    · rw [List.length_take]; have h1_ := HMX.out; have h2_ := HI1.out; omega
    intro v62 w15 ho62 hb15
    have n4 := Aside0.mk (blk_below C4.out hb15)
    have n8 := Aside0.mk (blk_below C8.out hb15)
    have nb := Aside0.mk (HBC.out.trans (hb15.mono HBC.out.size))
    clear B4 B8 HBW
    have B4 := n4
    have B8 := n8
    have HBW := nb
    clear n4 n8 nb
    have HBY := Aside0.mk hb15
    obtain ⟨A62, c62, rfl⟩ := Kd.V_slice ho62
    have HV62 := Aside0.mk (show Kd.V k82 82 w15 w15.heap.size (fun k_ => (P0_0_ k_ ∧ k_ < w.heap.size) ∨ w12.heap.size ≤ k_) (.slice A62 (l.take ix ++ l.drop J).length c62) (l.take ix ++ l.drop J) from ho62)
    clear ho62 hb15
    refine hK.out _ _ ((blk_cell B4.out 0).trans rfl) (fun hHeld => ?_)
    clear hK K
    refine norm_ (a' := ?_) ?_ ?_
    rotate_left
    · show Act.put _ (some 35) _ = _
      simp only [Act.put, List.setIfInBounds_toArray, List.set_cons_zero, List.set_cons_succ, i64_w, i32_w]
      rfl
    refine one_ (i := 11) (N := some 36) #[true, true, true, true, true, true, true, true, true, true, true, true, false] rfl rfl (one_of HT_.out (by kernel_rfl)) (by decide) (fun K hK => ?_)
    refine goes_ Try.func38 (by kernel_rfl) rfl #[.agg #[.slice (some ad) l0_0.length c0_0], .int .i64 a1, .slice A62 (l.take ix ++ l.drop J).length c62] (by rfl) rfl rfl (by (try simp only [List.map_toArray, List.map_cons, List.map_nil]); first | done | rfl | (go_simp; done) | (go_simp; simp; done)) ?_
    refine (heap_with.calls (fun k => P0_0_ k ∧ k < w.heap.size) (some ad) c0_0 l0_0 a1 (fun k_ => (P0_0_ k_ ∧ k_ < w.heap.size) ∨ w12.heap.size ≤ k_) A62 c62 (l.take ix ++ l.drop J) _ w15 (Kd.V_mk HC0.out (Kd.F_old HF0.out HBW.out)) HV62.out HWITH.out).mono ?_
    rintro e_ w16 ⟨v63, rfl, ho63, hb16⟩
    refine ⟨_, rfl, ?_⟩
    have hb16c := HBY.out.trans (hb16.mono HBY.out.size)
    have HN63 := Aside0.mk (Kd.N_mono (ok' := (fun k_ => (P0_0_ k_ ∧ k_ < w.heap.size) ∨ w12.heap.size ≤ k_)) (Kd.N_lower ho63 HBW.out.size) (fun k hk => hk.elim (fun h1 => h1.elim (fun h2 => .inl h2) id) (fun h1 => .inr (Nat.le_trans HBY.out.size h1))))
    have n4 := Aside0.mk (blk_below C4.out hb16c)
    have n8 := Aside0.mk (blk_below C8.out hb16c)
    have nb := Aside0.mk (HBC.out.trans (hb16c.mono HBC.out.size))
    clear B4 B8 HBW
    have B4 := n4
    have B8 := n8
    have HBW := nb
    clear n4 n8 nb
    clear ho63 hb16 hb16c
    refine hK.out _ _ ((blk_cell B4.out 0).trans rfl) (fun hHeld => ?_)
    clear hK K
    refine norm_ (a' := ?_) ?_ ?_
    rotate_left
    · show Act.put _ (some 36) _ = _
      simp only [Act.put, List.setIfInBounds_toArray, List.set_cons_zero, List.set_cons_succ, i64_w, i32_w]
      rfl
    refine one_ (i := 12) (N := none) #[true, true, true, true, true, true, true, true, true, true, true, true, true] rfl rfl (one_of HT_.out (by kernel_rfl)) (by decide) (fun K hK => ?_)
    obtain ⟨A63, c63, rfl⟩ := Kd.N_slice HN63.out
    have hc8 : w16.cell? ⟨w.heap.size + 1 + 1, 0, none⟩ = some (.slice none 0 0) := (blk_cell B8.out 0).trans rfl
    have hf8 := blk_frozen B8.out 0
    rw [if_pos (by rfl)]
    unfold Oper.wp
    go_simp
    obtain ⟨w17, hw17⟩ : ∃ w17, w17 = w16.setCell ⟨w.heap.size + 1 + 1, 0, none⟩ (.slice A63 l0_0.length c63) := ⟨_, rfl⟩
    rw [← hw17]
    have hP3 := (Array.getElem?_eq_some_iff.1 C8.out).1
    have n4 := Aside0.mk (show w17.heap[w.heap.size]? = _ from hw17 ▸ blk_far B4.out (by simp <;> omega) _)
    have n8 : w17.heap[w.heap.size + 1 + 1]? = some (.cells #[.slice A63 l0_0.length c63] 27 (0, 0)) := hw17 ▸ Boxed.set _ (show Boxed w16 (w.heap.size + 1 + 1) 27 (.slice none 0 0) from B8.out)
    have nb := Aside0.mk (show Below w.heap.size w w17 from hw17 ▸ HBW.out.setCell (p := ⟨w.heap.size + 1 + 1, 0, none⟩) (by simp <;> omega) _)
    have hN17 := Kd.N_mono (ok' := (fun k_ => (P0_0_ k_ ∨ w.heap.size ≤ k_))) (Kd.N_far (p := ⟨w.heap.size + 1 + 1, 0, none⟩) HN63.out (fun k hk => by rcases hk with hk | hk <;> simp <;> omega) (.slice A63 l0_0.length c63)) (fun k hk => hk.elim (fun h1 => .inl h1.1) (fun h1 => .inr (Nat.le_trans HBC.out.size h1)))
    rw [← hw17] at hN17
    have HN17 := Aside0.mk hN17
    have HN8 := Aside0.mk n8
    clear B4 hN17 n8 hc8 hf8 hP3
    have B4 := n4
    refine hK.out _ _ ((blk_cell B4.out 0).trans rfl) (fun hHeld => ?_)
    clear hK K
    refine done_ (done_of HT_.out (by kernel_rfl)) ?_
    go_wp2
    have hc9 : w17.cell? ⟨w.heap.size + 1 + 1, 0, none⟩ = some (.slice A63 l0_0.length c63) := (blk_cell HN8.out 0).trans rfl
    have HNF := HN17.out
    rw [List.length_set] at HNF
    have HVF := Kd.N_V (base' := w.heap.size) HNF
    refine bodyPost_ret (v := .agg #[.slice A63 l0_0.length c63]) ?_ rfl ⟨_, rfl, HVF, nb.out⟩
    simp [results, Try.f12, go_sem, hu27, hc9]
end Go.Proofs.Ytnokieaebnmljaa.PAll
namespace Go.Proofs.Ytnokieaebnmljaa.PAll
open Go Go.Proofs Go.RowKit Go.Shelf Go.Proofs.YtnokieaebnmljaaW.PrintWords Go.Proofs.YtnokieaebnmljaaW.PrintLast Go.Proofs.YtnokieaebnmljaaW.PrintMore
set_option linter.unusedVariables false
set_option linter.unusedSimpArgs false
/-- The plain law of maps whose keys are whole numbers. -/
def sg (a b : Int) : Int := if a < b then -1 else if a > b then 1 else 0
def numS (n : Int) : S35 := ⟨1, n, ⟨#[]⟩, 0, []⟩
def ent (p : Int × Int) : S82 := ⟨numS p.1, numS p.2⟩
theorem cmp_int (a b : Int) : cmp_Compare_int.f a b = some (sg a b) := by
  unfold cmp_Compare_int.f cmp_isNaN_int.f sg
  simp
  split
  · simp
  · split <;> simp
theorem cmp_int64 (a b : Int) : cmp_Compare_int64.f a b = some (sg a b) := by
  unfold cmp_Compare_int64.f cmp_isNaN_int64.f sg
  simp
  split
  · simp
  · split <;> simp
theorem cmp_str0 : cmp_Compare_string.f ⟨#[]⟩ ⟨#[]⟩ = some 0 := by
  unfold cmp_Compare_string.f cmp_isNaN_string.f
  simp [Op.bytesLess]
theorem cmp_or (x : Int) : cmp_Or_int.f 9 [0, x, 0, 0] = some x := by
  unfold cmp_Or_int.f
  by_cases h : x = 0
  · subst h
    simp [cmp_Or_int.l0, rd, wrap64]
  · simp [cmp_Or_int.l0, rd, wrap64, h]
theorem sg_self (a : Int) : sg a a = 0 := by simp [sg]
theorem compare_num (a b : Int) : value_Compare.f 10 1 a ⟨#[]⟩ 0 [] 1 b ⟨#[]⟩ 0 [] = some (sg a b) := by
  unfold value_Compare.f
  simp only [cmp_int, cmp_int64, cmp_str0, Option.bind_some, sg_self, cmp_or]
  by_cases h : sg a b = 0
  · rw [h]
    simp [zipAll, firstNZ, sg]
  · simp [h]
theorem ckey_num (b : Int) (p : Int × Int) : ckey 10 1 b ⟨#[]⟩ 0 [] (ent p) = some (sg p.1 b) := compare_num p.1 b
theorem cval_num (b : Int) (p : Int × Int) : cval 10 1 b ⟨#[]⟩ 0 [] (ent p) = sg p.1 b := by simp [cval, ckey_num]
theorem call_num (b : Int) (L : List (Int × Int)) : call 10 1 b ⟨#[]⟩ 0 [] (L.map ent) := by
  intro e he
  obtain ⟨p, _, rfl⟩ := List.mem_map.1 he
  exact ⟨_, ckey_num b p⟩
/-- Keys rise. -/
def Rises : List (Int × Int) → Prop
  | [] => True
  | p :: t => (∀ q ∈ t, p.1 < q.1) ∧ Rises t
def putL : List (Int × Int) → Int → Int → List (Int × Int)
  | [], k, v => [(k, v)]
  | p :: t, k, v => if p.1 < k then p :: putL t k v else if p.1 = k then (k, v) :: t else (k, v) :: p :: t
def delL : List (Int × Int) → Int → List (Int × Int)
  | [], _ => []
  | p :: t, k => if p.1 = k then t else p :: delL t k
def hasL (L : List (Int × Int)) (k : Int) : Prop := ∃ p ∈ L, p.1 = k
theorem placeOf_congr' {c c' : S82 → Int} (l : List S82) (s : Int) (h : ∀ e ∈ l, c e = c' e) : placeOf c l s = placeOf c' l s := placeOf_congr l s h
/-- Where a key stands among rising ones: what is ahead, and whether it is there. -/
theorem place_num (k : Int) : ∀ (L : List (Int × Int)) (s : Int), Rises L → ∃ ix : Nat, ∃ ok : Bool, placeOf (cval 10 1 k ⟨#[]⟩ 0 []) (L.map ent) s = (s + ix, ok) ∧ ix ≤ L.length ∧ (ok = true ↔ hasL L k) ∧
    (∀ v, putL L k v = L.take ix ++ [(k, v)] ++ L.drop (if ok = true then ix + 1 else ix)) ∧ (ok = true → ix < L.length ∧ delL L k = L.take ix ++ L.drop (ix + 1))
  | [], s, _ => ⟨0, false, by simp [placeOf], by simp, by simp [hasL], by simp [putL], by simp⟩
  | p :: t, s, hr => by
    simp only [List.map_cons, placeOf, cval_num]
    by_cases h1 : p.1 < k
    · obtain ⟨ix, ok, e1, e2, e3, e4, e5⟩ := place_num k t (s + 1) hr.2
      have hs : sg p.1 k = -1 := by simp [sg, h1]
      refine ⟨ix + 1, ok, ?_, by simp; omega, ?_, ?_, ?_⟩
      · rw [hs, if_neg (by decide), if_neg (by decide), e1]
        simp
        omega
      · rw [e3]
        constructor
        · rintro ⟨q, hq, rfl⟩
          exact ⟨q, by simp [hq], rfl⟩
        · rintro ⟨q, hq, rfl⟩
          rcases List.mem_cons.1 hq with rfl | hq
          · omega
          · exact ⟨q, hq, rfl⟩
      · intro v
        simp only [putL, if_pos h1, e4 v]
        cases ok <;> simp
      · intro hok
        obtain ⟨f1, f2⟩ := e5 hok
        refine ⟨by simp; omega, ?_⟩
        simp only [delL, if_neg (show ¬ p.1 = k by omega), f2]
        simp
    · by_cases h2 : p.1 = k
      · have hs : sg p.1 k = 0 := by rw [h2]; exact sg_self k
        refine ⟨0, true, by rw [hs, if_pos rfl]; simp, by simp, ?_, ?_, ?_⟩
        · simp
          exact ⟨p, by simp, h2⟩
        · intro v
          simp [putL, h1, h2]
        · intro _
          simp [delL, h2]
      · have hs : sg p.1 k = 1 := by simp [sg, h1]; omega
        refine ⟨0, false, by rw [hs, if_neg (by decide), if_pos (by decide)]; simp, by simp, ?_, ?_, by simp⟩
        · constructor
          · intro h; cases h
          · rintro ⟨q, hq, hk⟩
            rcases List.mem_cons.1 hq with rfl | hq
            · exact absurd hk h2
            · have := hr.1 q hq
              omega
        · intro v
          simp [putL, h1, h2]
theorem mapOf1 (M : List S82) : mapOf [[], M] 1 = M := by simp [mapOf, rd_L5]
theorem place_f (L : List (Int × Int)) (k : Int) (hr : Rises L) : ∃ ix : Nat, ∃ ok : Bool, heap_place.f 10 [[], L.map ent] 1 1 k ⟨#[]⟩ 0 [] = some ((ix : Int), ok) ∧ ix ≤ L.length ∧ (ok = true ↔ hasL L k) ∧
    (∀ v, putL L k v = L.take ix ++ [(k, v)] ++ L.drop (if ok = true then ix + 1 else ix)) ∧ (ok = true → ix < L.length ∧ delL L k = L.take ix ++ L.drop (ix + 1)) := by
  obtain ⟨ix, ok, e1, e⟩ := place_num k L 0 hr
  refine ⟨ix, ok, ?_, e⟩
  unfold heap_place.f
  rw [mapOf1, if_pos (call_num k L), e1]
  simp
/-- Put, of a key and a value that are numbers. -/
theorem put_f (L : List (Int × Int)) (k v : Int) (hr : Rises L) (hl : L.length ≤ 24) :
    (hasL L k ∨ L.length < 24 → heap_Put.f 10 [[], L.map ent] 1 1 k ⟨#[]⟩ 0 [] 1 v ⟨#[]⟩ 0 [] = some ([[], (putL L k v).map ent], 0)) ∧
    (¬ hasL L k → L.length = 24 → heap_Put.f 10 [[], L.map ent] 1 1 k ⟨#[]⟩ 0 [] 1 v ⟨#[]⟩ 0 [] = some ([], 41)) := by
  obtain ⟨ix, ok, e1, e2, e3, e4, e5⟩ := place_f L k hr
  unfold heap_Put.f
  rw [mapOf1, e1]
  simp only [Option.bind_some, Int.toNat_natCast]
  have hb : ([[], L.map ent] : List (List S82)).length ≤ 11728124029610 ∧ (L.map ent).length ≤ 549755813886 := by simp; omega
  rw [if_pos (by simp), if_pos hb]
  constructor
  · intro h
    cases ok with
    | true =>
      rw [if_pos rfl]
      simp only [putRow, e4 v]
      simp [ent, numS]
    | false =>
      have hn : ¬ hasL L k := fun hh => by have := e3.2 hh; cases this
      have hl2 : L.length < 24 := h.resolve_left hn
      rw [if_neg (by simp), if_neg (by simp; omega)]
      simp only [putRow, e4 v]
      simp [ent, numS]
  · intro hn h24
    cases ok with
    | true => exact absurd (e3.1 rfl) hn
    | false => rw [if_neg (by simp), if_pos (by simp; omega)]
theorem del_f (L : List (Int × Int)) (k : Int) (hr : Rises L) (hk : hasL L k) (hl : L.length ≤ 24) :
    heap_Del.f 10 [[], L.map ent] 1 1 k ⟨#[]⟩ 0 [] = some [[], (delL L k).map ent] := by
  obtain ⟨ix, ok, e1, e2, e3, e4, e5⟩ := place_f L k hr
  have ho := e3.2 hk
  subst ho
  unfold heap_Del.f
  rw [mapOf1, e1]
  simp only [Option.bind_some, Int.toNat_natCast, if_true]
  rw [if_pos (by simp; omega), (e5 rfl).2]
  simp
theorem mem_putL (k v : Int) : ∀ (L : List (Int × Int)), Rises L → ∀ q, q ∈ putL L k v ↔ (q = (k, v) ∨ (q ∈ L ∧ q.1 ≠ k))
  | [], _, q => by simp [putL]
  | p :: t, hr, q => by
    simp only [putL]
    by_cases h1 : p.1 < k
    · rw [if_pos h1, List.mem_cons, mem_putL k v t hr.2 q, List.mem_cons]
      constructor
      · rintro (rfl | rfl | ⟨h, hn⟩)
        · exact .inr ⟨.inl rfl, by omega⟩
        · exact .inl rfl
        · exact .inr ⟨.inr h, hn⟩
      · rintro (rfl | ⟨rfl | h, hn⟩)
        · exact .inr (.inl rfl)
        · exact .inl rfl
        · exact .inr (.inr ⟨h, hn⟩)
    · rw [if_neg h1]
      by_cases h2 : p.1 = k
      · rw [if_pos h2, List.mem_cons, List.mem_cons]
        constructor
        · rintro (rfl | h)
          · exact .inl rfl
          · exact .inr ⟨.inr h, by have := hr.1 q h; omega⟩
        · rintro (rfl | ⟨rfl | h, hn⟩)
          · exact .inl rfl
          · exact absurd h2 hn
          · exact .inr h
      · rw [if_neg h2, List.mem_cons, List.mem_cons]
        constructor
        · rintro (rfl | rfl | h)
          · exact .inl rfl
          · exact .inr ⟨.inl rfl, h2⟩
          · exact .inr ⟨.inr h, by have := hr.1 q h; omega⟩
        · rintro (rfl | ⟨rfl | h, hn⟩)
          · exact .inl rfl
          · exact .inr (.inl rfl)
          · exact .inr (.inr h)
theorem rises_putL (k v : Int) : ∀ (L : List (Int × Int)), Rises L → Rises (putL L k v)
  | [], _ => by simp [putL, Rises]
  | p :: t, hr => by
    simp only [putL]
    by_cases h1 : p.1 < k
    · rw [if_pos h1]
      refine ⟨fun q hq => ?_, rises_putL k v t hr.2⟩
      rcases (mem_putL k v t hr.2 q).1 hq with rfl | ⟨h, _⟩
      · exact h1
      · exact hr.1 q h
    · rw [if_neg h1]
      by_cases h2 : p.1 = k
      · rw [if_pos h2]
        exact ⟨fun q hq => by have := hr.1 q hq; simp; omega, hr.2⟩
      · rw [if_neg h2]
        refine ⟨fun q hq => ?_, hr⟩
        rcases List.mem_cons.1 hq with rfl | hq
        · simp; omega
        · have := hr.1 q hq
          simp
          omega
theorem len_putL (k v : Int) : ∀ (L : List (Int × Int)), Rises L → (putL L k v).length = (if (∃ p ∈ L, p.1 = k) then L.length else L.length + 1) := by
  intro L hr
  obtain ⟨ix, ok, _, e2, e3, e4, e5⟩ := place_num k L 0 hr
  rw [e4 v]
  by_cases h : ∃ p ∈ L, p.1 = k
  · rw [if_pos h]
    obtain rfl := e3.2 h
    have := (e5 rfl).1
    simp
    omega
  · rw [if_neg h]
    cases ok with
    | true => exact absurd (e3.1 rfl) h
    | false => simp; omega
theorem mem_delL (k : Int) : ∀ (L : List (Int × Int)), Rises L → ∀ q, q ∈ delL L k ↔ (q ∈ L ∧ q.1 ≠ k)
  | [], _, q => by simp [delL]
  | p :: t, hr, q => by
    simp only [delL]
    by_cases h : p.1 = k
    · rw [if_pos h, List.mem_cons]
      constructor
      · intro hq
        exact ⟨.inr hq, by have := hr.1 q hq; omega⟩
      · rintro ⟨rfl | hq, hn⟩
        · exact absurd h hn
        · exact hq
    · rw [if_neg h, List.mem_cons, mem_delL k t hr.2 q, List.mem_cons]
      constructor
      · rintro (rfl | ⟨hq, hn⟩)
        · exact ⟨.inl rfl, h⟩
        · exact ⟨.inr hq, hn⟩
      · rintro ⟨rfl | hq, hn⟩
        · exact .inl rfl
        · exact .inr ⟨hq, hn⟩
theorem rises_delL (k : Int) : ∀ (L : List (Int × Int)), Rises L → Rises (delL L k)
  | [], _ => by simp [delL, Rises]
  | p :: t, hr => by
    simp only [delL]
    split
    · exact hr.2
    · exact ⟨fun q hq => hr.1 q ((mem_delL k t hr.2 q).1 hq).1, rises_delL k t hr.2⟩
theorem len_delL (k : Int) : ∀ (L : List (Int × Int)), hasL L k → (delL L k).length + 1 = L.length
  | [], ⟨_, h, _⟩ => by simp at h
  | p :: t, h => by
    simp only [delL]
    by_cases h1 : p.1 = k
    · rw [if_pos h1]; simp
    · rw [if_neg h1]
      have ht : hasL t k := by
        obtain ⟨q, hq, hk⟩ := h
        rcases List.mem_cons.1 hq with rfl | hq
        · exact absurd hk h1
        · exact ⟨q, hq, hk⟩
      have := len_delL k t ht
      simp
      omega
/-- What comes behind the first places of rising keys: the next one, its value, none. -/
theorem next_num (k : Int) : ∀ (A B : List (Int × Int)), (∀ p ∈ A, p.1 ≤ k) → nextOf (cval 10 1 k ⟨#[]⟩ 0 []) ((A ++ B).map ent) = nextOf (cval 10 1 k ⟨#[]⟩ 0 []) (B.map ent)
  | [], B, _ => rfl
  | p :: A, B, h => by
    have h1 := h p (by simp)
    simp only [List.cons_append, List.map_cons, nextOf, cval_num]
    rw [if_neg (by simp only [sg]; split <;> (try split) <;> omega)]
    exact next_num k A B (fun q hq => h q (by simp [hq]))
theorem next_f (L : List (Int × Int)) (k : Int) : heap_Next.f 10 [[], L.map ent] 1 1 k ⟨#[]⟩ 0 [] = some (nextOf (cval 10 1 k ⟨#[]⟩ 0 []) (L.map ent)) := by
  unfold heap_Next.f
  rw [mapOf1, if_pos (call_num k L)]
end Go.Proofs.Ytnokieaebnmljaa.PAll
namespace Go.Proofs.Ytnokieaebnmljaa.PAll
open Go Go.Proofs Go.RowKit Go.Shelf Go.Proofs.YtnokieaebnmljaaW.PrintWords Go.Proofs.YtnokieaebnmljaaW.PrintLast Go.Proofs.YtnokieaebnmljaaW.PrintMore
set_option linter.unusedVariables false
set_option linter.unusedSimpArgs false
theorem info2 : (Try.prog.info? 2).map (fun i => (i.zero, i.size, i.bytes)) = some (some (.int .i64 0), 1, 8) := by kernel_rfl
/-- A row of whole numbers of the call's own; its block may be greater than its room, if there is none left. -/
def OI (W : World) (base : Nat) (v : Value) (xs : List Int) : Prop :=
  (v = .slice none 0 0 ∧ xs = []) ∨
  ∃ g c cur, v = .slice (some ⟨g, 0, none⟩) xs.length c ∧ base ≤ g ∧ W.heap[g]? = some (.cells cur 2 (0, 0)) ∧ xs.length ≤ c ∧ c ≤ maxLen ∧ c ≤ cur.size ∧ (c = cur.size ∨ c = xs.length) ∧ cur.toList.take xs.length = xs.map (Value.int .i64)
theorem addr_at (g o j : Nat) : (⟨g, o, none⟩ : Addr).add j = ⟨g, o + j, none⟩ := by
  unfold Addr.add
  by_cases h : j = 0
  · subst h; simp
  · simp [h]
section
variable {W W1 : World} {base : Nat} {v : Value} {xs : List Int}
theorem OI.move (h : OI W base v xs) (hm : ∀ k, v.ownBlock = some k → W1.heap[k]? = W.heap[k]?) : OI W1 base v xs := by
  rcases h with h | ⟨g, c, cur, rfl, h1, h2, h3⟩
  · exact .inl h
  · exact .inr ⟨g, c, cur, rfl, h1, (hm g rfl).trans h2, h3⟩
theorem OI.lt (h : OI W base v xs) : ∀ k, v.ownBlock = some k → k < W.heap.size ∧ base ≤ k := by
  intro k hk
  rcases h with ⟨rfl, _⟩ | ⟨g, c, cur, rfl, h1, h2, h3⟩
  · simp [Value.ownBlock] at hk
  · have : g = k := by simpa [Value.ownBlock] using hk
    subst this
    exact ⟨blk_lt h2, h1⟩
theorem OI.type (h : OI W base v xs) : ∀ k, v.ownBlock = some k → ∃ cur, W.heap[k]? = some (.cells cur 2 (0, 0)) := by
  intro k hk
  rcases h with ⟨rfl, _⟩ | ⟨g, c, cur, rfl, h1, h2, h3⟩
  · simp [Value.ownBlock] at hk
  · have : g = k := by simpa [Value.ownBlock] using hk
    subst this
    exact ⟨cur, h2⟩
theorem OI.ne (h : OI W base v xs) {g t : Nat} {cs : Array Value} (hg : W.heap[g]? = some (.cells cs t (0, 0))) (ht : t ≠ 2) : some g ≠ v.ownBlock := by
  intro he
  obtain ⟨cur, hc⟩ := h.type g he.symm
  rw [hc] at hg
  injection hg with hg
  injection hg with _ hg
  exact ht hg.symm
theorem OI.form (h : OI W base v xs) : ∃ A c, v = .slice A xs.length c ∧ xs.length ≤ c ∧ (A = none → xs = []) := by
  rcases h with ⟨rfl, rfl⟩ | ⟨g, c, cur, rfl, h1, h2, h3, _⟩
  · exact ⟨none, 0, rfl, Nat.le_refl _, fun _ => rfl⟩
  · exact ⟨_, c, rfl, h3, fun h => by cases h⟩
theorem OI.form1 (h : OI W base v xs) (hp : 0 < xs.length) : ∃ g c, v = .slice (some ⟨g, 0, none⟩) xs.length c ∧ xs.length ≤ c := by
  rcases h with ⟨rfl, rfl⟩ | ⟨g, c, cur, rfl, h1, h2, h3, _⟩
  · simp at hp
  · exact ⟨g, c, rfl, h3⟩
theorem OI.head {A : Option Addr} {n c : Nat} (h : OI W base (.slice A n c) xs) (hp : 0 < xs.length) : ∃ g, A = some ⟨g, 0, none⟩ := by
  obtain ⟨g, c', e, _⟩ := h.form1 hp
  injection e with e
  exact ⟨g, e⟩
theorem OI.cell {g n c : Nat} (h : OI W base (.slice (some ⟨g, 0, none⟩) n c) xs) (i : Nat) {x : Int} (hx : xs[i]? = some x) : W.cell? ⟨g, i, none⟩ = some (.int .i64 x) ∧ W.frozen? ⟨g, i, none⟩ = false := by
  rcases h with ⟨h, _⟩ | ⟨g', c', cur, he, h1, h2, h3, h4, h5, h6, h7⟩
  · cases h
  · injection he with he
    injection he with he
    injection he with he
    subst he
    refine ⟨?_, blk_frozen h2 i⟩
    obtain ⟨hi, hx'⟩ := List.getElem?_eq_some_iff.1 hx
    rw [blk_cell h2 i]
    have : (cur.toList.take xs.length)[i]? = some (.int .i64 x) := by rw [h7, List.getElem?_map, hx]; rfl
    rw [List.getElem?_take, if_pos hi] at this
    simpa using this
theorem OI.put {g n c : Nat} (h : OI W base (.slice (some ⟨g, 0, none⟩) n c) xs) (i : Nat) (x : Int) : OI (W.setCell ⟨g, i, none⟩ (.int .i64 x)) base (.slice (some ⟨g, 0, none⟩) n c) (xs.set i x) := by
  rcases h with ⟨h, _⟩ | ⟨g', c', cur, he, h1, h2, h3, h4, h5, h6, h7⟩
  · cases h
  · injection he with he hn hc
    injection he with he
    injection he with he
    subst he
    subst hn
    subst hc
    refine .inr ⟨g, c, _, by rw [List.length_set], h1, blk_set h2 i _, by rw [List.length_set]; exact h3, h4, by simpa using h5, by simpa using h6, ?_⟩
    rw [List.length_set]
    apply List.ext_getElem?
    intro j
    have h7j : (cur.toList.take xs.length)[j]? = (xs.map (Value.int .i64))[j]? := by rw [h7]
    simp only [List.getElem?_take, List.getElem?_map, List.getElem?_set, Array.toList_setIfInBounds] at h7j ⊢
    have hcs : xs.length ≤ cur.toList.length := by simp; omega
    by_cases hj : j < xs.length
    · by_cases hij : i = j
      · subst hij
        rw [if_pos hj, if_pos rfl, if_pos rfl, if_pos hj, if_pos (by omega)]
        rfl
      · rw [if_pos hj, if_neg hij, if_neg hij]
        rw [if_pos hj] at h7j
        exact h7j
    · rw [if_neg hj]
      by_cases hij : i = j
      · subst hij
        rw [if_pos rfl, if_neg hj]
        rfl
      · rw [if_neg hij, List.getElem?_eq_none (by omega)]
        rfl
theorem OI.append {P : Program} (hu : P.underlying 28 = some (.slice 2)) (hinfo : (P.info? 2).map (fun i => (i.zero, i.size, i.bytes)) = some (some (.int .i64 0), 1, 8)) (h : OI W base v xs) (ad : Addr) (c1 : Nat) (y : Int) (hc : W.cell? ad = some (.int .i64 y)) (hb : base ≤ W.heap.size) (hl : xs.length ≤ 1000) (ty : TypeId) :
    ∃ v1 w1, (Builtin.append_ #[28, 28] ty #[v, .slice (some ad) 1 c1]).run P W = .ok v1 w1 ∧ OI w1 base v1 (xs ++ [y]) ∧ W.grownBy w1 v.ownBlock ∧ (v1.ownBlock = v.ownBlock ∨ ∃ k, v1.ownBlock = some k ∧ W.heap.size ≤ k) := by
  obtain ⟨i0, hi, hzz⟩ := Option.map_eq_some_iff.1 hinfo
  simp only [Prod.mk.injEq] at hzz
  obtain ⟨hz0, hz1, hz2⟩ := hzz
  have hnews : ∀ j u, [Value.int .i64 y][j]? = some u → W.cell? (ad.add j) = some u := by
    intro j u hj
    cases j with
    | zero => simp at hj; subst hj; simpa [Addr.add] using hc
    | succ j => simp at hj
  have own : ∀ {v1 : Value} {w1 : World}, w1.ownsRow base 2 1 v1 (xs.length + 1) (xs.map (Value.int .i64) ++ [.int .i64 y]) → OI w1 base v1 (xs ++ [y]) := by
    intro v1 w1 ho
    rcases ho.2 with ⟨rfl, h0⟩ | ⟨g, cap, cur, rfl, hg, hh, h1, h2, h3, h4⟩
    · omega
    · refine .inr ⟨g, cap, cur, by simp, hg, hh, by simpa using h1, h2, by omega, .inl (by omega), ?_⟩
      simpa using h4
  have key : ∀ (ho : W.ownsRow base 2 1 v xs.length (xs.map (Value.int .i64))), ∃ v1 w1, (Builtin.append_ #[28, 28] ty #[v, .slice (some ad) 1 c1]).run P W = .ok v1 w1 ∧ OI w1 base v1 (xs ++ [y]) ∧ W.grownBy w1 v.ownBlock ∧ (v1.ownBlock = v.ownBlock ∨ ∃ k, v1.ownBlock = some k ∧ W.heap.size ≤ k) := by
    intro ho
    obtain ⟨v1, w1, hr, h1, h2, h3, h4⟩ := run_append_own_at (P := P) W base 28 ty 2 i0 (.int .i64 0) 1 8 hu hi hz0 hz1 hz2 rfl (by omega) v xs.length _ ho ad 1 c1 [.int .i64 y] (by simp) hnews (by simp [Value.oneCell']) (by simp only [maxLen]; omega) (by omega) hb
    exact ⟨v1, w1, hr, own h1, h2, h4.imp id (fun h => ⟨_, h, Nat.le_refl _⟩)⟩
  rcases h with ⟨rfl, rfl⟩ | ⟨g, c, cur, rfl, h1, h2, h3, h4, h5, h6, h7⟩
  · exact key ⟨rfl, .inl ⟨rfl, rfl⟩⟩
  · rcases h6 with h6 | h6
    · exact key ⟨by simp, .inr ⟨g, c, cur, rfl, h1, h2, h3, h4, by omega, by rw [Nat.mul_one]; exact h7⟩⟩
    · subst h6
      obtain ⟨v1, w1, hr, ho, hg⟩ := run_append_arg_grows (P := P) W 28 ty 2 i0 (.int .i64 0) 1 8 hu hi hz0 hz1 hz2 rfl (by omega) ⟨g, 0, none⟩ xs.length xs.length (xs.map (Value.int .i64)) (by simp)
        (fun j u hj => by
          rw [← h7, List.getElem?_take] at hj
          split at hj
          · have := blk_cell h2 j
            rw [addr_at, Nat.zero_add, this]
            simpa using hj
          · exact absurd hj (by simp))
        ad 1 c1 [.int .i64 y] (by simp) hnews (by omega) (by simp only [maxLen]; omega) (by omega)
      refine ⟨v1, w1, hr, own ?_, ⟨hg.os, hg.tape, hg.output, hg.size, fun k hk _ => hg.block k hk (by simp)⟩, .inr ?_⟩
      · refine ⟨ho.1, ?_⟩
        rcases ho.2 with h0 | ⟨g', cap, cur', e1, hge, e2⟩
        · exact .inl h0
        · exact .inr ⟨g', cap, cur', e1, Nat.le_trans hb hge, e2⟩
      · rcases ho.2 with ⟨_, h0⟩ | ⟨g', cap, cur', rfl, hge, _⟩
        · omega
        · exact ⟨g', rfl, hge⟩
/-- append(x[:k:k], x[k+1:]...): one is taken out; what is left lies in a block of its own, or it is the head. -/
theorem OI.del {P : Program} (hu : P.underlying 28 = some (.slice 2)) (hinfo : (P.info? 2).map (fun i => (i.zero, i.size, i.bytes)) = some (some (.int .i64 0), 1, 8)) {A : Option Addr} {n c : Nat} (h : OI W base (.slice A n c) xs) (k : Nat) (hk : k < xs.length) (hb : base ≤ W.heap.size) (hl : xs.length ≤ 1000) (ty : TypeId) :
    ∃ v1 w1, (Builtin.append_ #[28, 28] ty #[.slice A k k, .slice (if c = k + 1 then A else A.map (·.add ((k + 1) * 1))) (n - (k + 1)) (c - (k + 1))]).run P W = .ok v1 w1 ∧ OI w1 base v1 (xs.take k ++ xs.drop (k + 1)) ∧ W.grownBy w1 none ∧ (v1.ownBlock = (Value.slice A n c).ownBlock ∨ ∃ k, v1.ownBlock = some k ∧ W.heap.size ≤ k) := by
  rcases h with ⟨h, rfl⟩ | ⟨g, c', cur, he, h1, h2, h3, h4, h5, h6, h7⟩
  · simp at hk
  · injection he with he hn hc
    subst he
    subst hn
    subst hc
    by_cases hlast : k + 1 = xs.length
    · rw [show xs.length - (k + 1) = 0 by omega]
      refine ⟨_, W, append_zero_run 28 ty 2 (.int .i64 0) 1 8 hu hinfo _ _ k _, ?_, ⟨rfl, rfl, rfl, Nat.le_refl _, fun _ _ _ => rfl⟩, .inl rfl⟩
      rw [List.drop_of_length_le (by omega), List.append_nil]
      refine .inr ⟨g, k, cur, by rw [List.length_take, Nat.min_eq_left (by omega)], h1, h2, by rw [List.length_take]; omega, by omega, by omega, .inr (by rw [List.length_take]; omega), ?_⟩
      rw [List.length_take, Nat.min_eq_left (by omega), List.map_take, ← h7, List.take_take, Nat.min_eq_left (by omega)]
    · obtain ⟨i0, hi, hzz⟩ := Option.map_eq_some_iff.1 hinfo
      simp only [Prod.mk.injEq] at hzz
      obtain ⟨hz0, hz1, hz2⟩ := hzz
      have hcell : ∀ j u, (xs.map (Value.int .i64))[j]? = some u → W.cell? ⟨g, j, none⟩ = some u := by
        intro j u hj
        rw [← h7, List.getElem?_take] at hj
        split at hj
        · rw [blk_cell h2 j]
          simpa using hj
        · exact absurd hj (by simp)
      rw [if_neg (show ¬ c = k + 1 by omega)]
      obtain ⟨v1, w1, hr, ho, hg⟩ := run_append_arg_grows (P := P) W 28 ty 2 i0 (.int .i64 0) 1 8 hu hi hz0 hz1 hz2 rfl (by omega) ⟨g, 0, none⟩ k k ((xs.take k).map (Value.int .i64)) (by simp; omega)
        (fun j u hj => by
          have := hcell j u (by
            rw [List.getElem?_map, List.getElem?_take] at hj
            rw [List.getElem?_map]
            split at hj
            · exact hj
            · exact absurd hj (by simp))
          rw [addr_at, Nat.zero_add]
          exact this)
        (Addr.add ⟨g, 0, none⟩ ((k + 1) * 1)) (xs.length - (k + 1)) (c - (k + 1)) ((xs.drop (k + 1)).map (Value.int .i64)) (by simp)
        (fun j u hj => by
          have := hcell (k + 1 + j) u (by
            rw [List.getElem?_map, List.getElem?_drop] at hj
            rw [List.getElem?_map]
            exact hj)
          rw [addr_at, addr_at, Nat.mul_one, Nat.zero_add]
          exact this) (by omega) (by simp only [maxLen]; omega) (by omega)
      refine ⟨v1, w1, hr, ?_, hg, .inr ?_⟩
      · rcases ho.2 with ⟨rfl, h0⟩ | ⟨g', cap, cur', rfl, hge, hh, e1, e2, e3, e4⟩
        · omega
        · have hlen : (xs.take k ++ xs.drop (k + 1)).length = k + (xs.length - (k + 1)) := by simp; omega
          refine .inr ⟨g', cap, cur', by rw [hlen], Nat.le_trans hb hge, hh, by rw [hlen]; exact e1, e2, by omega, .inl (by omega), ?_⟩
          rw [hlen, List.map_append]
          simpa using e4
      · rcases ho.2 with ⟨_, h0⟩ | ⟨g', cap, cur', rfl, hge, _⟩
        · omega
        · exact ⟨g', rfl, hge⟩
end
end Go.Proofs.Ytnokieaebnmljaa.PAll
