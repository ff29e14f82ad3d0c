-- Laid by a program of this seat (wip/merge.py): HPlace, HAtR, HWith, HAppend, HPut, HDel, Copy, PAllx14, HRPut.
import Derived.Test.YtnokieaebnmljaaMHeapPlays0
import Derived.Test.YtnokieaebnmljaaMHeapPlays1
import Derived.ArgAppend
import Derived.Laws.CopyRow
namespace Go.Proofs.Ytnokieaebnmljaa.PAll
open Go Go.Proofs Go.RowKit Go.Shelf Go.Proofs.YtnokieaebnmljaaW.PrintWords Go.Proofs.YtnokieaebnmljaaW.PrintLast Go.Proofs.YtnokieaebnmljaaW.PrintMore
attribute [local go_sem] Oper.semAt_some
set_option linter.unusedVariables false
set_option linter.unusedSimpArgs false
set_option maxHeartbeats 1000000 in
/-- heap.entries hands back its closure over two boxes. -/
theorem entries_in (A0 : Option Addr) (n0 c0 : Nat) (m : Int) (w : World) :
    Calls Try.prog 39 #[.agg #[.slice A0 n0 c0], .int .i64 m] w fun e w' => e = .returned (.func (.func 59) #[] #[.pointer (some ⟨w.heap.size + 1, 0, none⟩), .pointer (some ⟨w.heap.size, 0, none⟩)]) ∧ w' = (w.alloc (.cells #[.slice A0 n0 c0] 27)).alloc (.cells #[.int .i64 m] 3) := by
  have hu27 := Try.underlying27
  go_enter Try.func39, Try.ntmps39
  go_wp2
  go_ret
  exact ⟨rfl, rfl⟩
/-- A read row as one with its footprint. -/
theorem heap35 : Kd.Heap k35 := Kd.heap_fix (fun _ h => Kd.heap_iso _ (Kd.heap_pair (Kd.heap_int _) (Kd.heap_pair (Kd.heap_int _) (Kd.heap_pair Kd.heap_string (Kd.heap_pair (Kd.heap_int _) (Kd.heap_slice _ h))))))
theorem heap82 : Kd.Heap k82 := Kd.heap_iso _ (Kd.heap_pair heap35 heap35)
theorem C_F82 {w : World} {A : Option Addr} {l : List (List S82)} (h : Kd.C (Kd.slice 82 k82) w A l.length l) : Kd.F (Kd.slice 82 k82) w (fun k => k < w.heap.size) A l.length l := Kd.C_F (Kd.heap_slice 82 heap82) h
theorem mapOf_max {w : World} {ok : Nat → Prop} {A0 : Option Addr} {l0 : List (List S82)} (m : Int) (hF : Kd.F (Kd.slice 82 k82) w ok A0 l0.length l0) : (mapOf l0 m).length ≤ 9223372036854775807 := by
  unfold mapOf
  split
  · rename_i hm
    obtain ⟨ad, cs, _, hcl, hK, hcc, _⟩ := Kd.F_get hF ([] : List S82) m hm.1 hm.2
    obtain ⟨Am, cm, rfl, hle, hFm⟩ := Kd.FK_slice_open hK
    exact Kd.F_max hFm
  simp
/-- What came ahead of an element, and what is behind it. -/
theorem en_split {w : World} {ok : Nat → Prop} {es : List (EE w ok)} {D : Nat × EE w ok → Prop} {init : List { p : Nat × EE w ok // D p }} {x : { p : Nat × EE w ok // D p }} (h : (init ++ [x]).map (·.1) <+: en es) :
    x.1.1 = init.length ∧ ∃ t, es.map (·.x) = (init.map fun p => p.1.2.x) ++ x.1.2.x :: t := by
  obtain ⟨t, ht⟩ := h
  constructor
  · have h1 : init.length < (en es).length := by rw [← ht]; simp
    have h2 := en_getElem es init.length h1 (by rwa [en_length] at h1)
    have h3 : (en es)[init.length] = x.1 := by simp [← ht]
    rw [← h3, h2]
  have h2 := congrArg (List.map (fun p : Nat × EE w ok => p.2.x)) ht
  rw [show (en es).map (fun p : Nat × EE w ok => p.2.x) = es.map (·.x) from by rw [show (fun p : Nat × EE w ok => p.2.x) = (fun e : EE w ok => e.x) ∘ Prod.snd from rfl, ← List.map_map, en, List.map_snd_zip (by simp)]] at h2
  exact ⟨t.map (fun p => p.2.x), by rw [← h2]; simp⟩
theorem en_mem {α : Type} {es : List α} {e : α} (he : e ∈ es) : ∃ p ∈ en es, p.2 = e := by
  obtain ⟨i, hi, rfl⟩ := List.getElem_of_mem he
  exact ⟨(en es)[i]'(by rw [en_length]; exact hi), List.getElem_mem _, by rw [en_getElem es i _ hi]⟩
/-- One more than the last place that came. -/
def lastIx {α : Type} (l : List (Nat × α)) : Int := match l.getLast? with
  | none => 0
  | some p => wrap64 ((p.1 : Int) + 1)
theorem lastIx_snoc {α : Type} (l : List (Nat × α)) (p : Nat × α) : lastIx (l ++ [p]) = wrap64 ((p.1 : Int) + 1) := by
  simp [lastIx]
theorem wrap_in (n : Int) (h : -9223372036854775808 ≤ n ∧ n ≤ 9223372036854775807) : wrap64 n = n := by unfold wrap64; omega
theorem en_ix {α : Type} {es : List α} {pre : List (Nat × α)} (h : pre <+: en es) (i : Nat) (hi : i < pre.length) : (pre[i]).1 = i := by
  obtain ⟨t, ht⟩ := h
  have h1 : i < (en es).length := by rw [← ht, List.length_append]; omega
  have h2 : (en es)[i] = pre[i] := by simp only [← ht]; exact List.getElem_append_left hi
  rw [← h2, en_getElem es i h1 (by rwa [en_length] at h1)]
theorem lastIx_en {α : Type} {es : List α} (hm : es.length ≤ 9223372036854775807) {pre : List (Nat × α)} (h : pre <+: en es) : lastIx pre = (pre.length : Int) := by
  rcases List.eq_nil_or_concat pre with rfl | ⟨l, p, rfl⟩
  · rfl
  rw [List.concat_eq_append] at h ⊢
  rw [lastIx_snoc]
  have hl := h.length_le
  rw [en_length] at hl
  have hi := en_ix h l.length (by simp)
  rw [show (l ++ [p])[l.length]'(by simp) = p from by simp] at hi
  rw [hi, wrap_in _ (by simp at hl; omega)]
  simp
def placeOf (c : S82 → Int) : List S82 → Int → Int × Bool
  | [], i => (i, false)
  | e :: es, i => if c e = 0 then (i, true) else if 0 < c e then (i, false) else placeOf c es (i + 1)
theorem placeOf_congr {c c' : S82 → Int} : ∀ (l : List S82) (i : Int), (∀ e ∈ l, c e = c' e) → placeOf c l i = placeOf c' l i
  | [], _, _ => rfl
  | e :: es, i, h => by simp only [placeOf]; rw [h e (by simp), placeOf_congr es _ (fun x hx => h x (by simp [hx]))]
theorem placeOf_app {c : S82 → Int} (t : List S82) : ∀ (l : List S82) (i : Int), (∀ e ∈ l, c e < 0) → placeOf c (l ++ t) i = placeOf c t (i + l.length)
  | [], i, _ => by simp
  | e :: es, i, h => by
    have he := h e (by simp)
    simp only [List.cons_append, placeOf]
    rw [if_neg (by omega), if_neg (by omega), placeOf_app t es (i + 1) (fun x hx => h x (by simp [hx]))]
    congr 1
    simp
    omega
open Classical in
noncomputable def heap_place.f (k : Nat) (l0_0 : List (List S82)) (a1 : Int) (a2_0 : Int) (a2_1 : Int) (a2_2 : ByteArray) (a2_3 : Int) (l2_4 : List S35) : Option (Int × Bool) :=
  if call k a2_0 a2_1 a2_2 a2_3 l2_4 (mapOf l0_0 a1) then some (placeOf (cval k a2_0 a2_1 a2_2 a2_3 l2_4) (mapOf l0_0 a1) 0) else none
set_option maxHeartbeats 8000000 in
set_option maxRecDepth 100000 in
theorem heap_place.calls (k : Nat) (A0_0 : Option Addr) (c0_0 : Nat) (l0_0 : List (List (S82))) (a1 : Int) (a2_0 : Int) (a2_1 : Int) (a2_2 : ByteArray) (a2_3 : Int) (A2_4 : Option Addr) (c2_4 : Nat) (l2_4 : List (S35)) (r1 : Int) (r2 : Bool) (w : World) (hr0_0 : Kd.C (Kd.slice 82 k82) w A0_0 l0_0.length l0_0) (hc0_0 : l0_0.length ≤ c0_0) (hr2_4 : Kd.C k35 w A2_4 l2_4.length l2_4) (hc2_4 : l2_4.length ≤ c2_4) (h : heap_place.f k l0_0 a1 a2_0 a2_1 a2_2 a2_3 l2_4 = some (r1, r2)) :
    Calls Try.prog 37 #[.agg #[.slice A0_0 l0_0.length c0_0], .int .i64 a1, .agg #[.int .i64 a2_0, .int .i64 a2_1, .string a2_2, .int .i64 a2_3, .slice A2_4 l2_4.length c2_4]] w fun e w' => e = .returned (.tuple #[.int .i64 r1, .bool r2]) ∧ Below w.heap.size w w' := by
  have hu27 := Try.underlying27
  have hu35 := Try.underlying35
  have hu82 := Try.underlying82
  have HF := Aside0.mk (C_F82 hr0_0)
  have HR := Aside0.mk hr2_4
  have HC := Aside0.mk hc2_4
  obtain ⟨hall, hr⟩ : call k a2_0 a2_1 a2_2 a2_3 l2_4 (mapOf l0_0 a1) ∧ placeOf (cval k a2_0 a2_1 a2_2 a2_3 l2_4) (mapOf l0_0 a1) 0 = (r1, r2) := by
    unfold heap_place.f at h
    split at h
    · rename_i hc
      exact ⟨hc, Option.some.inj h⟩
    exact absurd h (by simp)
  have HH := Aside0.mk hr
  have HA := Aside0.mk hall
  clear hr0_0 hc0_0 h hr hr2_4 hc2_4 hall
  refine (callsIn_wide (n := 5)).1 ?_
  refine callsIn_of_wp_marks Try.func37 rfl trivial ?_ rfl
  simp only [Try.ntmps37, List.size_toArray, List.length_cons, List.length_nil, Nat.reduceAdd, Nat.reduceSub, Array.replicate_succ, Array.replicate_zero, List.push_toArray, List.append_toArray, List.nil_append, List.cons_append]
  refine wpIn_wide.2 ?_
  refine wp_mono ?_ retOnly_imp
  go_wp2_with (first | (with_reducible refine wp_label ?_) | ((with_reducible refine Opn.wp_scope_nog ?sc ?_); (case sc => funext e_ a_ w_; cases e_ <;> rfl)))
  refine (entries_in A0_0 l0_0.length c0_0 a1 _).mono ?_
  rintro e_ w' ⟨rfl, rfl⟩
  dsimp only
  simp only [World.size_alloc]
  go_wp2_with (first | (with_reducible refine wp_label ?_) | ((with_reducible refine Opn.wp_scope_nog ?sc ?_); (case sc => funext e_ a_ w_; cases e_ <;> rfl)))
  obtain ⟨wl, hwl⟩ : ∃ wl, wl = (((((((w.alloc (Obj.cells #[.slice A0_0 l0_0.length c0_0] 27)).alloc (Obj.cells #[.int .i64 a2_0, .int .i64 a2_1, .string a2_2, .int .i64 a2_3, .slice A2_4 l2_4.length c2_4] 35)).alloc (Obj.cells #[.int .i64 0] 3)).alloc (Obj.cells #[.bool false] 4)).alloc (Obj.cells #[.int .i64 0] 3)).alloc (Obj.cells #[.slice A0_0 l0_0.length c0_0] 27)).alloc (Obj.cells #[.int .i64 a1] 3)) := ⟨_, rfl⟩
  rw [← hwl]
  have hsz : wl.heap.size = w.heap.size + 7 := by rw [hwl]; simp
  have hB0 : Below w.heap.size w wl := by
    rw [hwl]
    exact ((((((((Below.refl _ w).alloc (Nat.le_refl _) _).alloc (by simp) _).alloc (by simp; omega) _).alloc (by simp; omega) _).alloc (by simp; omega) _).alloc (by simp; omega) _).alloc (by simp; omega) _)
  have R1 : wl.heap[w.heap.size + 1]? = some (.cells #[.int .i64 a2_0, .int .i64 a2_1, .string a2_2, .int .i64 a2_3, .slice A2_4 l2_4.length c2_4] 35 (0, 0)) := by rw [hwl]; exact (blk_alloc (blk_alloc (blk_alloc (blk_alloc (blk_alloc (by have h_ := World.alloc_heap_new (w.alloc (Obj.cells #[.slice A0_0 l0_0.length c0_0] 27)) (Obj.cells #[.int .i64 a2_0, .int .i64 a2_1, .string a2_2, .int .i64 a2_3, .slice A2_4 l2_4.length c2_4] 35); rwa [World.size_alloc] at h_) _) _) _) _) _)
  have R4 : wl.heap[w.heap.size + 1 + 1]? = some (.cells #[.int .i64 0] 3 (0, 0)) := by rw [hwl]; exact (blk_alloc (blk_alloc (blk_alloc (blk_alloc (by have h_ := World.alloc_heap_new ((w.alloc (Obj.cells #[.slice A0_0 l0_0.length c0_0] 27)).alloc (Obj.cells #[.int .i64 a2_0, .int .i64 a2_1, .string a2_2, .int .i64 a2_3, .slice A2_4 l2_4.length c2_4] 35)) (Obj.cells #[.int .i64 0] 3); rwa [World.size_alloc, World.size_alloc] at h_) _) _) _) _)
  have R5 : wl.heap[w.heap.size + 1 + 1 + 1]? = some (.cells #[.bool false] 4 (0, 0)) := by rw [hwl]; exact (blk_alloc (blk_alloc (blk_alloc (by have h_ := World.alloc_heap_new (((w.alloc (Obj.cells #[.slice A0_0 l0_0.length c0_0] 27)).alloc (Obj.cells #[.int .i64 a2_0, .int .i64 a2_1, .string a2_2, .int .i64 a2_3, .slice A2_4 l2_4.length c2_4] 35)).alloc (Obj.cells #[.int .i64 0] 3)) (Obj.cells #[.bool false] 4); rwa [World.size_alloc, World.size_alloc, World.size_alloc] at h_) _) _) _)
  have R6 : wl.heap[w.heap.size + 1 + 1 + 1 + 1]? = some (.cells #[.int .i64 0] 3 (0, 0)) := by rw [hwl]; exact (blk_alloc (blk_alloc (by have h_ := World.alloc_heap_new ((((w.alloc (Obj.cells #[.slice A0_0 l0_0.length c0_0] 27)).alloc (Obj.cells #[.int .i64 a2_0, .int .i64 a2_1, .string a2_2, .int .i64 a2_3, .slice A2_4 l2_4.length c2_4] 35)).alloc (Obj.cells #[.int .i64 0] 3)).alloc (Obj.cells #[.bool false] 4)) (Obj.cells #[.int .i64 0] 3); rwa [World.size_alloc, World.size_alloc, World.size_alloc, World.size_alloc] at h_) _) _)
  have RS : wl.heap[w.heap.size + 1 + 1 + 1 + 1 + 1]? = some (.cells #[.slice A0_0 l0_0.length c0_0] 27 (0, 0)) := by rw [hwl]; exact (blk_alloc (by have h_ := World.alloc_heap_new (((((w.alloc (Obj.cells #[.slice A0_0 l0_0.length c0_0] 27)).alloc (Obj.cells #[.int .i64 a2_0, .int .i64 a2_1, .string a2_2, .int .i64 a2_3, .slice A2_4 l2_4.length c2_4] 35)).alloc (Obj.cells #[.int .i64 0] 3)).alloc (Obj.cells #[.bool false] 4)).alloc (Obj.cells #[.int .i64 0] 3)) (Obj.cells #[.slice A0_0 l0_0.length c0_0] 27); rwa [World.size_alloc, World.size_alloc, World.size_alloc, World.size_alloc, World.size_alloc] at h_) _)
  have RM : wl.heap[w.heap.size + 1 + 1 + 1 + 1 + 1 + 1]? = some (.cells #[.int .i64 a1] 3 (0, 0)) := by rw [hwl]; exact (by have h_ := World.alloc_heap_new ((((((w.alloc (Obj.cells #[.slice A0_0 l0_0.length c0_0] 27)).alloc (Obj.cells #[.int .i64 a2_0, .int .i64 a2_1, .string a2_2, .int .i64 a2_3, .slice A2_4 l2_4.length c2_4] 35)).alloc (Obj.cells #[.int .i64 0] 3)).alloc (Obj.cells #[.bool false] 4)).alloc (Obj.cells #[.int .i64 0] 3)).alloc (Obj.cells #[.slice A0_0 l0_0.length c0_0] 27)) (Obj.cells #[.int .i64 a1] 3); rwa [World.size_alloc, World.size_alloc, World.size_alloc, World.size_alloc, World.size_alloc, World.size_alloc] at h_)
  have hbS : wl.cell? ⟨w.heap.size + 1 + 1 + 1 + 1 + 1, 0, none⟩ = some (.slice A0_0 l0_0.length c0_0) := (blk_cell RS 0).trans rfl
  have hbM : wl.cell? ⟨w.heap.size + 1 + 1 + 1 + 1 + 1 + 1, 0, none⟩ = some (.int .i64 a1) := (blk_cell RM 0).trans rfl
  clear hwl RS RM
  obtain ⟨es, hes, hst⟩ := entries_stops w wl hB0 (fun k => k < w.heap.size) (w.heap.size + 1 + 1 + 1 + 1 + 1 + 1) (w.heap.size + 1 + 1 + 1 + 1 + 1) A0_0 c0_0 l0_0 a1 HF.out (by omega) (by omega) hbM hbS
  have hdef : ∀ p ∈ en es, ∃ c, ckey k a2_0 a2_1 a2_2 a2_3 l2_4 p.2.x = some c := by
    intro p hp
    refine HA.out p.2.x ?_
    rw [← hes]
    exact List.mem_map.2 ⟨p.2, (List.of_mem_zip hp).2, rfl⟩
  have HP := hst (fun p => ∃ c, ckey k a2_0 a2_1 a2_2 a2_3 l2_4 p.2.x = some c) hdef
  have HES := Aside0.mk hes
  have HB0 := Aside0.mk hB0
  have HSZ := Aside0.mk hsz
  clear hst hbS hbM hes hB0 hsz hdef
  obtain ⟨I, hI⟩ : ∃ I : List { p : Nat × EE w (fun k => k < w.heap.size) // ∃ c, ckey k a2_0 a2_1 a2_2 a2_3 l2_4 p.2.x = some c } → World → Prop, I = (fun pre W => Aside0 (∀ p ∈ pre, cval k a2_0 a2_1 a2_2 a2_3 l2_4 p.1.2.x < 0) ∧ Aside0 (W.heap[w.heap.size + 1]? = some (.cells #[.int .i64 a2_0, .int .i64 a2_1, .string a2_2, .int .i64 a2_3, .slice A2_4 l2_4.length c2_4] 35 (0, 0))) ∧ Aside0 (W.heap[w.heap.size + 1 + 1]? = some (.cells #[.int .i64 0] 3 (0, 0))) ∧ Aside0 (W.heap[w.heap.size + 1 + 1 + 1]? = some (.cells #[.bool false] 4 (0, 0))) ∧ Aside0 (W.heap[w.heap.size + 1 + 1 + 1 + 1]? = some (.cells #[.int .i64 (lastIx (pre.map (·.1)))] 3 (0, 0))) ∧ Aside0 (Below w.heap.size w W)) := ⟨_, rfl⟩
  obtain ⟨Ix, hIx⟩ : ∃ Ix : Code → List { p : Nat × EE w (fun k => k < w.heap.size) // ∃ c, ckey k a2_0 a2_1 a2_2 a2_3 l2_4 p.2.x = some c } → World → Prop, Ix = (fun c pre W => ∃ init x, pre = init ++ [x] ∧ Aside0 (∀ p ∈ init, cval k a2_0 a2_1 a2_2 a2_3 l2_4 p.1.2.x < 0) ∧ Aside0 (Below w.heap.size w W) ∧ ((c = .ret ∧ Aside0 (cval k a2_0 a2_1 a2_2 a2_3 l2_4 x.1.2.x = 0) ∧ Aside0 (W.heap[w.heap.size + 1 + 1]? = some (.cells #[.int .i64 (x.1.1 : Int)] 3 (0, 0))) ∧ Aside0 (W.heap[w.heap.size + 1 + 1 + 1]? = some (.cells #[.bool true] 4 (0, 0)))) ∨ (c = .exit 0 ∧ Aside0 (0 < cval k a2_0 a2_1 a2_2 a2_3 l2_4 x.1.2.x) ∧ Aside0 (W.heap[w.heap.size + 1 + 1]? = some (.cells #[.int .i64 0] 3 (0, 0))) ∧ Aside0 (W.heap[w.heap.size + 1 + 1 + 1]? = some (.cells #[.bool false] 4 (0, 0))) ∧ Aside0 (W.heap[w.heap.size + 1 + 1 + 1 + 1]? = some (.cells #[.int .i64 (lastIx (init.map (·.1)))] 3 (0, 0)))))) := ⟨_, rfl⟩
  have HI := Aside0.mk (fun pre W => Iff.of_eq (congrFun (congrFun hI pre) W))
  have HIx := Aside0.mk (fun c pre W => Iff.of_eq (congrFun (congrFun (congrFun hIx c) pre) W))
  clear hI hIx
  have HMX := Aside0.mk (mapOf_max a1 HF.out)
  refine (wpIn_wide (n := 4)).1 ?_
  refine wpIn_rangeFunc_ownH (n := 4) rfl (by omega) (gf := 59) (lb := #[.pointer (some ⟨w.heap.size + 1 + 1 + 1 + 1 + 1 + 1, 0, none⟩), .pointer (some ⟨w.heap.size + 1 + 1 + 1 + 1 + 1, 0, none⟩)]) rfl trivial (enters_of Try.func59 (by kernel_rfl) rfl)
    HP belowK_t (belowK_b HB0.out.size) (Below.refl _ _) (fun _ => rfl)
    I Ix
    ?hI ?hIx ((HI.out _ _).2 ⟨⟨by simp⟩, ⟨R1⟩, ⟨R4⟩, ⟨R5⟩, ⟨R6⟩, HB0⟩)
    (fun x a' W => ∃ Bx, Aside0 (w.heap.size + 1 + 1 + 1 + 1 < Bx) ∧ Aside0 (W.heap[Bx]? = some (.cells #[.int .i64 x.1.2.x.f0.f0, .int .i64 x.1.2.x.f0.f1, .string x.1.2.x.f0.f2, .int .i64 x.1.2.x.f0.f3, .slice x.1.2.A4 x.1.2.x.f0.f4.length x.1.2.c4, .int .i64 x.1.2.x.f1.f0, .int .i64 x.1.2.x.f1.f1, .string x.1.2.x.f1.f2, .int .i64 x.1.2.x.f1.f3, .slice x.1.2.A9 x.1.2.x.f1.f4.length x.1.2.c9] 82 (0, 0))) ∧ a' = { tmps := #[.agg #[.slice A0_0 l0_0.length c0_0], .int .i64 a1, .agg #[.int .i64 a2_0, .int .i64 a2_1, .string a2_2, .int .i64 a2_3, .slice A2_4 l2_4.length c2_4], .pointer (some ⟨w.heap.size, 0, none⟩), undef, .pointer (some ⟨w.heap.size + 1, 0, none⟩), .pointer (some ⟨w.heap.size + 1 + 1, 0, none⟩), .pointer (some ⟨w.heap.size + 1 + 1 + 1, 0, none⟩), .pointer (some ⟨w.heap.size + 1 + 1 + 1 + 1, 0, none⟩), .int .i64 (x.1.1 : Int), .pointer (some ⟨Bx, 0, none⟩), undef, .agg #[.slice A0_0 l0_0.length c0_0], .int .i64 a1, .func (.func 59) #[] #[.pointer (some ⟨w.heap.size + 1 + 1 + 1 + 1 + 1 + 1, 0, none⟩), .pointer (some ⟨w.heap.size + 1 + 1 + 1 + 1 + 1, 0, none⟩)], .int .i64 (x.1.1 : Int), x.1.2.v, undef, undef, undef, undef, undef, undef, undef, undef, undef, undef, undef, undef, undef, undef], defers := [] })
    ?hAx ?assign ?body ?done ?stop
  case hI =>
    intro s X Y row hs_ hg hr
    have hs := (HI.out _ _).1 hs_
    exact (HI.out _ _).2 ⟨hs.1, blk_from hs.2.1 hg hr, blk_from hs.2.2.1 hg hr, blk_from hs.2.2.2.1 hg hr, blk_from hs.2.2.2.2.1 hg hr, below_from hs.2.2.2.2.2 (Nat.le_refl _) HB0.out.size hg hr⟩
  case hIx =>
    intro c s X Y row hs_ hg hr
    obtain ⟨init, x, hx, h0, hw, ⟨hc, hz, h4, h5⟩ | ⟨hc, hz, h4, h5, h6⟩⟩ := (HIx.out _ _ _).1 hs_
    · exact (HIx.out _ _ _).2 ⟨init, x, hx, h0, below_from hw (Nat.le_refl _) HB0.out.size hg hr, .inl ⟨hc, hz, blk_from h4 hg hr, blk_from h5 hg hr⟩⟩
    exact (HIx.out _ _ _).2 ⟨init, x, hx, h0, below_from hw (Nat.le_refl _) HB0.out.size hg hr, .inr ⟨hc, hz, blk_from h4 hg hr, blk_from h5 hg hr, blk_from h6 hg hr⟩⟩
  case hAx =>
    rintro x a' s X Y row ⟨Bx, gx, bx, ha⟩ hg hr
    exact ⟨Bx, gx, blk_from bx hg hr, ha⟩
  case assign =>
    intro l pre x W K hi_ hK
    obtain ⟨H0, h1, h4, h5, h6, hB⟩ := (HI.out _ _).1 hi_
    clear hi_
    simp only [EE.v]
    gi_wp2
    have hlt := (Array.getElem?_eq_some_iff.1 h6.out).1
    exact hK _ _ ((KeepsOthers.alloc _ _).from _) ((Below.refl _ W).alloc hB.out.size _) ((HI.out _ _).2 ⟨H0, ⟨blk_alloc h1.out _⟩, ⟨blk_alloc h4.out _⟩, ⟨blk_alloc h5.out _⟩, ⟨blk_alloc h6.out _⟩, ⟨hB.out.alloc hB.out.size _⟩⟩) ⟨W.heap.size, ⟨hlt⟩, ⟨World.alloc_heap_new W _⟩, rfl⟩
  case body =>
    rintro l pre ⟨⟨ix, e⟩, c, hc⟩ a' W hl hrec hi_ ⟨Bx, gx, bx, rfl⟩ hlt
    obtain ⟨H0, h1, h4, h5, h6, hB⟩ := (HI.out _ _).1 hi_
    have HC0 := Aside0.mk hc
    clear hlt hi_
    have hx0 : W.cell? ⟨Bx, 0, none⟩ = some (.int .i64 e.x.f0.f0) := (blk_cell bx.out 0).trans rfl
    have hx1 : W.cell? ⟨Bx, 1, none⟩ = some (.int .i64 e.x.f0.f1) := (blk_cell bx.out 1).trans rfl
    have hx2 : W.cell? ⟨Bx, 2, none⟩ = some (.string e.x.f0.f2) := (blk_cell bx.out 2).trans rfl
    have hx3 : W.cell? ⟨Bx, 3, none⟩ = some (.int .i64 e.x.f0.f3) := (blk_cell bx.out 3).trans rfl
    have hx4 : W.cell? ⟨Bx, 4, none⟩ = some (.slice e.A4 e.x.f0.f4.length e.c4) := (blk_cell bx.out 4).trans rfl
    have hk0 : W.cell? ⟨w.heap.size + 1, 0, none⟩ = some (.int .i64 a2_0) := (blk_cell h1.out 0).trans rfl
    have hk1 : W.cell? ⟨w.heap.size + 1, 1, none⟩ = some (.int .i64 a2_1) := (blk_cell h1.out 1).trans rfl
    have hk2 : W.cell? ⟨w.heap.size + 1, 2, none⟩ = some (.string a2_2) := (blk_cell h1.out 2).trans rfl
    have hk3 : W.cell? ⟨w.heap.size + 1, 3, none⟩ = some (.int .i64 a2_3) := (blk_cell h1.out 3).trans rfl
    have hk4 : W.cell? ⟨w.heap.size + 1, 4, none⟩ = some (.slice A2_4 l2_4.length c2_4) := (blk_cell h1.out 4).trans rfl
    have hd : 1 ≤ 4 - 1 - 1 := by omega
    have hcv : cval k a2_0 a2_1 a2_2 a2_3 l2_4 e.x = c := by simp [cval, show ckey k a2_0 a2_1 a2_2 a2_3 l2_4 e.x = some c from HC0.out]
    have HCV := Aside0.mk hcv
    clear hcv
    have hlt4 := Aside0.mk (Array.getElem?_eq_some_iff.1 h4.out).1
    have hlt5 := Aside0.mk (Array.getElem?_eq_some_iff.1 h5.out).1
    have hlt6 := Aside0.mk (Array.getElem?_eq_some_iff.1 h6.out).1
    have hlt1 := Aside0.mk (Array.getElem?_eq_some_iff.1 h1.out).1
    have hsz := Aside0.mk hB.out.size
    have hne : w.heap.size + 1 + 1 ≠ w.heap.size + 1 + 1 + 1 := by omega
    have HNE := Aside0.mk hne
    clear hne
    by_cases hz0 : c = 0
    · have hp1 : (c == 0) = true := beq_iff_eq.mpr hz0
      have HPOS := Aside0.mk hz0
      clear hz0
      gi_wp2
      refine ⟨trivial, ?_⟩
      refine (CallsIn.inRound l (callsIn_wide.2 (value_Compare.calls k e.x.f0.f0 e.x.f0.f1 e.x.f0.f2 e.x.f0.f3 e.A4 e.c4 e.x.f0.f4 a2_0 a2_1 a2_2 a2_3 A2_4 c2_4 l2_4 c _ (Kd.F_now (Kd.F_below e.rd4 hB.out)) e.le4 (Kd.C_below HR.out hB.out) HC.out HC0.out))).mono ?_
      rintro e_ W3 ⟨rfl, hb3⟩
      have B3 := Aside0.mk hb3
      have h43 := Aside0.mk ((hb3.block _ hlt4.out).trans h4.out)
      have h53 := Aside0.mk ((hb3.block _ hlt5.out).trans h5.out)
      have h63 := Aside0.mk ((hb3.block _ hlt6.out).trans h6.out)
      clear hb3 hx0 hx1 hx2 hx3 hx4 hk0 hk1 hk2 hk3 hk4
      have hr0 : W3.cell? ⟨w.heap.size + 1 + 1, 0, none⟩ = some (.int .i64 0) := (blk_cell h43.out 0).trans rfl
      have hs0 := blk_frozen h43.out 0
      have hq0 : W3.cell? ⟨w.heap.size + 1 + 1 + 1, 0, none⟩ = some (.bool false) := (blk_cell h53.out 0).trans rfl
      have ht0 := blk_frozen h53.out 0
      have hu0 : W3.cell? ⟨w.heap.size + 1 + 1 + 1 + 1, 0, none⟩ = some (.int .i64 (lastIx (pre.map (·.1)))) := (blk_cell h63.out 0).trans rfl
      have hv0 := blk_frozen h63.out 0
      dsimp only
      gi_wp2
      have hb3 := B3.out
      have hne := HNE.out
      refine ⟨(keeps_of_below hb3).trans (((KeepsOthers.setCell _ _ _).trans (KeepsOthers.setCell _ _ _)).from _), (HIx.out _ _ _).2 ⟨pre, _, rfl, H0, ⟨?_⟩, .inl ⟨rfl, ⟨by show cval k a2_0 a2_1 a2_2 a2_3 l2_4 e.x = 0; rw [HCV.out]; exact HPOS.out⟩, ⟨?_⟩, ⟨?_⟩⟩⟩⟩
      · exact ((hB.out.trans (hb3.mono hsz.out)).setCell (p := ⟨w.heap.size + 1 + 1, 0, none⟩) (by simp; omega) _).setCell (p := ⟨w.heap.size + 1 + 1 + 1, 0, none⟩) (by simp; omega) _
      · exact (Below.heap_setCell _ _ _ _ hne).trans (Boxed.set (.int .i64 (ix : Int)) (show Boxed W3 (w.heap.size + 1 + 1) 3 (.int .i64 0) from h43.out))
      exact Boxed.set (.bool true) (show Boxed (W3.setCell ⟨w.heap.size + 1 + 1, 0, none⟩ _) (w.heap.size + 1 + 1 + 1) 4 (.bool false) from (Below.heap_setCell _ _ _ _ (Ne.symm hne)).trans h53.out)
    have hp1 : (c == 0) = false := beq_eq_false_iff_ne.mpr hz0
    have HZ0 := Aside0.mk hz0
    by_cases hpos : 0 < c
    · have hp3 : decide (c > 0) = true := decide_eq_true hpos
      have hp2 : decide (0 < c) = true := decide_eq_true hpos
      have HPOS := Aside0.mk hpos
      clear hpos hz0
      gi_wp2
      refine ⟨trivial, ?_⟩
      refine (CallsIn.inRound l (callsIn_wide.2 (value_Compare.calls k e.x.f0.f0 e.x.f0.f1 e.x.f0.f2 e.x.f0.f3 e.A4 e.c4 e.x.f0.f4 a2_0 a2_1 a2_2 a2_3 A2_4 c2_4 l2_4 c _ (Kd.F_now (Kd.F_below e.rd4 hB.out)) e.le4 (Kd.C_below HR.out hB.out) HC.out HC0.out))).mono ?_
      rintro e_ W3 ⟨rfl, hb3⟩
      have B3 := Aside0.mk hb3
      have h43 := Aside0.mk ((hb3.block _ hlt4.out).trans h4.out)
      have h53 := Aside0.mk ((hb3.block _ hlt5.out).trans h5.out)
      have h63 := Aside0.mk ((hb3.block _ hlt6.out).trans h6.out)
      clear hb3 hx0 hx1 hx2 hx3 hx4 hk0 hk1 hk2 hk3 hk4
      have hr0 : W3.cell? ⟨w.heap.size + 1 + 1, 0, none⟩ = some (.int .i64 0) := (blk_cell h43.out 0).trans rfl
      have hs0 := blk_frozen h43.out 0
      have hq0 : W3.cell? ⟨w.heap.size + 1 + 1 + 1, 0, none⟩ = some (.bool false) := (blk_cell h53.out 0).trans rfl
      have ht0 := blk_frozen h53.out 0
      have hu0 : W3.cell? ⟨w.heap.size + 1 + 1 + 1 + 1, 0, none⟩ = some (.int .i64 (lastIx (pre.map (·.1)))) := (blk_cell h63.out 0).trans rfl
      have hv0 := blk_frozen h63.out 0
      dsimp only
      gi_wp2
      have hb3 := B3.out
      refine ⟨keeps_of_below hb3, (HIx.out _ _ _).2 ⟨pre, _, rfl, H0, ⟨hB.out.trans (hb3.mono hsz.out)⟩, .inr ⟨rfl, ⟨by show 0 < cval k a2_0 a2_1 a2_2 a2_3 l2_4 e.x; rw [HCV.out]; exact HPOS.out⟩, h43, h53, h63⟩⟩⟩
    have hp3 : decide (c > 0) = false := decide_eq_false hpos
    have hp2 : decide (0 < c) = false := decide_eq_false hpos
    have HPOS := Aside0.mk hpos
    clear hpos hz0
    gi_wp2
    refine ⟨trivial, ?_⟩
    refine (CallsIn.inRound l (callsIn_wide.2 (value_Compare.calls k e.x.f0.f0 e.x.f0.f1 e.x.f0.f2 e.x.f0.f3 e.A4 e.c4 e.x.f0.f4 a2_0 a2_1 a2_2 a2_3 A2_4 c2_4 l2_4 c _ (Kd.F_now (Kd.F_below e.rd4 hB.out)) e.le4 (Kd.C_below HR.out hB.out) HC.out HC0.out))).mono ?_
    rintro e_ W3 ⟨rfl, hb3⟩
    have B3 := Aside0.mk hb3
    have h43 := Aside0.mk ((hb3.block _ hlt4.out).trans h4.out)
    have h53 := Aside0.mk ((hb3.block _ hlt5.out).trans h5.out)
    have h63 := Aside0.mk ((hb3.block _ hlt6.out).trans h6.out)
    clear hb3 hx0 hx1 hx2 hx3 hx4 hk0 hk1 hk2 hk3 hk4
    have hr0 : W3.cell? ⟨w.heap.size + 1 + 1, 0, none⟩ = some (.int .i64 0) := (blk_cell h43.out 0).trans rfl
    have hs0 := blk_frozen h43.out 0
    have hq0 : W3.cell? ⟨w.heap.size + 1 + 1 + 1, 0, none⟩ = some (.bool false) := (blk_cell h53.out 0).trans rfl
    have ht0 := blk_frozen h53.out 0
    have hu0 : W3.cell? ⟨w.heap.size + 1 + 1 + 1 + 1, 0, none⟩ = some (.int .i64 (lastIx (pre.map (·.1)))) := (blk_cell h63.out 0).trans rfl
    have hv0 := blk_frozen h63.out 0
    dsimp only
    gi_wp2
    have hb3 := B3.out
    refine ⟨(keeps_of_below hb3).trans ((KeepsOthers.setCell _ _ _).from _), ((hb3.mono hsz.out).trans ((Below.refl _ _).setCell (p := ⟨w.heap.size + 1 + 1 + 1 + 1, 0, none⟩) (by simp; omega) _)), (HI.out _ _).2 ⟨⟨?_⟩, ⟨?_⟩, ⟨?_⟩, ⟨?_⟩, ⟨?_⟩, ⟨?_⟩⟩⟩
    · intro p hp
      rcases List.mem_append.1 hp with hp | hp
      · exact H0.out p hp
      obtain rfl := List.mem_singleton.1 hp
      show cval k a2_0 a2_1 a2_2 a2_3 l2_4 e.x < 0
      rw [HCV.out]
      have h1_ := HPOS.out
      have h2_ := HZ0.out
      omega
    · exact (Below.heap_setCell _ _ _ _ (by simp)).trans ((hb3.block _ hlt1.out).trans h1.out)
    · exact (Below.heap_setCell _ _ _ _ (by simp)).trans h43.out
    · exact (Below.heap_setCell _ _ _ _ (by simp)).trans h53.out
    · rw [List.map_append, List.map_cons, List.map_nil, lastIx_snoc]
      exact Boxed.set _ (show Boxed W3 (w.heap.size + 1 + 1 + 1 + 1) 3 _ from h63.out)
    exact (hB.out.trans (hb3.mono hsz.out)).setCell (p := ⟨w.heap.size + 1 + 1 + 1 + 1, 0, none⟩) (by simp; omega) _
  case done =>
    intro D ys W hD hys hi_ hK
    obtain ⟨H0, h1, h4, h5, h6, hB⟩ := (HI.out _ _).1 hi_
    clear hi_
    have hr0 : W.cell? ⟨w.heap.size + 1 + 1, 0, none⟩ = some (.int .i64 0) := (blk_cell h4.out 0).trans rfl
    have hs0 := blk_frozen h4.out 0
    have hq0 : W.cell? ⟨w.heap.size + 1 + 1 + 1, 0, none⟩ = some (.bool false) := (blk_cell h5.out 0).trans rfl
    have ht0 := blk_frozen h5.out 0
    have hu0 : W.cell? ⟨w.heap.size + 1 + 1 + 1 + 1, 0, none⟩ = some (.int .i64 (lastIx (ys.map (·.1)))) := (blk_cell h6.out 0).trans rfl
    have hv0 := blk_frozen h6.out 0
    have HK := Aside0.mk hK
    have HD := Aside0.mk hD
    have HYS := Aside0.mk hys
    clear hK hD hys
    go_wp2_with (first | (with_reducible refine wp_label ?_) | ((with_reducible refine Opn.wp_scope_nog ?sc ?_); (case sc => funext e_ a_ w_; cases e_ <;> rfl)))
    have hne : w.heap.size + 1 + 1 ≠ w.heap.size + 1 + 1 + 1 := by omega
    have hmx : es.length ≤ 9223372036854775807 := by have h_ := HMX.out; rw [← HES.out, List.length_map] at h_; exact h_
    have hlast : lastIx (ys.map (·.1)) = (es.length : Int) := by
      rw [HYS.out, lastIx_en hmx (List.prefix_refl _), en_length]
    have hf := HH.out
    rw [← HES.out, show es.map (·.x) = es.map (·.x) ++ [] from (List.append_nil _).symm, placeOf_app _ _ _ (fun x hx => by
      obtain ⟨e, he, rfl⟩ := List.mem_map.1 hx
      obtain ⟨p, hp, rfl⟩ := en_mem he
      rw [← HYS.out] at hp
      obtain ⟨q, hq, rfl⟩ := List.mem_map.1 hp
      exact H0.out q hq)] at hf
    simp only [placeOf, Prod.mk.injEq, List.length_map, Int.zero_add] at hf
    obtain ⟨rfl, rfl⟩ := hf
    rw [hlast]
    have hK' := ((KeepsOthers.setCell W ⟨w.heap.size + 1 + 1, 0, none⟩ (.int .i64 (es.length : Int))).trans (KeepsOthers.setCell _ ⟨w.heap.size + 1 + 1 + 1, 0, none⟩ (.bool false))).same D _ HK.out rfl
    have r4 := (Below.heap_setCell (W.setCell ⟨w.heap.size + 1 + 1, 0, none⟩ (.int .i64 (es.length : Int))) ⟨w.heap.size + 1 + 1 + 1, 0, none⟩ (.bool false) _ hne).trans (Boxed.set (.int .i64 (es.length : Int)) (show Boxed W (w.heap.size + 1 + 1) 3 (.int .i64 0) from h4.out))
    have r5 := Boxed.set (.bool false) (show Boxed (W.setCell ⟨w.heap.size + 1 + 1, 0, none⟩ (.int .i64 (es.length : Int))) (w.heap.size + 1 + 1 + 1) 4 (.bool false) from (Below.heap_setCell _ _ _ _ (Ne.symm hne)).trans h5.out)
    have q4 := (blk_from (B := 0) ⟨r4⟩ (grownBy_putObj' _ D (.deferred none)) (fun r e => by cases e; exact ⟨Nat.zero_le _, _, hK', rfl⟩)).out
    have q5 := (blk_from (B := 0) ⟨r5⟩ (grownBy_putObj' _ D (.deferred none)) (fun r e => by cases e; exact ⟨Nat.zero_le _, _, hK', rfl⟩)).out
    show LeavesInM Fence.wide 5 Try.prog Try.f37 _ _ _ .returning _
    refine ⟨by simp, .inl ⟨_, _, rfl, run_takeDeferred hK', ?_⟩⟩
    refine ⟨.tuple #[.int .i64 (es.length : Int), .bool false], ?_, rfl, ((hB.out.setCell (p := ⟨w.heap.size + 1 + 1, 0, none⟩) (by simp; omega) _).setCell (p := ⟨w.heap.size + 1 + 1 + 1, 0, none⟩) (by simp; omega) _).trans (belowK_b (w := w) (Nat.le_refl _) _ D _ _ (Nat.le_trans HB0.out.size HD.out) hK' rfl rfl)⟩
    have c0 := (blk_cell q4 0).trans rfl
    have c1 := (blk_cell q5 0).trans rfl
    simp [results, Try.f37, go_sem, c0, c1]
  case stop =>
    intro D c pre W hD hpre hi_ hK
    obtain ⟨init, x, rfl, h0, hB, ⟨rfl, hz, h4, h5⟩ | ⟨rfl, hz, h4, h5, h6⟩⟩ := (HIx.out _ _ _).1 hi_
    · have HK := Aside0.mk hK
      have HD := Aside0.mk hD
      have HPRE := Aside0.mk hpre
      clear hK hD hpre hi_
      refine wpIn_wide.2 ?_
      go_wp2_with (first | (with_reducible refine wp_label ?_) | ((with_reducible refine Opn.wp_scope_nog ?sc ?_); (case sc => funext e_ a_ w_; cases e_ <;> rfl)))
      obtain ⟨hix, tl, htl⟩ := en_split HPRE.out
      have hf := HH.out
      rw [← HES.out, htl, placeOf_app _ _ _ (fun y hy => by obtain ⟨q, hq, rfl⟩ := List.mem_map.1 hy; exact h0.out q hq)] at hf
      simp only [placeOf, if_pos hz.out, Prod.mk.injEq, List.length_map, Int.zero_add] at hf
      obtain ⟨rfl, rfl⟩ := hf
      rw [hix] at h4
      have hK := HK.out
      have q4 := (blk_from (B := 0) h4 (grownBy_putObj' _ D (.deferred none)) (fun r e => by cases e; exact ⟨Nat.zero_le _, _, hK, rfl⟩)).out
      have q5 := (blk_from (B := 0) h5 (grownBy_putObj' _ D (.deferred none)) (fun r e => by cases e; exact ⟨Nat.zero_le _, _, hK, rfl⟩)).out
      show LeavesInM Fence.wide 5 Try.prog Try.f37 _ _ _ .returning _
      refine ⟨by simp, .inl ⟨_, _, rfl, run_takeDeferred hK, ?_⟩⟩
      refine ⟨.tuple #[.int .i64 (init.length : Int), .bool true], ?_, rfl, hB.out.trans (belowK_b (w := w) (Nat.le_refl _) W D (.deferred (some [])) (.deferred none) (Nat.le_trans HB0.out.size HD.out) hK rfl rfl)⟩
      have c0 := (blk_cell q4 0).trans rfl
      have c1 := (blk_cell q5 0).trans rfl
      simp [results, Try.f37, go_sem, c0, c1]
    have HK := Aside0.mk hK
    have HD := Aside0.mk hD
    have HPRE := Aside0.mk hpre
    clear hK hD hpre hi_
    have hr0 : W.cell? ⟨w.heap.size + 1 + 1, 0, none⟩ = some (.int .i64 0) := (blk_cell h4.out 0).trans rfl
    have hs0 := blk_frozen h4.out 0
    have hq0 : W.cell? ⟨w.heap.size + 1 + 1 + 1, 0, none⟩ = some (.bool false) := (blk_cell h5.out 0).trans rfl
    have ht0 := blk_frozen h5.out 0
    have hu0 : W.cell? ⟨w.heap.size + 1 + 1 + 1 + 1, 0, none⟩ = some (.int .i64 (lastIx (init.map (·.1)))) := (blk_cell h6.out 0).trans rfl
    have hv0 := blk_frozen h6.out 0
    refine wpIn_wide.2 ?_
    go_wp2_with (first | (with_reducible refine wp_label ?_) | ((with_reducible refine Opn.wp_scope_nog ?sc ?_); (case sc => funext e_ a_ w_; cases e_ <;> rfl)))
    obtain ⟨hix, tl, htl⟩ := en_split HPRE.out
    have hne : w.heap.size + 1 + 1 ≠ w.heap.size + 1 + 1 + 1 := by omega
    have hmx : es.length ≤ 9223372036854775807 := by have h_ := HMX.out; rw [← HES.out, List.length_map] at h_; exact h_
    have hpre2 : init.map (·.1) <+: en es := ((List.prefix_append init [x]).map _).trans HPRE.out
    have hlast : lastIx (init.map (·.1)) = (init.length : Int) := by rw [lastIx_en hmx hpre2, List.length_map]
    have hf := HH.out
    rw [← HES.out, htl, placeOf_app _ _ _ (fun y hy => by obtain ⟨q, hq, rfl⟩ := List.mem_map.1 hy; exact h0.out q hq)] at hf
    simp only [placeOf] at hf
    rw [if_neg (by have h_ := hz.out; omega), if_pos hz.out] at hf
    simp only [Prod.mk.injEq, List.length_map, Int.zero_add] at hf
    obtain ⟨rfl, rfl⟩ := hf
    rw [hlast]
    have hK' := ((KeepsOthers.setCell W ⟨w.heap.size + 1 + 1, 0, none⟩ (.int .i64 (init.length : Int))).trans (KeepsOthers.setCell _ ⟨w.heap.size + 1 + 1 + 1, 0, none⟩ (.bool false))).same D _ HK.out rfl
    have r4 := (Below.heap_setCell (W.setCell ⟨w.heap.size + 1 + 1, 0, none⟩ (.int .i64 (init.length : Int))) ⟨w.heap.size + 1 + 1 + 1, 0, none⟩ (.bool false) _ hne).trans (Boxed.set (.int .i64 (init.length : Int)) (show Boxed W (w.heap.size + 1 + 1) 3 (.int .i64 0) from h4.out))
    have r5 := Boxed.set (.bool false) (show Boxed (W.setCell ⟨w.heap.size + 1 + 1, 0, none⟩ (.int .i64 (init.length : Int))) (w.heap.size + 1 + 1 + 1) 4 (.bool false) from (Below.heap_setCell _ _ _ _ (Ne.symm hne)).trans h5.out)
    have q4 := (blk_from (B := 0) ⟨r4⟩ (grownBy_putObj' _ D (.deferred none)) (fun r e => by cases e; exact ⟨Nat.zero_le _, _, hK', rfl⟩)).out
    have q5 := (blk_from (B := 0) ⟨r5⟩ (grownBy_putObj' _ D (.deferred none)) (fun r e => by cases e; exact ⟨Nat.zero_le _, _, hK', rfl⟩)).out
    show LeavesInM Fence.wide 5 Try.prog Try.f37 _ _ _ .returning _
    refine ⟨by simp, .inl ⟨_, _, rfl, run_takeDeferred hK', ?_⟩⟩
    refine ⟨.tuple #[.int .i64 (init.length : Int), .bool false], ?_, rfl, ((hB.out.setCell (p := ⟨w.heap.size + 1 + 1, 0, none⟩) (by simp; omega) _).setCell (p := ⟨w.heap.size + 1 + 1 + 1, 0, none⟩) (by simp; omega) _).trans (belowK_b (w := w) (Nat.le_refl _) _ D _ _ (Nat.le_trans HB0.out.size HD.out) hK' rfl rfl)⟩
    have c0 := (blk_cell q4 0).trans rfl
    have c1 := (blk_cell q5 0).trans rfl
    simp [results, Try.f37, go_sem, c0, c1]
end Go.Proofs.Ytnokieaebnmljaa.PAll
/- The document's at finds the place that heap.place finds. -/
namespace Go.Proofs.Ytnokieaebnmljaa.PAll
open Go Go.Proofs Go.RowKit Go.Shelf Go.Proofs.YtnokieaebnmljaaW.PrintWords
set_option linter.unusedVariables false
set_option linter.unusedSimpArgs false
theorem ref_same (d k : Nat) (x y : S35) (hk : 1010 * d ≤ k) (hx : dw d x) (hy : dw d y) : windlassref3_Same.f k x.f0 x.f1 x.f2 x.f3 x.f4 y.f0 y.f1 y.f2 y.f3 y.f4 = some (decide (cmpD d x y = 0)) := by
  unfold windlassref3_Same.f
  rw [ref_cmpD d k x y hk hx hy]
  by_cases h : cmpD d x y = 0 <;> simp [h]
theorem at_loop (d : Nat) (key : S35) (hkey : dw d key) (l : List S82) (hl : ∀ e ∈ l, dw d e.f0) (hn : l.length ≤ 1000) :
    ∀ (n k i : Nat), l.length - i ≤ n → 1010 * d + n + 1 ≤ k → i ≤ l.length → windlassref4_at.l0 k l (i : Int) key.f0 key.f1 key.f2 key.f3 key.f4 = some (placeOf (fun e => cmpD d e.f0 key) (l.drop i) (i : Int)) := by
  intro n
  induction n with
  | zero =>
    intro k i h1 h2 h3
    obtain ⟨k, rfl⟩ : ∃ j, k = j + 1 := ⟨k - 1, by omega⟩
    have hi : i = l.length := by omega
    subst hi
    unfold windlassref4_at.l0
    rw [if_neg (by omega), List.drop_length]
    rfl
  | succ n ih =>
    intro k i h1 h2 h3
    obtain ⟨k, rfl⟩ : ∃ j, k = j + 1 := ⟨k - 1, by omega⟩
    unfold windlassref4_at.l0
    by_cases hlt : i < l.length
    · rw [if_pos (show (i : Int) < (l.length : Int) by omega), if_pos (show (0 : Int) ≤ (i : Int) by omega), List.drop_eq_getElem_cons hlt]
      have e1 : rd_T82 l (i : Int) = l[i] := by simp [rd_T82, hlt]
      have hd := hl _ (List.getElem_mem hlt)
      rw [e1, ref_cmpD d k _ _ (by omega) hd hkey, ref_same d k _ _ (by omega) hd hkey]
      simp only [Option.bind_some, placeOf]
      have hr := (lin_cmpD d).rng l[i].f0 key
      by_cases hc : cmpD d l[i].f0 key < 0
      · rw [if_pos hc, if_neg (by omega), if_neg (by omega)]
        have ew : wrap64 ((i : Int) + 1) = ((i + 1 : Nat) : Int) := by unfold wrap64; omega
        rw [ew, ih k (i + 1) (by omega) (by omega) (by omega)]
        simp
      · rw [if_neg hc]
        by_cases h0 : cmpD d l[i].f0 key = 0
        · simp [h0]
        · rw [if_neg h0, if_pos (by omega)]; simp [h0]
    · have hi : i = l.length := by omega
      subst hi
      rw [if_neg (by omega), List.drop_length]
      rfl
theorem cval_cmpD (d k : Nat) (key : S35) (hk : d + 6 ≤ k) (hkey : dw d key) (e : S82) (he : dw d e.f0) : ckey k key.f0 key.f1 key.f2 key.f3 key.f4 e = some (cmpD d e.f0 key) := compare_cmpD d k e.f0 key hk he hkey
theorem place_cmpD (d k : Nat) (key : S35) (hk : d + 6 ≤ k) (hkey : dw d key) (l0 : List (List S82)) (m : Int) (hl : ∀ e ∈ mapOf l0 m, dw d e.f0) : heap_place.f k l0 m key.f0 key.f1 key.f2 key.f3 key.f4 = some (placeOf (fun e => cmpD d e.f0 key) (mapOf l0 m) 0) := by
  unfold heap_place.f
  rw [if_pos (show call k key.f0 key.f1 key.f2 key.f3 key.f4 (mapOf l0 m) from fun e he => ⟨_, cval_cmpD d k key hk hkey e (hl e he)⟩)]
  congr 1
  exact placeOf_congr _ _ (fun e he => by simp [cval, cval_cmpD d k key hk hkey e (hl e he)])
theorem at_cmpD (d k : Nat) (key : S35) (hkey : dw d key) (l0 : List (List S82)) (m : Int) (hl : ∀ e ∈ mapOf l0 m, dw d e.f0) (hn : (mapOf l0 m).length ≤ 1000) (hk : 1010 * d + 1002 ≤ k) : windlassref4_at.f k l0 m key.f0 key.f1 key.f2 key.f3 key.f4 = some (placeOf (fun e => cmpD d e.f0 key) (mapOf l0 m) 0) := by
  obtain ⟨k, rfl⟩ : ∃ j, k = j + 1 := ⟨k - 1, by omega⟩
  unfold windlassref4_at.f
  simp only [windlassref4_at.j0]
  unfold mapOf at *
  by_cases h0 : m < 0
  · have hm : ¬ (0 ≤ m ∧ m < (l0.length : Int)) := by omega
    rw [if_neg hm]
    simp [h0, placeOf]
  · rw [if_neg h0]
    by_cases h1 : m < (l0.length : Int)
    · have hm : 0 ≤ m ∧ m < (l0.length : Int) := ⟨by omega, h1⟩
      rw [if_pos hm] at hl hn ⊢
      rw [if_neg (by simp; omega), if_pos hm.1, if_pos h1]
      have := at_loop d key hkey _ hl hn 1000 k 0 (by omega) (by omega) (Nat.zero_le _)
      simpa using this
    · rw [if_pos (by simp; omega), if_neg (by omega)]; rfl
end Go.Proofs.Ytnokieaebnmljaa.PAll
namespace Go.Proofs.Ytnokieaebnmljaa.PAll
open Go Go.Proofs Go.RowKit Go.Shelf Go.Proofs.YtnokieaebnmljaaW.PrintWords Go.Proofs.YtnokieaebnmljaaW.PrintLast Go.Proofs.YtnokieaebnmljaaW.PrintMore
attribute [local go_sem] Oper.semAt_some
set_option linter.unusedVariables false
set_option linter.unusedSimpArgs false
/-- A map's rows as a state's row has them. -/
structure SE (w0 : World) (ok : Nat → Prop) where
  x : List S82
  A : Option Addr
  c : Nat
  le : x.length ≤ c
  rd : Kd.F k82 w0 ok A x.length x
def SE.v {w0 : World} {ok : Nat → Prop} (e : SE w0 ok) : Value := .slice e.A e.x.length e.c
theorem se_of {w0 : World} {ok : Nat → Prop} {A : Option Addr} {l : List (List S82)} (h : Kd.F (Kd.slice 82 k82) w0 ok A l.length l) : ∃ es : List (SE w0 ok), es.map (·.x) = l ∧ ∀ i (hi : i < es.length), ∃ ad, A = some ad ∧ w0.cell? (ad.add i) = some es[i].v := by
  have hx : ∀ i (hi : i < l.length), ∃ e : SE w0 ok, e.x = l[i] ∧ ∃ ad, A = some ad ∧ w0.cell? (ad.add i) = some e.v := by
    intro i hi
    obtain ⟨ad, cs, ha, hcl, hK, hcc, _⟩ := Kd.F_get h ([] : List S82) (i : Int) (by omega) (by omega)
    have er : l.getD (i : Int).toNat ([] : List S82) = l[i] := by simp [hi]
    rw [er] at hK
    rw [Int.toNat_natCast] at hcc
    obtain ⟨Am, cm, rfl, hle, hFm⟩ := Kd.FK_slice_open hK
    have h0 := hcc 0 _ rfl
    rw [show (Kd.slice 82 k82).sz = 1 from rfl, Nat.mul_one, Nat.add_zero] at h0
    exact ⟨⟨l[i], Am, cm, hle, hFm⟩, rfl, ad, ha, h0⟩
  refine ⟨List.ofFn (fun i : Fin l.length => Classical.choose (hx i.1 i.2)), ?_, ?_⟩
  · apply List.ext_getElem
    · simp
    · intro i h1 h2
      simp only [List.getElem_map, List.getElem_ofFn]
      exact (Classical.choose_spec (hx i h2)).1
  · intro i hi
    have hi' : i < l.length := by simpa using hi
    simp only [List.getElem_ofFn]
    exact (Classical.choose_spec (hx i hi')).2
/-- A row of maps in a block of the call's own. -/
theorem N_of_se {W : World} {base g cap : Nat} {ok okr : Nat → Prop} (ses : List (SE W okr)) (cur : Array Value) (hg : W.heap[g]? = some (.cells cur 41 (0, 0))) (hcur : cur.toList.take ses.length = ses.map SE.v) (hcs : cur.size = cap) (hb : base ≤ g) (hokg : ok g) (hcap : ses.length ≤ cap) (hmax : cap ≤ maxLen) (hok : ∀ k, okr k → ok k ∧ k ≠ g) :
    Kd.N (Kd.slice 82 k82) 41 W base ok (.slice (some ⟨g, 0, none⟩) ses.length cap) (ses.map (·.x)) := by
  refine ⟨fun k hk => ?_, ses.map (fun e => [e.v]), by simp, ⟨fun k hk => hk.symm, ses.map SE.v, ?_, ?_⟩, ?_⟩
  · simp [Value.ownBlock] at hk
    rw [← hk]
    exact hokg
  · refine ⟨by rw [List.length_map, List.length_map]; exact (Nat.mul_one _).symm, .inr ⟨g, cap, cur, by simp, hb, hg, by simpa using hcap, hmax, by rw [hcs]; simp [show (Kd.raw (Kd.slice 82 k82).sz).sz = 1 from rfl], ?_⟩⟩
    simp only [List.length_map]
    rw [show ses.length * (Kd.raw (Kd.slice 82 k82).sz).sz = ses.length from Nat.mul_one _]
    exact hcur
  · refine ⟨by rw [List.length_map, List.length_map]; exact (Nat.mul_one _).symm, fun j p hj => ?_⟩
    rw [List.getElem?_map] at hj
    cases he : ses[j]? with
    | none => rw [he] at hj; cases hj
    | some e =>
      rw [he] at hj
      obtain rfl := Option.some.inj hj
      obtain ⟨hjl, hje⟩ := List.getElem?_eq_some_iff.1 he
      have hd : (List.map SE.v ses).drop (j * 1) = e.v :: (List.map SE.v ses).drop (j + 1) := by
        rw [Nat.mul_one, List.drop_eq_getElem_cons (by simpa using hjl), List.getElem_map, hje]
      show ((List.map SE.v ses).drop (j * 1)).take 1 = [e.v] ∧ (((List.map SE.v ses).drop (j * 1)).take 1).length = 1 ∧ ∀ u ∈ ((List.map SE.v ses).drop (j * 1)).take 1, u.oneCell' = true
      rw [hd]
      simp [SE.v, Value.oneCell']
  · intro j x c hx hc
    rw [List.getElem?_map] at hx hc
    cases he : ses[j]? with
    | none => rw [he] at hx; cases hx
    | some e =>
      rw [he] at hx hc
      obtain rfl := Option.some.inj hx
      obtain rfl := Option.some.inj hc
      exact Kd.FK_mono (Kd.FK_slice_mk e.le e.rd) (fun k hk => ⟨(hok k hk).1, by simp [Value.ownBlock]; exact (hok k hk).2⟩)
/-- The same row, read in a later world that has all below. -/
def SE.later {w W : World} {ok : Nat → Prop} (hb : Below w.heap.size w W) (e : SE w ok) : SE W (fun k => ok k ∧ k < w.heap.size) := ⟨e.x, e.A, e.c, e.le, Kd.F_old e.rd hb⟩
def SE.wide {W : World} {ok ok' : Nat → Prop} (h : ∀ k, ok k → ok' k) (e : SE W ok) : SE W ok' := ⟨e.x, e.A, e.c, e.le, Kd.F_mono e.rd h⟩
def heap_with.f (l0_0 : List (List S82)) (a1 : Int) (l2 : List S82) : Option (List (List S82)) :=
  if l0_0.length ≤ 11728124029610 ∧ 0 ≤ a1 ∧ a1 < (l0_0.length : Int) then some (l0_0.set a1.toNat l2) else none
set_option maxHeartbeats 8000000 in
set_option maxRecDepth 100000 in
theorem heap_with.calls (P0_0_ : Nat → Prop) (A0_0 : Option Addr) (c0_0 : Nat) (l0_0 : List (List (S82))) (a1 : Int) (P2_ : Nat → Prop) (A2 : Option Addr) (c2 : Nat) (l2 : List (S82)) (r : List (List (S82))) (w : World) (hs0_0 : Kd.V (Kd.slice 82 k82) 41 w w.heap.size (fun k_ => P0_0_ k_) (.slice A0_0 l0_0.length c0_0) l0_0) (hs2 : Kd.V k82 82 w w.heap.size (fun k_ => P2_ k_) (.slice A2 l2.length c2) l2) (h : heap_with.f l0_0 a1 l2 = some r) :
    Calls Try.prog 38 #[.agg #[.slice A0_0 l0_0.length c0_0], .int .i64 a1, .slice A2 l2.length c2] w fun e w' => ∃ v0_ : Value, e = .returned (.agg #[v0_]) ∧ Kd.N (Kd.slice 82 k82) 41 w' w.heap.size (fun k_ => ((P0_0_ k_ ∨ P2_ k_) ∨ w.heap.size ≤ k_)) v0_ r ∧ Below w.heap.size w w' := by
  have hu27 := Try.underlying27
  unfold heap_with.f at h
  by_cases hg : l0_0.length ≤ 11728124029610 ∧ 0 ≤ a1 ∧ a1 < (l0_0.length : Int)
  case neg => rw [if_neg hg] at h; exact absurd h (by simp)
  rw [if_pos hg] at h
  obtain rfl := Option.some.inj h
  obtain ⟨hlen, hm0, hm1⟩ := hg
  obtain ⟨hn2, hle2, hF2⟩ := Kd.V_at hs2
  obtain ⟨ses, hses, hcells⟩ := se_of (Kd.V_F hs0_0)
  have hsl : ses.length = l0_0.length := by rw [← hses, List.length_map]
  obtain ⟨ad0, rfl, hx0⟩ := hcells 0 (by omega)
  have hsrc : ∀ j v, (ses.map SE.v)[j]? = some v → w.cell? (ad0.add j) = some v := by
    intro j v hj
    rw [List.getElem?_map] at hj
    cases he : ses[j]? with
    | none => rw [he] at hj; cases hj
    | some e =>
      rw [he] at hj
      obtain rfl := Option.some.inj hj
      obtain ⟨hjl, rfl⟩ := List.getElem?_eq_some_iff.1 he
      obtain ⟨ad, h1, h2⟩ := hcells j hjl
      cases h1
      exact h2
  obtain ⟨i0, hi, hz0, hz1, hz2⟩ := info_parts info41
  have hsz41 : (Try.prog.info? 41).map (·.size) = some 1 := by rw [hi]; simp [hz1]
  obtain ⟨M, hM⟩ : ∃ M, M = madeCells (Value.slice none 0 0).cells (((l0_0.length : Nat) : Int).toNat * i0.size) := ⟨_, rfl⟩
  have hMs : M.size = l0_0.length := by rw [hM, size_madeCells, hz1]; simp
  have hmk : ∀ W : World, (Instr.makeSlice 25 (.int .i64 (l0_0.length : Int)) (.int .i64 (l0_0.length : Int))).run Try.prog W = .ok (.slice (some ⟨W.heap.size, 0, none⟩) l0_0.length l0_0.length) (W.alloc (.cells M 41)) := fun W => by
    have h := run_make (P := Try.prog) W 25 41 i0 (.slice none 0 0) Try.underlying25 hi hz0 .i64 .i64 (l0_0.length : Int) (l0_0.length : Int) (by omega) (by omega) (by rw [hz2]; omega) (by omega)
    rw [← hM] at h
    simpa using h
  have HSES := Aside0.mk hses
  have HSRC := Aside0.mk hsrc
  have HSL := Aside0.mk hsl
  have HMS := Aside0.mk hMs
  have HS2 := Aside0.mk (And.intro hle2 hF2)
  have HLEN := Aside0.mk hlen
  have HI := Aside0.mk hsz41
  clear hx0 hM hs0_0 hs2 hcells hses hsrc hsl hMs hn2 hle2 hF2 hlen hi hz0 hz1 hz2 hsz41
  go_enter Try.func38, Try.ntmps38
  go_wp2
  obtain ⟨g, hgd⟩ : ∃ g, g = w.heap.size + 1 + 1 := ⟨_, rfl⟩
  obtain ⟨W4, hW4⟩ : ∃ W4, W4 = (((w.alloc (Obj.cells #[.slice (some ad0) l0_0.length c0_0] 27)).alloc (Obj.cells #[.slice none 0 0] 27)).alloc (Obj.cells M 41)).alloc (Obj.cells #[.slice (some ⟨w.heap.size + 1 + 1, 0, none⟩) l0_0.length l0_0.length] 27) := ⟨_, rfl⟩
  have hB4 : Below w.heap.size w W4 := by
    rw [hW4]
    exact (((((Below.refl _ w).alloc (Nat.le_refl _) _).alloc (by simp) _).alloc (by simp; omega) _).alloc (by simp; omega) _)
  have R1 : W4.heap[w.heap.size + 1]? = some (.cells #[.slice none 0 0] 27 (0, 0)) := by
    rw [hW4]
    exact blk_alloc (blk_alloc (by have h_ := World.alloc_heap_new (w.alloc (Obj.cells #[.slice (some ad0) l0_0.length c0_0] 27)) (Obj.cells #[.slice none 0 0] 27); rwa [World.size_alloc] at h_) _) _
  have R2 : W4.heap[g]? = some (.cells M 41 (0, 0)) := by
    rw [hW4, hgd]
    exact blk_alloc (by have h_ := World.alloc_heap_new ((w.alloc (Obj.cells #[.slice (some ad0) l0_0.length c0_0] 27)).alloc (Obj.cells #[.slice none 0 0] 27)) (Obj.cells M 41); rwa [World.size_alloc, World.size_alloc] at h_) _
  have R3 : W4.heap[g + 1]? = some (.cells #[.slice (some ⟨g, 0, none⟩) l0_0.length l0_0.length] 27 (0, 0)) := by
    rw [hW4, hgd]
    have h_ := World.alloc_heap_new (((w.alloc (Obj.cells #[.slice (some ad0) l0_0.length c0_0] 27)).alloc (Obj.cells #[.slice none 0 0] 27)).alloc (Obj.cells M 41)) (Obj.cells #[.slice (some ⟨w.heap.size + 1 + 1, 0, none⟩) l0_0.length l0_0.length] 27)
    rwa [World.size_alloc, World.size_alloc, World.size_alloc] at h_
  rw [← hW4]
  rw [← hgd]
  have hcs1 : (ses.map SE.v).length = l0_0.length := by rw [List.length_map]; exact HSL.out
  have hcp := run_copy_row (P := Try.prog) W4 25 25 3 41 g 0 l0_0.length l0_0.length ad0 l0_0.length c0_0 M 41 (ses.map SE.v) Try.underlying25 HI.out R2 (by rw [hcs1]; exact (Nat.min_self _).symm) (fun j v hj => El.cell hB4 (HSRC.out j v hj)) (by rw [hcs1, HMS.out]; omega) (by intro v hv; obtain ⟨e, _, rfl⟩ := List.mem_map.1 hv; simp [SE.v, Value.oneCell'])
  obtain ⟨Y, hY⟩ : ∃ Y, Y = (M.toList.take 0 ++ ses.map SE.v ++ M.toList.drop (0 + (ses.map SE.v).length)).toArray := ⟨_, rfl⟩
  rw [← hY] at hcp
  have hYl : Y.toList = ses.map SE.v := by
    rw [hY, List.toList_toArray, List.take_zero, List.nil_append, List.drop_of_length_le (by rw [Array.length_toList, hcs1, HMS.out]; omega), List.append_nil]
  have hYs : Y.size = l0_0.length := by rw [← Array.length_toList, hYl, hcs1]
  rw [hcp]
  obtain ⟨W5, hW5⟩ : ∃ W5, W5 = W4.setRow g Y := ⟨_, rfl⟩
  rw [← hW5]
  have S2 : W5.heap[g]? = some (.cells Y 41 (0, 0)) := by rw [hW5]; exact setRow_heap _ _ M _ 41 (0, 0) R2
  have S1 : W5.heap[w.heap.size + 1]? = some (.cells #[.slice none 0 0] 27 (0, 0)) := by rw [hW5]; exact (setRow_other _ _ _ _ (by omega)).trans R1
  have S3 : W5.heap[g + 1]? = some (.cells #[.slice (some ⟨g, 0, none⟩) l0_0.length l0_0.length] 27 (0, 0)) := by rw [hW5]; exact (setRow_other _ _ _ _ (by omega)).trans R3
  have hB5 : Below w.heap.size w W5 := by rw [hW5]; exact hB4.trans ⟨rfl, rfl, rfl, by simp [World.setRow], fun k hk => setRow_other _ _ _ _ (by omega)⟩
  have hc3 : W5.cell? ⟨g + 1, 0, none⟩ = some (.slice (some ⟨g, 0, none⟩) l0_0.length l0_0.length) := (blk_cell S3 0).trans rfl
  have hc1 : W5.cell? ⟨w.heap.size + 1, 0, none⟩ = some (.slice none 0 0) := (blk_cell S1 0).trans rfl
  have hf1 := blk_frozen S1 0
  obtain ⟨n, hn⟩ : ∃ n : Nat, a1 = (n : Int) := ⟨a1.toNat, by omega⟩
  subst hn
  have hnl : n < l0_0.length := by omega
  have hcm : ∃ u, W5.cell? ⟨g, n, none⟩ = some u := ⟨Y[n]'(by omega), (blk_cell S2 n).trans (by simp [show n < Y.size from by omega])⟩
  obtain ⟨u, hcm⟩ := hcm
  have hfm := blk_frozen S2 n
  have HB5 := Aside0.mk hB5
  have HS1 := Aside0.mk S1
  have HSS2 := Aside0.mk S2
  have HSS3 := Aside0.mk S3
  have HY := Aside0.mk (And.intro hYl hYs)
  have HGD := Aside0.mk hgd
  clear hW4 hW5 hcp R1 R2 R3 S1 S2 S3 hB4 hB5 hYl hYs hY hgd hcs1 hmk
  have hne1 : (w.heap.size + 1 = g) = False := eq_false (by have := HGD.out; omega)
  have hne2 : (g = w.heap.size + 1) = False := eq_false (by have := HGD.out; omega)
  have hne3 : (g + 1 = w.heap.size + 1) = False := eq_false (by have := HGD.out; omega)
  have hne4 : (w.heap.size + 1 = g + 1) = False := eq_false (by have := HGD.out; omega)
  have HNL := Aside0.mk hnl
  dsimp only [Result.andThen]
  go_wp2
  obtain ⟨W7, hW7⟩ : ∃ W7, W7 = (W5.setCell ⟨g, n, none⟩ (.slice A2 l2.length c2)).setCell ⟨w.heap.size + 1, 0, none⟩ (.slice (some ⟨g, 0, none⟩) l0_0.length l0_0.length) := ⟨_, rfl⟩
  rw [← hW7]
  have hgd := HGD.out
  have hB7 : Below w.heap.size w W7 := by
    rw [hW7]
    exact (HB5.out.setCell (p := ⟨g, n, none⟩) (by simp; omega) _).setCell (p := ⟨w.heap.size + 1, 0, none⟩) (by simp) _
  have T2 : W7.heap[g]? = some (.cells (Y.setIfInBounds n (.slice A2 l2.length c2)) 41 (0, 0)) := by
    rw [hW7]
    exact (Below.heap_setCell _ _ _ _ (by simp; omega)).trans (blk_put HSS2.out n _ rfl)
  have T1 : W7.heap[w.heap.size + 1]? = some (.cells #[.slice (some ⟨g, 0, none⟩) l0_0.length l0_0.length] 27 (0, 0)) := by
    rw [hW7]
    exact Boxed.set _ (show Boxed _ (w.heap.size + 1) 27 (.slice none 0 0) from (Below.heap_setCell _ _ _ _ (by simp; omega)).trans HS1.out)
  have hc9 := (blk_cell T1 0).trans (show (#[Value.slice (some ⟨g, 0, none⟩) l0_0.length l0_0.length])[0]? = some (.slice (some ⟨g, 0, none⟩) l0_0.length l0_0.length) from rfl)
  refine bodyPost_ret (v := .agg #[.slice (some ⟨g, 0, none⟩) l0_0.length l0_0.length]) ?_ rfl ⟨_, rfl, ?_, hB7⟩
  · simp [results, Try.f38, go_sem, hc9, hu27]
  · obtain ⟨okr, hokr⟩ : ∃ okr : Nat → Prop, okr = fun k => (P0_0_ k ∨ P2_ k) ∧ k < w.heap.size := ⟨_, rfl⟩
    obtain ⟨ses2, hs2⟩ : ∃ ses2 : List (SE W7 okr), ses2 = (ses.map (fun e => SE.wide (ok' := okr) (fun k hk => by rw [hokr]; exact ⟨.inl hk.1, hk.2⟩) (SE.later hB7 e))).set n ⟨l2, A2, c2, HS2.out.1, by rw [hokr]; exact Kd.F_mono (Kd.F_old HS2.out.2 hB7) (fun k hk => ⟨.inr hk.1, hk.2⟩)⟩ := ⟨_, rfl⟩
    have hl2 : ses2.length = l0_0.length := by rw [hs2, List.length_set, List.length_map]; exact HSL.out
    have hv2 : ses2.map SE.v = (ses.map SE.v).set n (.slice A2 l2.length c2) := by
      rw [hs2, List.map_set, List.map_map]
      rfl
    have hx2 : ses2.map (·.x) = l0_0.set n l2 := by
      rw [hs2, List.map_set, List.map_map, ← HSES.out]
      rfl
    have hN := N_of_se (W := W7) (base := w.heap.size) (g := g) (cap := l0_0.length) (ok := fun k_ => ((P0_0_ k_ ∨ P2_ k_) ∨ w.heap.size ≤ k_)) ses2 _ T2 (by rw [hl2, hv2, Array.toList_setIfInBounds, HY.out.1]; exact List.take_of_length_le (by rw [List.length_set, List.length_map]; exact Nat.le_of_eq HSL.out)) (by rw [Array.size_setIfInBounds]; exact HY.out.2) (by omega) (.inr (by omega)) (by omega) (by have := HLEN.out; exact Nat.le_trans this (by decide)) (fun k hk => by rw [hokr] at hk; exact ⟨.inl hk.1, by omega⟩)
    rw [hl2, hx2] at hN
    rw [Int.toNat_natCast]
    exact hN
end Go.Proofs.Ytnokieaebnmljaa.PAll
namespace Go.Proofs.Ytnokieaebnmljaa.PAll
open Go Go.Proofs Go.RowKit Go.Shelf Go.Proofs.YtnokieaebnmljaaW.PrintWords Go.Proofs.YtnokieaebnmljaaW.PrintLast Go.Proofs.YtnokieaebnmljaaW.PrintMore
set_option linter.unusedVariables false
set_option linter.unusedSimpArgs false
/-- append onto a cut without room ('x[:i:i]'), of what is only read: what comes lies in a block of its own. -/
theorem append_full_run {α : Type} (d : Kd α) {P : Program} {W : World} (base : Nat) (t ty e : TypeId) (z : Value) (bytes : Nat)
    (ht : P.underlying t = some (.slice e)) (hinfo : (P.info? e).map (fun i => (i.zero, i.size, i.bytes)) = some (some z, d.sz, bytes)) (hz : z.cells.size = d.sz) (hs0 : 0 < d.sz) (hb0 : 0 < bytes)
    (xs ys : List α) (Ax : Option Addr) (ad : Addr) (m c : Nat) (ok okx oky : Nat → Prop)
    (HX : Kd.F d W okx Ax xs.length xs) (HY : Kd.F d W oky (some ad) m ys) (hAx : Ax = none → xs.length = 0) (hm : 0 < m) (hokx : ∀ k, okx k → ok k) (hoky : ∀ k, oky k → ok k) (hfresh : ∀ k, W.heap.size ≤ k → ok k)
    (hbase : base ≤ W.heap.size) (hl : (xs.length + m) * bytes ≤ 140737488355328) :
    ∃ v1 w1, (Builtin.append_ #[t, t] ty #[.slice Ax xs.length xs.length, .slice (some ad) m c]).run P W = .ok v1 w1 ∧ Kd.N d e w1 base ok v1 (xs ++ ys) ∧ W.grownBy w1 none ∧ ∃ b, v1.ownBlock = some b ∧ W.heap.size ≤ b := by
  obtain ⟨i0, hi, hzz⟩ := Option.map_eq_some_iff.1 hinfo
  simp only [Prod.mk.injEq] at hzz
  obtain ⟨hz0, hz1, hz2⟩ := hzz
  have hlen : xs.length + m ≤ 140737488355328 := Nat.le_trans (Nat.le_mul_of_pos_right _ hb0) hl
  obtain ⟨rx, hxl, hxr, hxf⟩ := Kd.reads_raw (Kd.F_rows HX) (fun y c hk => ⟨d.K_len (Kd.FK_now hk), d.K_one (Kd.FK_now hk)⟩)
  obtain ⟨ry, hyl, hyr, hyf⟩ := Kd.reads_raw (Kd.F_rows HY) (fun y c hk => ⟨d.K_len (Kd.FK_now hk), d.K_one (Kd.FK_now hk)⟩)
  obtain ⟨news, hnr, hnc⟩ := ReadsRow.inner_ hyr
  have hone : ∀ u ∈ news, u.oneCell' = true := by
    intro u hu
    obtain ⟨q, hq, rfl⟩ := List.mem_iff_getElem.1 hu
    have hql : q / d.sz < ry.length := by
      rw [Nat.div_lt_iff_lt_mul hs0]
      rw [← hnr.1]
      exact hq
    have hc := hnr.2 (q / d.sz) _ (List.getElem?_eq_getElem hql)
    refine hc.2.2 _ ?_
    rw [List.mem_iff_getElem?]
    refine ⟨q % d.sz, ?_⟩
    rw [List.getElem?_take, if_pos (Nat.mod_lt _ hs0), List.getElem?_drop, Nat.mul_comm, Nat.div_add_mod, List.getElem?_eq_getElem hq]
  have hym : ry.length = m := hyr.1
  have hrun : ∃ v1 w1 olds, (Builtin.append_ #[t, t] ty #[.slice Ax xs.length xs.length, .slice (some ad) m c]).run P W = .ok v1 w1 ∧ Reps (fun x cs => cs = x ∧ cs.length = d.sz ∧ ∀ u ∈ cs, u.oneCell' = true) d.sz rx olds ∧ w1.ownsRow W.heap.size e d.sz v1 (xs.length + m) (olds ++ news) ∧ W.grownBy w1 none := by
    cases Ax with
    | some b =>
      obtain ⟨olds, hor, hoc⟩ := ReadsRow.inner_ hxr
      obtain ⟨v', w', h1, h2, h3⟩ := run_append_arg_grows (P := P) W t ty e i0 z d.sz bytes ht hi hz0 hz1 hz2 hz hs0 b xs.length xs.length olds (by rw [hor.1, hxl]) hoc ad m c news (by rw [hnr.1, hym]) hnc (by omega) (by simp only [maxLen]; omega) hl
      exact ⟨v', w', olds, h1, hor, h2, h3⟩
    | none =>
      have h0 := hAx rfl
      obtain rfl : xs = [] := List.eq_nil_of_length_eq_zero h0
      obtain rfl : rx = [] := List.eq_nil_of_length_eq_zero hxl
      obtain ⟨v', w', h1, h2, h3, _⟩ := run_append_own (P := P) W W.heap.size t ty e i0 z d.sz bytes ht hi hz0 hz1 hz2 hz hs0 (.slice none 0 0) 0 [] (World.ownsRow_nil W _ e d.sz) ad m c news (by rw [hnr.1, hym]) hnc hone (by simp only [maxLen]; simp at hlen; omega) (by simpa using hl) (Nat.le_refl _)
      exact ⟨v', w', [], by simpa using h1, ⟨by simp, fun j p hj => by simp at hj⟩, by simpa using h2, h3⟩
  obtain ⟨v1, w1, olds, hrun, hor, hown, hg⟩ := hrun
  have hb : ∃ b, v1.ownBlock = some b ∧ W.heap.size ≤ b := by
    rcases hown.2 with ⟨_, h0⟩ | ⟨g, cap, cur, rfl, hge, _⟩
    · omega
    · exact ⟨g, rfl, hge⟩
  refine ⟨v1, w1, hrun, ?_, hg, hb⟩
  obtain ⟨b, hb1, hb2⟩ := hb
  have hlow : w1.ownsRow base e d.sz v1 (xs.length + m) (olds ++ news) := by
    refine ⟨hown.1, ?_⟩
    rcases hown.2 with h0 | ⟨g, cap, cur, h1, hge, h2⟩
    · exact .inl h0
    · exact .inr ⟨g, cap, cur, h1, Nat.le_trans hbase hge, h2⟩
  refine ⟨fun k hk => hfresh k (by rw [hb1] at hk; injection hk with hk; omega), rx ++ ry, by rw [List.length_append, List.length_append, hxl, hyl], ⟨fun k hk => hk.symm, olds ++ news, ?_, Kd.reps_append hor hnr⟩, ?_⟩
  · rw [List.length_append, hxl, hym]
    exact hlow
  · have hmove : ∀ {x : α} {cs : List Value} {o : Nat → Prop}, Kd.FK d W o x cs → (∀ k, o k → ok k) → Kd.FK d w1 (fun k => ok k ∧ some k ≠ v1.ownBlock) x cs := by
      intro x cs o hf ho
      refine Kd.FK_mono (Kd.FK_step (Kd.FK_bound hf) (fun k hk hlt => hg.block k hlt (by simp))) (fun k hk => ⟨ho k hk.1, ?_⟩)
      rw [hb1]
      intro he
      injection he with he
      have := hk.2
      omega
    intro j x cs hx hc
    rcases Nat.lt_or_ge j xs.length with hlt | hge
    · rw [List.getElem?_append_left hlt] at hx
      rw [List.getElem?_append_left (by omega)] at hc
      exact hmove (hxf j x cs hx hc) hokx
    · rw [List.getElem?_append_right hge] at hx
      rw [List.getElem?_append_right (by omega), hxl] at hc
      exact hmove (hyf _ x cs hx hc) hoky
section
variable {P : Program} {ops : Array Oper} {rest : List Oper} {o : Oper} {a : Act} {Q : Exit → Act → World → Prop} {Kc : Act → World → Prop}
theorem N_append_full_step {α : Type} (d : Kd α) {w0 W : World} (base : Nat) (hw : Region.wanted o (yielded ops a.tmps) = true) (s x : Operand) (t e : TypeId) (z : Value) (bytes : Nat)
    (ho : o.op = .call { callee := .builtin .append, args := #[s, x], argTypes := #[t, t] })
    (ht : P.underlying t = some (.slice e)) (hinfo : (P.info? e).map (fun i => (i.zero, i.size, i.bytes)) = some (some z, d.sz, bytes)) (hz : z.cells.size = d.sz) (hs0 : 0 < d.sz) (hb0 : 0 < bytes)
    (xs ys : List α) (Ax : Option Addr) (ad : Addr) (n m c : Nat) (ok okx oky : Nat → Prop) (hs : a.eval s = .slice Ax n n) (hx : a.eval x = .slice (some ad) m c) (hn : n = xs.length)
    (HX : Kd.F d W okx Ax xs.length xs) (HY : Kd.F d W oky (some ad) m ys) (hAx : Ax = none → xs.length = 0) (hm : 0 < m) (hokx : ∀ k, okx k → ok k) (hoky : ∀ k, oky k → ok k) (hfresh : ∀ k, W.heap.size ≤ k → ok k)
    (HB : Below base w0 W) (hbase : base ≤ W.heap.size) (hl : (xs.length + m) * bytes ≤ 140737488355328)
    (h : ∀ v1 w1, Kd.N d e w1 base ok v1 (xs ++ ys) → Below base w0 w1 → W.grownBy w1 none → (∃ b, v1.ownBlock = some b ∧ W.heap.size ≤ b) → Kc (a.put o.dst v1) w1) :
    if Region.wanted o (yielded ops a.tmps) = true then Oper.wp P o a W Kc Q else Kc (a.put o.dst undef) W := by
  subst hn
  obtain ⟨v1, w1, hr1, h1, hg, hb⟩ := append_full_run (P := P) d base t o.type e z bytes ht hinfo hz hs0 hb0 xs ys Ax ad m c ok okx oky HX HY hAx hm hokx hoky hfresh hbase hl
  rw [if_pos hw]
  unfold Oper.wp execOp
  simp only [ho, resolve, invoke, builtin, Sem.run_bind, Sem.run_pure, Result.andThen_ok, List.map_toArray, List.map_cons, List.map_nil, hs, hx, hr1]
  exact h v1 w1 h1 (HB.grown hg hbase (by simp)) hg hb
end
end Go.Proofs.Ytnokieaebnmljaa.PAll
namespace Go.Proofs.Ytnokieaebnmljaa.PAll
open Go Go.Proofs Go.RowKit Go.Shelf Go.Proofs.YtnokieaebnmljaaW.PrintWords Go.Proofs.YtnokieaebnmljaaW.PrintLast Go.Proofs.YtnokieaebnmljaaW.PrintMore
attribute [local go_sem] Oper.semAt_some
set_option linter.unusedVariables false
set_option linter.unusedSimpArgs false
theorem cut_full {P : Program} (t e : TypeId) (kh km : IntKind) {i : TypeInfo} (ht : P.underlying t = some (.slice e)) (hi : P.info? e = some i) (A : Option Addr) (n c : Nat) (j : Int) (h0 : 0 ≤ j) (hm : j ≤ n) (hc : n ≤ c) :
    ∀ W : World, (Instr.slice t (.slice A n c) none (some (.int kh j)) (some (.int km j))).run P W = .ok (.slice A j.toNat j.toNat) W := by
  intro W
  have hel : P.elem t = e := by simp [Program.elem, ht]
  have hu : P.underlying t = some (.slice (P.elem t)) := by rw [hel]; exact ht
  have ha : (A.map fun x => x.add 0) = A := by cases A <;> simp [Addr.add]
  rw [run_slice_hm W t A n c hu kh km j j h0 (Int.le_refl _) (by omega), hel]
  simp [sizeOf, typeInfo, hi, sliced, Result.andThen, ha]
theorem placeOf_range {c : S82 → Int} : ∀ (l : List S82) (s : Int), ∃ ix : Nat, (placeOf c l s).1 = s + ix ∧ ix ≤ l.length ∧ ((placeOf c l s).2 = true → ix < l.length)
  | [], s => ⟨0, by simp [placeOf]⟩
  | e :: es, s => by
    simp only [placeOf]
    split
    · exact ⟨0, by simp⟩
    split
    · exact ⟨0, by simp⟩
    obtain ⟨ix, h1, h2, h3⟩ := placeOf_range (c := c) es (s + 1)
    exact ⟨ix + 1, by rw [h1]; simp; omega, by simp; omega, fun h => by have := h3 h; simp; omega⟩
/-- A row in which an entry stands at a place, in place of as many as told. -/
def putRow (l : List S82) (ix J : Nat) (e : S82) : List S82 := l.take ix ++ [e] ++ l.drop J
noncomputable def heap_Put.f (k : Nat) (l0_0 : List (List S82)) (a1 : Int) (a2_0 : Int) (a2_1 : Int) (a2_2 : ByteArray) (a2_3 : Int) (l2_4 : List S35) (a3_0 : Int) (a3_1 : Int) (a3_2 : ByteArray) (a3_3 : Int) (l3_4 : List S35) : Option (List (List S82) × Int) :=
  if 0 ≤ a1 ∧ a1 < (l0_0.length : Int) then
    (if l0_0.length ≤ 11728124029610 ∧ (mapOf l0_0 a1).length ≤ 549755813886 then
      (heap_place.f k l0_0 a1 a2_0 a2_1 a2_2 a2_3 l2_4).bind fun p =>
        if p.2 = true then some (l0_0.set a1.toNat (putRow (mapOf l0_0 a1) p.1.toNat (p.1.toNat + 1) (⟨⟨a2_0, a2_1, a2_2, a2_3, l2_4⟩, ⟨a3_0, a3_1, a3_2, a3_3, l3_4⟩⟩ : S82)), 0)
        else if 24 ≤ (mapOf l0_0 a1).length then some ([], 41)
        else some (l0_0.set a1.toNat (putRow (mapOf l0_0 a1) p.1.toNat p.1.toNat (⟨⟨a2_0, a2_1, a2_2, a2_3, l2_4⟩, ⟨a3_0, a3_1, a3_2, a3_3, l3_4⟩⟩ : S82)), 0)
    else none)
  else some ([], 42)
def heap_Put.T10 : Bool × List (List Nat × List Nat) := (true, [([], []), ([], []), ([], []), ([], []), ([], []), ([2, 3, 4], [2, 3, 4]), ([], []), ([], []), ([6, 7], [6, 7]), ([8], [8]), ([5, 9], [5, 9]), ([], []), ([10, 11, 10], [10, 11]), ([0, 1, 12, 12], [0, 1, 12]), ([13, 13, 0, 1, 2, 3, 4, 5, 6, 7, 8, 9, 10, 11, 12, 13], [13]), ([14, 0, 1, 2, 3, 4, 5, 6, 7, 8, 9, 10, 11, 12, 13, 14], [])])
def heap_Put.B10 : List Nat := [0, 0, 0, 0, 0, 28, 0, 0, 192, 448, 1020, 0, 4092, 8191, 16383, 32767]
theorem heap_Put.tab10 : rtab .any (opsOf Try.f10 10) = heap_Put.T10 := by kernel_rfl
theorem heap_Put.bits10 : waitsOk heap_Put.T10.2 heap_Put.B10 = true := by kernel_rfl
set_option maxHeartbeats 16000000 in
set_option maxRecDepth 100000 in
theorem heap_Put.calls (k : Nat) (P0_0_ : Nat → Prop) (A0_0 : Option Addr) (c0_0 : Nat) (l0_0 : List (List (S82))) (a1 : Int) (a2_0 : Int) (a2_1 : Int) (a2_2 : ByteArray) (a2_3 : Int) (P2_4_ : Nat → Prop) (A2_4 : Option Addr) (c2_4 : Nat) (l2_4 : List (S35)) (a3_0 : Int) (a3_1 : Int) (a3_2 : ByteArray) (a3_3 : Int) (P3_4_ : Nat → Prop) (A3_4 : Option Addr) (c3_4 : Nat) (l3_4 : List (S35)) (r1 : List (List (S82))) (r2 : Int) (w : World) (hs0_0 : Kd.V (Kd.slice 82 k82) 41 w w.heap.size (fun k_ => P0_0_ k_) (.slice A0_0 l0_0.length c0_0) l0_0) (hs2_4 : Kd.V k35 35 w w.heap.size (fun k_ => P2_4_ k_) (.slice A2_4 l2_4.length c2_4) l2_4) (hs3_4 : Kd.V k35 35 w w.heap.size (fun k_ => P3_4_ k_) (.slice A3_4 l3_4.length c3_4) l3_4) (h : heap_Put.f k l0_0 a1 a2_0 a2_1 a2_2 a2_3 l2_4 a3_0 a3_1 a3_2 a3_3 l3_4 = some (r1, r2)) :
    Calls Try.prog 10 #[.agg #[.slice A0_0 l0_0.length c0_0], .int .i64 a1, .agg #[.int .i64 a2_0, .int .i64 a2_1, .string a2_2, .int .i64 a2_3, .slice A2_4 l2_4.length c2_4], .agg #[.int .i64 a3_0, .int .i64 a3_1, .string a3_2, .int .i64 a3_3, .slice A3_4 l3_4.length c3_4]] w fun e w' => ∃ v0_ : Value, e = .returned (.tuple #[.agg #[v0_], .int .i64 r2]) ∧ Kd.N (Kd.slice 82 k82) 41 w' w.heap.size (fun k_ => ((P0_0_ k_ ∨ P2_4_ k_ ∨ P3_4_ k_) ∨ w.heap.size ≤ k_)) v0_ r1 ∧ Below w.heap.size w w' := by
  have hu27 := Try.underlying27
  have hu35 := Try.underlying35
  have hu82 := Try.underlying82
  unfold heap_Put.f at h
  by_cases hm : 0 ≤ a1 ∧ a1 < (l0_0.length : Int)
  case neg =>
    rw [if_neg hm] at h
    simp only [Option.some.injEq, Prod.mk.injEq] at h
    obtain ⟨rfl, rfl⟩ := h
    clear hs0_0 hs2_4 hs3_4
    by_cases hlt : a1 < 0
    · have hd1 : decide (a1 < 0) = true := decide_eq_true hlt
      go_enter Try.func10, Try.ntmps10
      go_wp2
      refine bodyPost_ret (v := .tuple #[.agg #[.slice none 0 0], .int .i64 42]) ?_ rfl ⟨_, rfl, Kd.N_nil _ _ _ _ _, ((((Below.refl _ w).alloc (Nat.le_refl _) _).alloc (by simp) _).alloc (by simp; omega) _).alloc (by simp; omega) _⟩
      simp [results, Try.f10, go_sem, hu27]
    have hd1 : decide (a1 < 0) = false := decide_eq_false hlt
    have hd2 : decide ((l0_0.length : Int) ≤ a1) = true := decide_eq_true (by omega)
    go_enter Try.func10, Try.ntmps10
    go_wp2
    refine bodyPost_ret (v := .tuple #[.agg #[.slice none 0 0], .int .i64 42]) ?_ rfl ⟨_, rfl, Kd.N_nil _ _ _ _ _, ((((Below.refl _ w).alloc (Nat.le_refl _) _).alloc (by simp) _).alloc (by simp; omega) _).alloc (by simp; omega) _⟩
    simp [results, Try.f10, go_sem, hu27]
  rw [if_pos hm] at h
  by_cases hbd : l0_0.length ≤ 11728124029610 ∧ (mapOf l0_0 a1).length ≤ 549755813886
  case neg => rw [if_neg hbd] at h; exact absurd h (by simp)
  rw [if_pos hbd] at h
  obtain ⟨p, hp, h⟩ := Option.bind_eq_some_iff.mp h
  have HF0 := Aside0.mk (Kd.V_F hs0_0)
  have HF2 := Aside0.mk (Kd.V_F hs2_4)
  have HF3 := Aside0.mk (Kd.V_F hs3_4)
  have HC0 := Aside0.mk (Kd.V_at hs0_0).2.1
  have HC2 := Aside0.mk (Kd.V_at hs2_4).2.1
  have HC3 := Aside0.mk (Kd.V_at hs3_4).2.1
  obtain ⟨ad, cs, rfl, hcl, hK, hcc, _⟩ := Kd.F_get HF0.out ([] : List S82) a1 hm.1 hm.2
  obtain ⟨Am, cm, rfl, hle, hFm⟩ := Kd.FK_slice_open hK
  have hcm := hcc 0 _ rfl
  rw [show (Kd.slice 82 k82).sz = 1 from rfl, Nat.mul_one, Nat.add_zero] at hcm
  obtain ⟨l, hl⟩ : ∃ l, l = l0_0.getD a1.toNat ([] : List S82) := ⟨_, rfl⟩
  have hmap : mapOf l0_0 a1 = l := by rw [hl]; simp [mapOf, hm, rd_L4]
  rw [← hl] at hcm hle hFm
  rw [hmap] at h hbd
  obtain ⟨ix, hix1, hix2, hix3⟩ : ∃ ix : Nat, p.1 = (ix : Int) ∧ ix ≤ l.length ∧ (p.2 = true → ix < l.length) := by
    have hpf := hp
    unfold heap_place.f at hpf
    split at hpf
    · obtain ⟨ix, h1, h2, h3⟩ := placeOf_range (c := cval k a2_0 a2_1 a2_2 a2_3 l2_4) (mapOf l0_0 a1) 0
      rw [Option.some.inj hpf] at h1 h3
      rw [hmap] at h2 h3
      exact ⟨ix, by rw [h1]; simp, h2, h3⟩
    exact absurd hpf (by simp)
  obtain ⟨p1, p2⟩ := p
  simp only at hix1 hix3 h
  subst hix1
  obtain ⟨i041, hi041, _, hsz41, _⟩ := info_parts info41
  obtain ⟨i082, hi082, _, hsz82, _⟩ := info_parts info82
  have hcut1 := cut_from (P := Try.prog) 41 82 .i64 Try.underlying41 hi082 10 hsz82 Am l.length cm (ix : Int) (by omega) (by omega)
  have hcut3 := cut_full (P := Try.prog) 41 82 .i64 .i64 Try.underlying41 hi082 Am l.length cm (ix : Int) (by omega) (by omega) hle
  simp only [Int.toNat_natCast] at hcut1 hcut3
  obtain ⟨B1, hB1⟩ : ∃ B1, B1 = (if cm = ix then Am else Am.map (·.add (ix * 10))) := ⟨_, rfl⟩
  rw [← hB1] at hcut1
  have HB1 := Aside0.mk hB1
  clear hB1
  have HP := Aside0.mk hp
  have HFm := Aside0.mk hFm
  have HLE := Aside0.mk hle
  have HI1 := Aside0.mk hix2
  have HMX := Aside0.mk hbd.2
  have HL0 := Aside0.mk hbd.1
  have HM := Aside0.mk hm
  have HCM := Aside0.mk hcm
  have hd1 : decide (a1 < 0) = false := decide_eq_false (by omega)
  have hd2 : decide ((l0_0.length : Int) ≤ a1) = false := decide_eq_false (by omega)
  have hd3 : decide (0 ≤ a1) = true := decide_eq_true hm.1
  have hd4 : decide (a1 < (l0_0.length : Int)) = true := decide_eq_true hm.2
  obtain ⟨hm0, hm1⟩ := hm
  have HIX3 := Aside0.mk hix3
  have HH := Aside0.mk h
  clear hs0_0 hs2_4 hs3_4 hcl hK hcc hcm hle hFm hp h hbd hl hix2 hix3 hi041 hsz41 hi082 hsz82
  go_enter Try.func10, Try.ntmps10
  go_wp2_with (fail)
  obtain ⟨wA, hwA⟩ : ∃ wA, wA = (((w.alloc (Obj.cells #[.slice (some ad) l0_0.length c0_0] 27)).alloc (Obj.cells #[.int .i64 a2_0, .int .i64 a2_1, .string a2_2, .int .i64 a2_3, .slice A2_4 l2_4.length c2_4] 35)).alloc (Obj.cells #[.int .i64 a3_0, .int .i64 a3_1, .string a3_2, .int .i64 a3_3, .slice A3_4 l3_4.length c3_4] 35)).alloc (Obj.cells #[.slice none 0 0] 27) := ⟨_, rfl⟩
  have hBA : Below w.heap.size w wA := by
    rw [hwA]
    exact (((((Below.refl _ w).alloc (Nat.le_refl _) _).alloc (by simp) _).alloc (by simp; omega) _).alloc (by simp; omega) _)
  have R4 : wA.heap[w.heap.size]? = some (.cells #[.slice (some ad) l0_0.length c0_0] 27 (0, 0)) := by
    rw [hwA]
    exact blk_alloc (blk_alloc (blk_alloc (World.alloc_heap_new w _) _) _) _
  have R6 : wA.heap[w.heap.size + 1]? = some (.cells #[.int .i64 a2_0, .int .i64 a2_1, .string a2_2, .int .i64 a2_3, .slice A2_4 l2_4.length c2_4] 35 (0, 0)) := by
    rw [hwA]
    exact blk_alloc (blk_alloc (by have h_ := World.alloc_heap_new (w.alloc (Obj.cells #[.slice (some ad) l0_0.length c0_0] 27)) (Obj.cells #[.int .i64 a2_0, .int .i64 a2_1, .string a2_2, .int .i64 a2_3, .slice A2_4 l2_4.length c2_4] 35); rwa [World.size_alloc] at h_) _) _
  have R7 : wA.heap[w.heap.size + 1 + 1]? = some (.cells #[.int .i64 a3_0, .int .i64 a3_1, .string a3_2, .int .i64 a3_3, .slice A3_4 l3_4.length c3_4] 35 (0, 0)) := by
    rw [hwA]
    exact blk_alloc (by have h_ := World.alloc_heap_new ((w.alloc (Obj.cells #[.slice (some ad) l0_0.length c0_0] 27)).alloc (Obj.cells #[.int .i64 a2_0, .int .i64 a2_1, .string a2_2, .int .i64 a2_3, .slice A2_4 l2_4.length c2_4] 35)) (Obj.cells #[.int .i64 a3_0, .int .i64 a3_1, .string a3_2, .int .i64 a3_3, .slice A3_4 l3_4.length c3_4] 35); rwa [World.size_alloc, World.size_alloc] at h_) _
  have R8 : wA.heap[w.heap.size + 1 + 1 + 1]? = some (.cells #[.slice none 0 0] 27 (0, 0)) := by
    rw [hwA]
    have h_ := World.alloc_heap_new (((w.alloc (Obj.cells #[.slice (some ad) l0_0.length c0_0] 27)).alloc (Obj.cells #[.int .i64 a2_0, .int .i64 a2_1, .string a2_2, .int .i64 a2_3, .slice A2_4 l2_4.length c2_4] 35)).alloc (Obj.cells #[.int .i64 a3_0, .int .i64 a3_1, .string a3_2, .int .i64 a3_3, .slice A3_4 l3_4.length c3_4] 35)) (Obj.cells #[.slice none 0 0] 27)
    rwa [World.size_alloc, World.size_alloc, World.size_alloc] at h_
  rw [← hwA]
  clear hwA
  refine (heap_place.calls k (some ad) c0_0 l0_0 a1 a2_0 a2_1 a2_2 a2_3 A2_4 c2_4 l2_4 (ix : Int) p2 wA (Kd.F_now (Kd.F_below HF0.out hBA)) HC0.out (Kd.F_now (Kd.F_below HF2.out hBA)) HC2.out HP.out).mono ?_
  rintro e_ w1 ⟨rfl, hb1⟩
  have D4 := Aside0.mk (blk_below R4 hb1)
  have D6 := Aside0.mk (blk_below R6 hb1)
  have D7 := Aside0.mk (blk_below R7 hb1)
  have D8 := Aside0.mk (blk_below R8 hb1)
  have HBD := Aside0.mk (hBA.trans (hb1.mono hBA.size))
  clear R4 R6 R7 R8 hb1 hBA
  have hcs0 : w1.cell? ⟨w.heap.size, 0, none⟩ = some (.slice (some ad) l0_0.length c0_0) := (blk_cell D4.out 0).trans rfl
  have hcm1 : w1.cell? (ad.add a1.toNat) = some (.slice Am l.length cm) := El.cell HBD.out HCM.out
  dsimp only
  cases p2 with
  | true =>
    have hJ : ix + 1 ≤ l.length := HIX3.out rfl
    have HJ := Aside0.mk hJ
    have hw : wrap64 ((ix : Int) + 1) = (ix : Int) + 1 := wrap_in _ (by have := HMX.out; omega)
    obtain ⟨i082, hi082, _, hsz82, _⟩ := info_parts info82
    have hcut2 := cut_from (P := Try.prog) 41 82 .i64 Try.underlying41 hi082 10 hsz82 Am l.length cm ((ix : Int) + 1) (by omega) (by omega)
    simp only [show ((ix : Int) + 1).toNat = ix + 1 from by omega] at hcut2
    have hf := HH.out
    simp only [if_true, Option.some.injEq, Prod.mk.injEq] at hf
    obtain ⟨rfl, rfl⟩ := hf
    have HWITH : Aside0 (heap_with.f l0_0 a1 (l.take ix ++ [(⟨⟨a2_0, a2_1, a2_2, a2_3, l2_4⟩, ⟨a3_0, a3_1, a3_2, a3_3, l3_4⟩⟩ : S82)] ++ l.drop (ix + 1)) = some (l0_0.set a1.toNat (putRow l (ix : Int).toNat ((ix : Int).toNat + 1) (⟨⟨a2_0, a2_1, a2_2, a2_3, l2_4⟩, ⟨a3_0, a3_1, a3_2, a3_3, l3_4⟩⟩ : S82)))) := ⟨by unfold heap_with.f; rw [if_pos ⟨HL0.out, HM.out⟩]; simp [putRow]⟩
    clear hi082 hsz82 hJ HH
    obtain ⟨J, hJd⟩ : ∃ J, J = ix + 1 := ⟨_, rfl⟩
    rw [← hJd] at HJ hcut2 HWITH
    obtain ⟨B2, hB2⟩ : ∃ B2, B2 = (if cm = J then Am else Am.map (·.add (J * 10))) := ⟨_, rfl⟩
    rw [← hB2] at hcut2
    have HBJ := Aside0.mk hB2
    clear hJd hB2
    go_wp2
    refine start_ (n := 16) (S := fun w' => w'.cell? ⟨w.heap.size, 0, none⟩ = some (.slice (some ad) l0_0.length c0_0) ∧ w'.cell? ⟨w.heap.size + 1, 0, none⟩ = some (.int .i64 a2_0) ∧ w'.cell? ⟨w.heap.size + 1, 1, none⟩ = some (.int .i64 a2_1) ∧ w'.cell? ⟨w.heap.size + 1, 2, none⟩ = some (.string a2_2) ∧ w'.cell? ⟨w.heap.size + 1, 3, none⟩ = some (.int .i64 a2_3) ∧ w'.cell? ⟨w.heap.size + 1, 4, none⟩ = some (.slice A2_4 l2_4.length c2_4) ∧ w'.cell? ⟨w.heap.size + 1 + 1, 0, none⟩ = some (.int .i64 a3_0) ∧ w'.cell? ⟨w.heap.size + 1 + 1, 1, none⟩ = some (.int .i64 a3_1) ∧ w'.cell? ⟨w.heap.size + 1 + 1, 2, none⟩ = some (.string a3_2) ∧ w'.cell? ⟨w.heap.size + 1 + 1, 3, none⟩ = some (.int .i64 a3_3) ∧ w'.cell? ⟨w.heap.size + 1 + 1, 4, none⟩ = some (.slice A3_4 l3_4.length c3_4)) (ds := []) #[fF,fF,fF,fF,fF,fF,fF,fF,fF,fF,fF,fF,fF,fF,fF,fF] (by kernel_rfl) rfl rfl ?_ (fun hHeld => ?_)
    · exact ⟨(blk_cell (blk_drew D4.out) 0).trans rfl, (blk_cell (blk_drew D6.out) 0).trans rfl, (blk_cell (blk_drew D6.out) 1).trans rfl, (blk_cell (blk_drew D6.out) 2).trans rfl, (blk_cell (blk_drew D6.out) 3).trans rfl, (blk_cell (blk_drew D6.out) 4).trans rfl, (blk_cell (blk_drew D7.out) 0).trans rfl, (blk_cell (blk_drew D7.out) 1).trans rfl, (blk_cell (blk_drew D7.out) 2).trans rfl, (blk_cell (blk_drew D7.out) 3).trans rfl, (blk_cell (blk_drew D7.out) 4).trans rfl⟩
    refine with_tabW heap_Put.tab10 heap_Put.bits10 (fun HT_ HW_ => ?_)
    have C4 := Aside0.mk (blk_drew D4.out)
    have C6 := Aside0.mk (blk_drew D6.out)
    have C7 := Aside0.mk (blk_drew D7.out)
    have C8 := Aside0.mk (blk_drew D8.out)
    have HBC := Aside0.mk (below_drew1 HBD.out)
    clear D4 D6 D7 D8 HBD
    generalize w1.drew = w12 at C4 C6 C7 C8 HBC hHeld ⊢
    have B4 := C4
    have B6 := C6
    have B7 := C7
    have B8 := C8
    have HBW := HBC
    refine pU 1 (some 51) HT_ rfl ?_
    refine pU 2 (some 52) HT_ rfl ?_
    refine pU 3 (some 53) HT_ rfl ?_
    refine pU 4 (some 54) HT_ rfl ?_
    refine pU 11 (some 61) HT_ rfl ?_
    refine pU 5 (some 55) HT_ rfl ?_
    refine tA 0 (some 50) HT_ HW_ hHeld rfl ?_
    refine tA 6 (some 56) HT_ HW_ hHeld rfl ?_
    refine tA 7 (some 57) HT_ HW_ hHeld rfl ?_
    refine pU 8 (some 58) HT_ rfl ?_
    refine oN 9 (some 59) HT_ rfl (fun K hK => ?_)
    refine Kd.N_lit_step k82 (w0 := w12) w12.heap.size 82 ?hg (N' := 59) ?hd (xs := [(⟨⟨a2_0, a2_1, a2_2, a2_3, l2_4⟩, ⟨a3_0, a3_1, a3_2, a3_3, l3_4⟩⟩ : S82)]) (inner := [.int .i64 a2_0, .int .i64 a2_1, .string a2_2, .int .i64 a2_3, .slice A2_4 l2_4.length c2_4, .int .i64 a3_0, .int .i64 a3_1, .string a3_2, .int .i64 a3_3, .slice A3_4 l3_4.length c3_4]) (ok := (fun k_ => ((P0_0_ k_ ∨ P2_4_ k_ ∨ P3_4_ k_) ∧ k_ < w.heap.size) ∨ w12.heap.size ≤ k_)) (okp := fun k => (P2_4_ k ∨ P3_4_ k) ∧ k < w.heap.size) ?hr ?hp (fun k hk => .inl ⟨.inr hk.1, hk.2⟩) (.inr (Nat.le_refl _)) (Below.refl _ _) (Nat.le_refl _) (by simp) ?_; (case hd => rfl); (case hg => rfl); (case hr => first | (go_simp; done) | (go_simp; rfl))
    case hp => exact Reps.c10 (k82_mkF _ _ (⟨⟨a2_0, a2_1, a2_2, a2_3, l2_4⟩, ⟨a3_0, a3_1, a3_2, a3_3, l3_4⟩⟩ : S82) HC2.out (Kd.F_mono (Kd.F_old HF2.out HBW.out) (fun k hk => ⟨.inl hk.1, hk.2⟩)) HC3.out (Kd.F_mono (Kd.F_old HF3.out HBW.out) (fun k hk => ⟨.inr hk.1, hk.2⟩))) (Reps.none _ _)
    intro v59 w13 ho59 hb13 hg13 hat13
    obtain ⟨g59, cap59, rfl, hb59, hl59, _⟩ := Kd.N_form ho59 (by simp)
    have n4 := Aside0.mk (blk_below C4.out hb13)
    have n6 := Aside0.mk (blk_below C6.out hb13)
    have n7 := Aside0.mk (blk_below C7.out hb13)
    have n8 := Aside0.mk (blk_below C8.out hb13)
    have nb := Aside0.mk (HBC.out.trans (hb13.mono HBC.out.size))
    clear B4 B6 B7 B8 HBW
    have B4 := n4
    have B6 := n6
    have B7 := n7
    have B8 := n8
    have HBW := nb
    clear n4 n6 n7 n8 nb
    have HO59 := Aside0.mk ho59
    have HBX := Aside0.mk hb13
    clear ho59 hg13 hat13 hb13 hb59 hl59
    refine hK.out _ _ ⟨(blk_cell B4.out 0).trans rfl, (blk_cell B6.out 0).trans rfl, (blk_cell B6.out 1).trans rfl, (blk_cell B6.out 2).trans rfl, (blk_cell B6.out 3).trans rfl, (blk_cell B6.out 4).trans rfl, (blk_cell B7.out 0).trans rfl, (blk_cell B7.out 1).trans rfl, (blk_cell B7.out 2).trans rfl, (blk_cell B7.out 3).trans rfl, (blk_cell B7.out 4).trans rfl⟩ (fun hHeld => ?_)
    clear hK K
    refine nO ?_
    refine oN 10 (some 60) HT_ rfl (fun K hK => ?_)
    refine N_append_full_step k82 (w0 := w12) w12.heap.size rfl (.tmp 55) (.tmp 59) 41 82 (.agg #[.int .i64 0, .int .i64 0, .string (⟨#[]⟩ : ByteArray), .int .i64 0, .slice none 0 0, .int .i64 0, .int .i64 0, .string (⟨#[]⟩ : ByteArray), .int .i64 0, .slice none 0 0]) 128 rfl Try.underlying41 info82 rfl (by decide) (by omega) (l.take ix) [(⟨⟨a2_0, a2_1, a2_2, a2_3, l2_4⟩, ⟨a3_0, a3_1, a3_2, a3_3, l3_4⟩⟩ : S82)] Am ⟨g59, 0, none⟩ _ 1 cap59 (fun k_ => ((P0_0_ k_ ∨ P2_4_ k_ ∨ P3_4_ k_) ∧ k_ < w.heap.size) ∨ w12.heap.size ≤ k_) (fun k => P0_0_ k ∧ k < w.heap.size) (fun k_ => ((P0_0_ k_ ∨ P2_4_ k_ ∨ P3_4_ k_) ∧ k_ < w.heap.size) ∨ w12.heap.size ≤ k_) rfl rfl ?_ (Kd.F_take (Kd.F_old HFm.out HBW.out) HI1.out) (Kd.N_F HO59.out) ?_ (by omega) (fun k hk => .inl ⟨.inl hk.1, hk.2⟩) (fun _ hk => hk) (fun k hk => .inr (Nat.le_trans HBX.out.size hk)) HBX.out HBX.out.size ?_ ?_
    · rw [List.length_take]; have := HI1.out; omega
    · intro hA
      have h_ := Kd.F_now HFm.out
      rw [hA] at h_
      rcases Nat.eq_zero_or_pos l.length with h0 | h0
      · rw [List.length_take]; omega
      obtain ⟨ad_, he, _⟩ := h_.2.2 h0
      cases he
    · rw [List.length_take]; have h1_ := HMX.out; have h2_ := HI1.out; omega
    intro v60 w14 ho60 hb14 hg14 hat14
    have n4 := Aside0.mk (blk_below C4.out hb14)
    have n6 := Aside0.mk (blk_below C6.out hb14)
    have n7 := Aside0.mk (blk_below C7.out hb14)
    have n8 := Aside0.mk (blk_below C8.out hb14)
    have nb := Aside0.mk (HBC.out.trans (hb14.mono HBC.out.size))
    clear B4 B6 B7 B8 HBW
    have B4 := n4
    have B6 := n6
    have B7 := n7
    have B8 := n8
    have HBW := nb
    clear n4 n6 n7 n8 nb
    have HO60 := Aside0.mk ho60
    have HAT := Aside0.mk hat14
    have HSZ13 := Aside0.mk (Nat.le_trans HBC.out.size HBX.out.size)
    clear HBX HO59
    have HBX := Aside0.mk hb14
    clear ho60 hg14 hat14 hb14
    refine hK.out _ _ ⟨(blk_cell B4.out 0).trans rfl, (blk_cell B6.out 0).trans rfl, (blk_cell B6.out 1).trans rfl, (blk_cell B6.out 2).trans rfl, (blk_cell B6.out 3).trans rfl, (blk_cell B6.out 4).trans rfl, (blk_cell B7.out 0).trans rfl, (blk_cell B7.out 1).trans rfl, (blk_cell B7.out 2).trans rfl, (blk_cell B7.out 3).trans rfl, (blk_cell B7.out 4).trans rfl⟩ (fun hHeld => ?_)
    clear hK K
    refine nO ?_
    refine oN 12 (some 62) HT_ rfl (fun K hK => ?_)
    refine Kd.N_append_rows_step k82 (w0 := w12) w12.heap.size rfl (.tmp 60) (.tmp 61) 41 82 (.agg #[.int .i64 0, .int .i64 0, .string (⟨#[]⟩ : ByteArray), .int .i64 0, .slice none 0 0, .int .i64 0, .int .i64 0, .string (⟨#[]⟩ : ByteArray), .int .i64 0, .slice none 0 0]) 128 rfl Try.underlying41 info82 rfl (by decide) (by omega) v60 (l.take ix ++ [(⟨⟨a2_0, a2_1, a2_2, a2_3, l2_4⟩, ⟨a3_0, a3_1, a3_2, a3_3, l3_4⟩⟩ : S82)]) (l.drop J) B2 (l.length - J) (cm - J) (fun k_ => ((P0_0_ k_ ∨ P2_4_ k_ ∨ P3_4_ k_) ∧ k_ < w.heap.size) ∨ w12.heap.size ≤ k_) (fun k => P0_0_ k ∧ k < w.heap.size) rfl rfl HO60.out ?_ (fun k hk => ⟨.inl ⟨.inl hk.1, hk.2⟩, ?_⟩) (fun k hk => .inr (Nat.le_trans HBX.out.size hk)) HBX.out HBX.out.size ?_ ?_
    · have h_ := Kd.F_cut (m := J) (c := cm) (Kd.F_old HFm.out HBW.out) HJ.out HLE.out
      rw [List.length_drop] at h_
      rw [HBJ.out]
      exact h_
    · obtain ⟨b_, hb_, hge_⟩ := HAT.out
      rw [hb_]
      intro he_
      injection he_ with he_
      have h1_ := hk.2
      have h2_ := HSZ13.out
      omega
    · rw [List.length_append, List.length_take]; have h1_ := HMX.out; have h2_ := HI1.out; simp; omega
    intro v62 w15 ho62 hb15 hg15 hat15
    have n4 := Aside0.mk (blk_below C4.out hb15)
    have n6 := Aside0.mk (blk_below C6.out hb15)
    have n7 := Aside0.mk (blk_below C7.out hb15)
    have n8 := Aside0.mk (blk_below C8.out hb15)
    have nb := Aside0.mk (HBC.out.trans (hb15.mono HBC.out.size))
    clear B4 B6 B7 B8 HBW
    have B4 := n4
    have B6 := n6
    have B7 := n7
    have B8 := n8
    have HBW := nb
    clear n4 n6 n7 n8 nb
    have HBY := Aside0.mk hb15
    obtain ⟨A62, c62, rfl⟩ := Kd.N_slice ho62
    have HV62 := Aside0.mk (show Kd.V k82 82 w15 w15.heap.size (fun k_ => ((P0_0_ k_ ∨ P2_4_ k_ ∨ P3_4_ k_) ∧ k_ < w.heap.size) ∨ w12.heap.size ≤ k_) (.slice A62 (l.take ix ++ [(⟨⟨a2_0, a2_1, a2_2, a2_3, l2_4⟩, ⟨a3_0, a3_1, a3_2, a3_3, l3_4⟩⟩ : S82)] ++ l.drop J).length c62) (l.take ix ++ [(⟨⟨a2_0, a2_1, a2_2, a2_3, l2_4⟩, ⟨a3_0, a3_1, a3_2, a3_3, l3_4⟩⟩ : S82)] ++ l.drop J) from Kd.V_mk (Kd.N_reads' ho62).2.1 (Kd.N_F ho62))
    clear ho62 hg15 hat15 hb15 HO60 HAT HBX
    refine hK.out _ _ ⟨(blk_cell B4.out 0).trans rfl, (blk_cell B6.out 0).trans rfl, (blk_cell B6.out 1).trans rfl, (blk_cell B6.out 2).trans rfl, (blk_cell B6.out 3).trans rfl, (blk_cell B6.out 4).trans rfl, (blk_cell B7.out 0).trans rfl, (blk_cell B7.out 1).trans rfl, (blk_cell B7.out 2).trans rfl, (blk_cell B7.out 3).trans rfl, (blk_cell B7.out 4).trans rfl⟩ (fun hHeld => ?_)
    clear hK K
    refine nO ?_
    refine oN 13 (some 63) HT_ rfl (fun K hK => ?_)
    refine goes_ Try.func38 (by kernel_rfl) rfl #[.agg #[.slice (some ad) l0_0.length c0_0], .int .i64 a1, .slice A62 (l.take ix ++ [(⟨⟨a2_0, a2_1, a2_2, a2_3, l2_4⟩, ⟨a3_0, a3_1, a3_2, a3_3, l3_4⟩⟩ : S82)] ++ l.drop J).length c62] (by rfl) rfl rfl aG ?_
    refine (heap_with.calls (fun k => P0_0_ k ∧ k < w.heap.size) (some ad) c0_0 l0_0 a1 (fun k_ => ((P0_0_ k_ ∨ P2_4_ k_ ∨ P3_4_ k_) ∧ k_ < w.heap.size) ∨ w12.heap.size ≤ k_) A62 c62 (l.take ix ++ [(⟨⟨a2_0, a2_1, a2_2, a2_3, l2_4⟩, ⟨a3_0, a3_1, a3_2, a3_3, l3_4⟩⟩ : S82)] ++ l.drop J) _ w15 (Kd.V_mk HC0.out (Kd.F_old HF0.out HBW.out)) HV62.out HWITH.out).mono ?_
    rintro e_ w16 ⟨v63, rfl, ho63, hb16⟩
    refine ⟨_, rfl, ?_⟩
    have hb16c := HBY.out.trans (hb16.mono HBY.out.size)
    have HN63 := Aside0.mk (Kd.N_mono (ok' := (fun k_ => ((P0_0_ k_ ∨ P2_4_ k_ ∨ P3_4_ k_) ∧ k_ < w.heap.size) ∨ w12.heap.size ≤ k_)) (Kd.N_lower ho63 HBW.out.size) (fun k hk => hk.elim (fun h1 => h1.elim (fun h2 => .inl ⟨.inl h2.1, h2.2⟩) id) (fun h1 => .inr (Nat.le_trans HBY.out.size h1))))
    have n4 := Aside0.mk (blk_below C4.out hb16c)
    have n6 := Aside0.mk (blk_below C6.out hb16c)
    have n7 := Aside0.mk (blk_below C7.out hb16c)
    have n8 := Aside0.mk (blk_below C8.out hb16c)
    have nb := Aside0.mk (HBC.out.trans (hb16c.mono HBC.out.size))
    clear B4 B6 B7 B8 HBW
    have B4 := n4
    have B6 := n6
    have B7 := n7
    have B8 := n8
    have HBW := nb
    clear n4 n6 n7 n8 nb
    have HSZ15 := Aside0.mk hb16.size
    have HOWN := Aside0.mk (Kd.N_base ho63)
    clear ho63 hb16 hb16c
    refine hK.out _ _ ⟨(blk_cell B4.out 0).trans rfl, (blk_cell B6.out 0).trans rfl, (blk_cell B6.out 1).trans rfl, (blk_cell B6.out 2).trans rfl, (blk_cell B6.out 3).trans rfl, (blk_cell B6.out 4).trans rfl, (blk_cell B7.out 0).trans rfl, (blk_cell B7.out 1).trans rfl, (blk_cell B7.out 2).trans rfl, (blk_cell B7.out 3).trans rfl, (blk_cell B7.out 4).trans rfl⟩ (fun hHeld => ?_)
    clear hK K
    refine nO ?_
    refine oN 14 (none) HT_ rfl (fun K hK => ?_)
    obtain ⟨A63, c63, rfl⟩ := Kd.N_slice HN63.out
    have hc8 : w16.cell? ⟨w.heap.size + 1 + 1 + 1, 0, none⟩ = some (.slice none 0 0) := (blk_cell B8.out 0).trans rfl
    have hf8 := blk_frozen B8.out 0
    rw [if_pos (by rfl)]
    unfold Oper.wp
    go_simp
    obtain ⟨w17, hw17⟩ : ∃ w17, w17 = w16.setCell ⟨w.heap.size + 1 + 1 + 1, 0, none⟩ (.slice A63 l0_0.length c63) := ⟨_, rfl⟩
    rw [← hw17]
    have hP3 := (Array.getElem?_eq_some_iff.1 C8.out).1
    have n4 := Aside0.mk (show w17.heap[w.heap.size]? = _ from hw17 ▸ blk_far B4.out (by simp <;> omega) _)
    have n6 := Aside0.mk (show w17.heap[w.heap.size + 1]? = _ from hw17 ▸ blk_far B6.out (by simp <;> omega) _)
    have n7 := Aside0.mk (show w17.heap[w.heap.size + 1 + 1]? = _ from hw17 ▸ blk_far B7.out (by simp <;> omega) _)
    have n8 : w17.heap[w.heap.size + 1 + 1 + 1]? = some (.cells #[.slice A63 l0_0.length c63] 27 (0, 0)) := hw17 ▸ Boxed.set _ (show Boxed w16 (w.heap.size + 1 + 1 + 1) 27 (.slice none 0 0) from B8.out)
    have nb := Aside0.mk (show Below w.heap.size w w17 from hw17 ▸ HBW.out.setCell (p := ⟨w.heap.size + 1 + 1 + 1, 0, none⟩) (by simp <;> omega) _)
    have hN17 := Kd.N_mono (ok' := (fun k_ => ((P0_0_ k_ ∨ P2_4_ k_ ∨ P3_4_ k_) ∨ w.heap.size ≤ k_))) (Kd.N_far (p := ⟨w.heap.size + 1 + 1 + 1, 0, none⟩) HN63.out (fun k hk => by rcases hk with hk | hk <;> simp <;> omega) (.slice A63 l0_0.length c63)) (fun k hk => hk.elim (fun h1 => .inl h1.1) (fun h1 => .inr (Nat.le_trans HBC.out.size h1)))
    rw [← hw17] at hN17
    have HN17 := Aside0.mk hN17
    have HN8 := Aside0.mk n8
    clear B4 B6 B7 hN17 n8 hc8 hf8 hP3
    have B4 := n4
    have B6 := n6
    have B7 := n7
    refine hK.out _ _ ⟨(blk_cell B4.out 0).trans rfl, (blk_cell B6.out 0).trans rfl, (blk_cell B6.out 1).trans rfl, (blk_cell B6.out 2).trans rfl, (blk_cell B6.out 3).trans rfl, (blk_cell B6.out 4).trans rfl, (blk_cell B7.out 0).trans rfl, (blk_cell B7.out 1).trans rfl, (blk_cell B7.out 2).trans rfl, (blk_cell B7.out 3).trans rfl, (blk_cell B7.out 4).trans rfl⟩ (fun hHeld => ?_)
    clear hK K
    refine pU 15 (some 9) HT_ rfl ?_
    refine done_ (done_of HT_.out (by kernel_rfl)) ?_
    go_wp2
    have hc9 : w17.cell? ⟨w.heap.size + 1 + 1 + 1, 0, none⟩ = some (.slice A63 l0_0.length c63) := (blk_cell HN8.out 0).trans rfl
    have HNF := HN17.out
    rw [List.length_set] at HNF
    refine bodyPost_ret (v := .tuple #[.agg #[.slice A63 l0_0.length c63], .int .i64 0]) ?_ rfl ⟨_, rfl, HNF, nb.out⟩
    simp [results, Try.f10, go_sem, hu27, hc9]
  | false =>
    have hf := HH.out
    simp only [Bool.false_eq_true, if_false] at hf
    have HJ := HI1
    by_cases hfull : 24 ≤ l.length
    · rw [if_pos hfull] at hf
      simp only [Option.some.injEq, Prod.mk.injEq] at hf
      obtain ⟨rfl, rfl⟩ := hf
      have hd5 : decide ((24 : Int) ≤ (l.length : Int)) = true := decide_eq_true (by omega)
      have hd6 : decide (24 ≤ l.length) = true := decide_eq_true hfull
      have hc8 : w1.cell? ⟨w.heap.size + 1 + 1 + 1, 0, none⟩ = some (.slice none 0 0) := (blk_cell D8.out 0).trans rfl
      have hf8 := blk_frozen D8.out 0
      clear hfull HH
      go_wp2
      have hc9 := World.cell?_setCell_same' w1 ⟨w.heap.size + 1 + 1 + 1, 0, none⟩ (.slice none 0 0) (by rw [hc8]; rfl)
      refine bodyPost_ret (v := .tuple #[.agg #[.slice none 0 0], .int .i64 41]) ?_ rfl ⟨_, rfl, Kd.N_nil _ _ _ _ _, HBD.out.setCell (p := ⟨w.heap.size + 1 + 1 + 1, 0, none⟩) (by simp; omega) _⟩
      simp [results, Try.f10, go_sem, hu27, hc9]
    rw [if_neg hfull] at hf
    simp only [Option.some.injEq, Prod.mk.injEq] at hf
    obtain ⟨rfl, rfl⟩ := hf
    have hd5 : decide ((24 : Int) ≤ (l.length : Int)) = false := decide_eq_false (by omega)
    have hd6 : decide (24 ≤ l.length) = false := decide_eq_false hfull
    have HWITH : Aside0 (heap_with.f l0_0 a1 (l.take ix ++ [(⟨⟨a2_0, a2_1, a2_2, a2_3, l2_4⟩, ⟨a3_0, a3_1, a3_2, a3_3, l3_4⟩⟩ : S82)] ++ l.drop ix) = some (l0_0.set a1.toNat (putRow l (ix : Int).toNat (ix : Int).toNat (⟨⟨a2_0, a2_1, a2_2, a2_3, l2_4⟩, ⟨a3_0, a3_1, a3_2, a3_3, l3_4⟩⟩ : S82)))) := ⟨by unfold heap_with.f; rw [if_pos ⟨HL0.out, HM.out⟩]; simp [putRow]⟩
    clear hfull HH
    have HBJ := HB1
    go_wp2
    refine start_ (n := 16) (S := fun w' => w'.cell? ⟨w.heap.size, 0, none⟩ = some (.slice (some ad) l0_0.length c0_0) ∧ w'.cell? ⟨w.heap.size + 1, 0, none⟩ = some (.int .i64 a2_0) ∧ w'.cell? ⟨w.heap.size + 1, 1, none⟩ = some (.int .i64 a2_1) ∧ w'.cell? ⟨w.heap.size + 1, 2, none⟩ = some (.string a2_2) ∧ w'.cell? ⟨w.heap.size + 1, 3, none⟩ = some (.int .i64 a2_3) ∧ w'.cell? ⟨w.heap.size + 1, 4, none⟩ = some (.slice A2_4 l2_4.length c2_4) ∧ w'.cell? ⟨w.heap.size + 1 + 1, 0, none⟩ = some (.int .i64 a3_0) ∧ w'.cell? ⟨w.heap.size + 1 + 1, 1, none⟩ = some (.int .i64 a3_1) ∧ w'.cell? ⟨w.heap.size + 1 + 1, 2, none⟩ = some (.string a3_2) ∧ w'.cell? ⟨w.heap.size + 1 + 1, 3, none⟩ = some (.int .i64 a3_3) ∧ w'.cell? ⟨w.heap.size + 1 + 1, 4, none⟩ = some (.slice A3_4 l3_4.length c3_4)) (ds := []) #[fF,fF,fF,fF,fF,fF,fF,fF,fF,fF,fF,fF,fF,fF,fF,fF] (by kernel_rfl) rfl rfl ?_ (fun hHeld => ?_)
    · exact ⟨(blk_cell (blk_drew D4.out) 0).trans rfl, (blk_cell (blk_drew D6.out) 0).trans rfl, (blk_cell (blk_drew D6.out) 1).trans rfl, (blk_cell (blk_drew D6.out) 2).trans rfl, (blk_cell (blk_drew D6.out) 3).trans rfl, (blk_cell (blk_drew D6.out) 4).trans rfl, (blk_cell (blk_drew D7.out) 0).trans rfl, (blk_cell (blk_drew D7.out) 1).trans rfl, (blk_cell (blk_drew D7.out) 2).trans rfl, (blk_cell (blk_drew D7.out) 3).trans rfl, (blk_cell (blk_drew D7.out) 4).trans rfl⟩
    refine with_tabW heap_Put.tab10 heap_Put.bits10 (fun HT_ HW_ => ?_)
    have C4 := Aside0.mk (blk_drew D4.out)
    have C6 := Aside0.mk (blk_drew D6.out)
    have C7 := Aside0.mk (blk_drew D7.out)
    have C8 := Aside0.mk (blk_drew D8.out)
    have HBC := Aside0.mk (below_drew1 HBD.out)
    clear D4 D6 D7 D8 HBD
    generalize w1.drew = w12 at C4 C6 C7 C8 HBC hHeld ⊢
    have B4 := C4
    have B6 := C6
    have B7 := C7
    have B8 := C8
    have HBW := HBC
    refine pU 1 (some 51) HT_ rfl ?_
    refine pU 2 (some 52) HT_ rfl ?_
    refine pU 3 (some 53) HT_ rfl ?_
    refine pU 4 (some 54) HT_ rfl ?_
    refine pU 11 (some 61) HT_ rfl ?_
    refine pU 5 (some 55) HT_ rfl ?_
    refine tA 0 (some 50) HT_ HW_ hHeld rfl ?_
    refine tA 6 (some 56) HT_ HW_ hHeld rfl ?_
    refine tA 7 (some 57) HT_ HW_ hHeld rfl ?_
    refine pU 8 (some 58) HT_ rfl ?_
    refine oN 9 (some 59) HT_ rfl (fun K hK => ?_)
    refine Kd.N_lit_step k82 (w0 := w12) w12.heap.size 82 ?hg (N' := 59) ?hd (xs := [(⟨⟨a2_0, a2_1, a2_2, a2_3, l2_4⟩, ⟨a3_0, a3_1, a3_2, a3_3, l3_4⟩⟩ : S82)]) (inner := [.int .i64 a2_0, .int .i64 a2_1, .string a2_2, .int .i64 a2_3, .slice A2_4 l2_4.length c2_4, .int .i64 a3_0, .int .i64 a3_1, .string a3_2, .int .i64 a3_3, .slice A3_4 l3_4.length c3_4]) (ok := (fun k_ => ((P0_0_ k_ ∨ P2_4_ k_ ∨ P3_4_ k_) ∧ k_ < w.heap.size) ∨ w12.heap.size ≤ k_)) (okp := fun k => (P2_4_ k ∨ P3_4_ k) ∧ k < w.heap.size) ?hr ?hp (fun k hk => .inl ⟨.inr hk.1, hk.2⟩) (.inr (Nat.le_refl _)) (Below.refl _ _) (Nat.le_refl _) (by simp) ?_; (case hd => rfl); (case hg => rfl); (case hr => first | (go_simp; done) | (go_simp; rfl))
    case hp => exact Reps.c10 (k82_mkF _ _ (⟨⟨a2_0, a2_1, a2_2, a2_3, l2_4⟩, ⟨a3_0, a3_1, a3_2, a3_3, l3_4⟩⟩ : S82) HC2.out (Kd.F_mono (Kd.F_old HF2.out HBW.out) (fun k hk => ⟨.inl hk.1, hk.2⟩)) HC3.out (Kd.F_mono (Kd.F_old HF3.out HBW.out) (fun k hk => ⟨.inr hk.1, hk.2⟩))) (Reps.none _ _)
    intro v59 w13 ho59 hb13 hg13 hat13
    obtain ⟨g59, cap59, rfl, hb59, hl59, _⟩ := Kd.N_form ho59 (by simp)
    have n4 := Aside0.mk (blk_below C4.out hb13)
    have n6 := Aside0.mk (blk_below C6.out hb13)
    have n7 := Aside0.mk (blk_below C7.out hb13)
    have n8 := Aside0.mk (blk_below C8.out hb13)
    have nb := Aside0.mk (HBC.out.trans (hb13.mono HBC.out.size))
    clear B4 B6 B7 B8 HBW
    have B4 := n4
    have B6 := n6
    have B7 := n7
    have B8 := n8
    have HBW := nb
    clear n4 n6 n7 n8 nb
    have HO59 := Aside0.mk ho59
    have HBX := Aside0.mk hb13
    clear ho59 hg13 hat13 hb13 hb59 hl59
    refine hK.out _ _ ⟨(blk_cell B4.out 0).trans rfl, (blk_cell B6.out 0).trans rfl, (blk_cell B6.out 1).trans rfl, (blk_cell B6.out 2).trans rfl, (blk_cell B6.out 3).trans rfl, (blk_cell B6.out 4).trans rfl, (blk_cell B7.out 0).trans rfl, (blk_cell B7.out 1).trans rfl, (blk_cell B7.out 2).trans rfl, (blk_cell B7.out 3).trans rfl, (blk_cell B7.out 4).trans rfl⟩ (fun hHeld => ?_)
    clear hK K
    refine nO ?_
    refine oN 10 (some 60) HT_ rfl (fun K hK => ?_)
    refine N_append_full_step k82 (w0 := w12) w12.heap.size rfl (.tmp 55) (.tmp 59) 41 82 (.agg #[.int .i64 0, .int .i64 0, .string (⟨#[]⟩ : ByteArray), .int .i64 0, .slice none 0 0, .int .i64 0, .int .i64 0, .string (⟨#[]⟩ : ByteArray), .int .i64 0, .slice none 0 0]) 128 rfl Try.underlying41 info82 rfl (by decide) (by omega) (l.take ix) [(⟨⟨a2_0, a2_1, a2_2, a2_3, l2_4⟩, ⟨a3_0, a3_1, a3_2, a3_3, l3_4⟩⟩ : S82)] Am ⟨g59, 0, none⟩ _ 1 cap59 (fun k_ => ((P0_0_ k_ ∨ P2_4_ k_ ∨ P3_4_ k_) ∧ k_ < w.heap.size) ∨ w12.heap.size ≤ k_) (fun k => P0_0_ k ∧ k < w.heap.size) (fun k_ => ((P0_0_ k_ ∨ P2_4_ k_ ∨ P3_4_ k_) ∧ k_ < w.heap.size) ∨ w12.heap.size ≤ k_) rfl rfl ?_ (Kd.F_take (Kd.F_old HFm.out HBW.out) HI1.out) (Kd.N_F HO59.out) ?_ (by omega) (fun k hk => .inl ⟨.inl hk.1, hk.2⟩) (fun _ hk => hk) (fun k hk => .inr (Nat.le_trans HBX.out.size hk)) HBX.out HBX.out.size ?_ ?_
    · rw [List.length_take]; have := HI1.out; omega
    · intro hA
      have h_ := Kd.F_now HFm.out
      rw [hA] at h_
      rcases Nat.eq_zero_or_pos l.length with h0 | h0
      · rw [List.length_take]; omega
      obtain ⟨ad_, he, _⟩ := h_.2.2 h0
      cases he
    · rw [List.length_take]; have h1_ := HMX.out; have h2_ := HI1.out; omega
    intro v60 w14 ho60 hb14 hg14 hat14
    have n4 := Aside0.mk (blk_below C4.out hb14)
    have n6 := Aside0.mk (blk_below C6.out hb14)
    have n7 := Aside0.mk (blk_below C7.out hb14)
    have n8 := Aside0.mk (blk_below C8.out hb14)
    have nb := Aside0.mk (HBC.out.trans (hb14.mono HBC.out.size))
    clear B4 B6 B7 B8 HBW
    have B4 := n4
    have B6 := n6
    have B7 := n7
    have B8 := n8
    have HBW := nb
    clear n4 n6 n7 n8 nb
    have HO60 := Aside0.mk ho60
    have HAT := Aside0.mk hat14
    have HSZ13 := Aside0.mk (Nat.le_trans HBC.out.size HBX.out.size)
    clear HBX HO59
    have HBX := Aside0.mk hb14
    clear ho60 hg14 hat14 hb14
    refine hK.out _ _ ⟨(blk_cell B4.out 0).trans rfl, (blk_cell B6.out 0).trans rfl, (blk_cell B6.out 1).trans rfl, (blk_cell B6.out 2).trans rfl, (blk_cell B6.out 3).trans rfl, (blk_cell B6.out 4).trans rfl, (blk_cell B7.out 0).trans rfl, (blk_cell B7.out 1).trans rfl, (blk_cell B7.out 2).trans rfl, (blk_cell B7.out 3).trans rfl, (blk_cell B7.out 4).trans rfl⟩ (fun hHeld => ?_)
    clear hK K
    refine nO ?_
    refine oN 12 (some 62) HT_ rfl (fun K hK => ?_)
    refine Kd.N_append_rows_step k82 (w0 := w12) w12.heap.size rfl (.tmp 60) (.tmp 61) 41 82 (.agg #[.int .i64 0, .int .i64 0, .string (⟨#[]⟩ : ByteArray), .int .i64 0, .slice none 0 0, .int .i64 0, .int .i64 0, .string (⟨#[]⟩ : ByteArray), .int .i64 0, .slice none 0 0]) 128 rfl Try.underlying41 info82 rfl (by decide) (by omega) v60 (l.take ix ++ [(⟨⟨a2_0, a2_1, a2_2, a2_3, l2_4⟩, ⟨a3_0, a3_1, a3_2, a3_3, l3_4⟩⟩ : S82)]) (l.drop ix) B1 (l.length - ix) (cm - ix) (fun k_ => ((P0_0_ k_ ∨ P2_4_ k_ ∨ P3_4_ k_) ∧ k_ < w.heap.size) ∨ w12.heap.size ≤ k_) (fun k => P0_0_ k ∧ k < w.heap.size) rfl rfl HO60.out ?_ (fun k hk => ⟨.inl ⟨.inl hk.1, hk.2⟩, ?_⟩) (fun k hk => .inr (Nat.le_trans HBX.out.size hk)) HBX.out HBX.out.size ?_ ?_
    · have h_ := Kd.F_cut (m := ix) (c := cm) (Kd.F_old HFm.out HBW.out) HJ.out HLE.out
      rw [List.length_drop] at h_
      rw [HBJ.out]
      exact h_
    · obtain ⟨b_, hb_, hge_⟩ := HAT.out
      rw [hb_]
      intro he_
      injection he_ with he_
      have h1_ := hk.2
      have h2_ := HSZ13.out
      omega
    · rw [List.length_append, List.length_take]; have h1_ := HMX.out; have h2_ := HI1.out; simp; omega
    intro v62 w15 ho62 hb15 hg15 hat15
    have n4 := Aside0.mk (blk_below C4.out hb15)
    have n6 := Aside0.mk (blk_below C6.out hb15)
    have n7 := Aside0.mk (blk_below C7.out hb15)
    have n8 := Aside0.mk (blk_below C8.out hb15)
    have nb := Aside0.mk (HBC.out.trans (hb15.mono HBC.out.size))
    clear B4 B6 B7 B8 HBW
    have B4 := n4
    have B6 := n6
    have B7 := n7
    have B8 := n8
    have HBW := nb
    clear n4 n6 n7 n8 nb
    have HBY := Aside0.mk hb15
    obtain ⟨A62, c62, rfl⟩ := Kd.N_slice ho62
    have HV62 := Aside0.mk (show Kd.V k82 82 w15 w15.heap.size (fun k_ => ((P0_0_ k_ ∨ P2_4_ k_ ∨ P3_4_ k_) ∧ k_ < w.heap.size) ∨ w12.heap.size ≤ k_) (.slice A62 (l.take ix ++ [(⟨⟨a2_0, a2_1, a2_2, a2_3, l2_4⟩, ⟨a3_0, a3_1, a3_2, a3_3, l3_4⟩⟩ : S82)] ++ l.drop ix).length c62) (l.take ix ++ [(⟨⟨a2_0, a2_1, a2_2, a2_3, l2_4⟩, ⟨a3_0, a3_1, a3_2, a3_3, l3_4⟩⟩ : S82)] ++ l.drop ix) from Kd.V_mk (Kd.N_reads' ho62).2.1 (Kd.N_F ho62))
    clear ho62 hg15 hat15 hb15 HO60 HAT HBX
    refine hK.out _ _ ⟨(blk_cell B4.out 0).trans rfl, (blk_cell B6.out 0).trans rfl, (blk_cell B6.out 1).trans rfl, (blk_cell B6.out 2).trans rfl, (blk_cell B6.out 3).trans rfl, (blk_cell B6.out 4).trans rfl, (blk_cell B7.out 0).trans rfl, (blk_cell B7.out 1).trans rfl, (blk_cell B7.out 2).trans rfl, (blk_cell B7.out 3).trans rfl, (blk_cell B7.out 4).trans rfl⟩ (fun hHeld => ?_)
    clear hK K
    refine nO ?_
    refine oN 13 (some 63) HT_ rfl (fun K hK => ?_)
    refine goes_ Try.func38 (by kernel_rfl) rfl #[.agg #[.slice (some ad) l0_0.length c0_0], .int .i64 a1, .slice A62 (l.take ix ++ [(⟨⟨a2_0, a2_1, a2_2, a2_3, l2_4⟩, ⟨a3_0, a3_1, a3_2, a3_3, l3_4⟩⟩ : S82)] ++ l.drop ix).length c62] (by rfl) rfl rfl aG ?_
    refine (heap_with.calls (fun k => P0_0_ k ∧ k < w.heap.size) (some ad) c0_0 l0_0 a1 (fun k_ => ((P0_0_ k_ ∨ P2_4_ k_ ∨ P3_4_ k_) ∧ k_ < w.heap.size) ∨ w12.heap.size ≤ k_) A62 c62 (l.take ix ++ [(⟨⟨a2_0, a2_1, a2_2, a2_3, l2_4⟩, ⟨a3_0, a3_1, a3_2, a3_3, l3_4⟩⟩ : S82)] ++ l.drop ix) _ w15 (Kd.V_mk HC0.out (Kd.F_old HF0.out HBW.out)) HV62.out HWITH.out).mono ?_
    rintro e_ w16 ⟨v63, rfl, ho63, hb16⟩
    refine ⟨_, rfl, ?_⟩
    have hb16c := HBY.out.trans (hb16.mono HBY.out.size)
    have HN63 := Aside0.mk (Kd.N_mono (ok' := (fun k_ => ((P0_0_ k_ ∨ P2_4_ k_ ∨ P3_4_ k_) ∧ k_ < w.heap.size) ∨ w12.heap.size ≤ k_)) (Kd.N_lower ho63 HBW.out.size) (fun k hk => hk.elim (fun h1 => h1.elim (fun h2 => .inl ⟨.inl h2.1, h2.2⟩) id) (fun h1 => .inr (Nat.le_trans HBY.out.size h1))))
    have n4 := Aside0.mk (blk_below C4.out hb16c)
    have n6 := Aside0.mk (blk_below C6.out hb16c)
    have n7 := Aside0.mk (blk_below C7.out hb16c)
    have n8 := Aside0.mk (blk_below C8.out hb16c)
    have nb := Aside0.mk (HBC.out.trans (hb16c.mono HBC.out.size))
    clear B4 B6 B7 B8 HBW
    have B4 := n4
    have B6 := n6
    have B7 := n7
    have B8 := n8
    have HBW := nb
    clear n4 n6 n7 n8 nb
    have HSZ15 := Aside0.mk hb16.size
    have HOWN := Aside0.mk (Kd.N_base ho63)
    clear ho63 hb16 hb16c
    refine hK.out _ _ ⟨(blk_cell B4.out 0).trans rfl, (blk_cell B6.out 0).trans rfl, (blk_cell B6.out 1).trans rfl, (blk_cell B6.out 2).trans rfl, (blk_cell B6.out 3).trans rfl, (blk_cell B6.out 4).trans rfl, (blk_cell B7.out 0).trans rfl, (blk_cell B7.out 1).trans rfl, (blk_cell B7.out 2).trans rfl, (blk_cell B7.out 3).trans rfl, (blk_cell B7.out 4).trans rfl⟩ (fun hHeld => ?_)
    clear hK K
    refine nO ?_
    refine oN 14 (none) HT_ rfl (fun K hK => ?_)
    obtain ⟨A63, c63, rfl⟩ := Kd.N_slice HN63.out
    have hc8 : w16.cell? ⟨w.heap.size + 1 + 1 + 1, 0, none⟩ = some (.slice none 0 0) := (blk_cell B8.out 0).trans rfl
    have hf8 := blk_frozen B8.out 0
    rw [if_pos (by rfl)]
    unfold Oper.wp
    go_simp
    obtain ⟨w17, hw17⟩ : ∃ w17, w17 = w16.setCell ⟨w.heap.size + 1 + 1 + 1, 0, none⟩ (.slice A63 l0_0.length c63) := ⟨_, rfl⟩
    rw [← hw17]
    have hP3 := (Array.getElem?_eq_some_iff.1 C8.out).1
    have n4 := Aside0.mk (show w17.heap[w.heap.size]? = _ from hw17 ▸ blk_far B4.out (by simp <;> omega) _)
    have n6 := Aside0.mk (show w17.heap[w.heap.size + 1]? = _ from hw17 ▸ blk_far B6.out (by simp <;> omega) _)
    have n7 := Aside0.mk (show w17.heap[w.heap.size + 1 + 1]? = _ from hw17 ▸ blk_far B7.out (by simp <;> omega) _)
    have n8 : w17.heap[w.heap.size + 1 + 1 + 1]? = some (.cells #[.slice A63 l0_0.length c63] 27 (0, 0)) := hw17 ▸ Boxed.set _ (show Boxed w16 (w.heap.size + 1 + 1 + 1) 27 (.slice none 0 0) from B8.out)
    have nb := Aside0.mk (show Below w.heap.size w w17 from hw17 ▸ HBW.out.setCell (p := ⟨w.heap.size + 1 + 1 + 1, 0, none⟩) (by simp <;> omega) _)
    have hN17 := Kd.N_mono (ok' := (fun k_ => ((P0_0_ k_ ∨ P2_4_ k_ ∨ P3_4_ k_) ∨ w.heap.size ≤ k_))) (Kd.N_far (p := ⟨w.heap.size + 1 + 1 + 1, 0, none⟩) HN63.out (fun k hk => by rcases hk with hk | hk <;> simp <;> omega) (.slice A63 l0_0.length c63)) (fun k hk => hk.elim (fun h1 => .inl h1.1) (fun h1 => .inr (Nat.le_trans HBC.out.size h1)))
    rw [← hw17] at hN17
    have HN17 := Aside0.mk hN17
    have HN8 := Aside0.mk n8
    clear B4 B6 B7 hN17 n8 hc8 hf8 hP3
    have B4 := n4
    have B6 := n6
    have B7 := n7
    refine hK.out _ _ ⟨(blk_cell B4.out 0).trans rfl, (blk_cell B6.out 0).trans rfl, (blk_cell B6.out 1).trans rfl, (blk_cell B6.out 2).trans rfl, (blk_cell B6.out 3).trans rfl, (blk_cell B6.out 4).trans rfl, (blk_cell B7.out 0).trans rfl, (blk_cell B7.out 1).trans rfl, (blk_cell B7.out 2).trans rfl, (blk_cell B7.out 3).trans rfl, (blk_cell B7.out 4).trans rfl⟩ (fun hHeld => ?_)
    clear hK K
    refine pU 15 (some 9) HT_ rfl ?_
    refine done_ (done_of HT_.out (by kernel_rfl)) ?_
    go_wp2
    have hc9 : w17.cell? ⟨w.heap.size + 1 + 1 + 1, 0, none⟩ = some (.slice A63 l0_0.length c63) := (blk_cell HN8.out 0).trans rfl
    have HNF := HN17.out
    rw [List.length_set] at HNF
    refine bodyPost_ret (v := .tuple #[.agg #[.slice A63 l0_0.length c63], .int .i64 0]) ?_ rfl ⟨_, rfl, HNF, nb.out⟩
    simp [results, Try.f10, go_sem, hu27, hc9]
end Go.Proofs.Ytnokieaebnmljaa.PAll
namespace Go.Proofs.Ytnokieaebnmljaa.PAll
open Go Go.Proofs Go.RowKit Go.Shelf Go.Proofs.YtnokieaebnmljaaW.PrintWords Go.Proofs.YtnokieaebnmljaaW.PrintLast Go.Proofs.YtnokieaebnmljaaW.PrintMore
attribute [local go_sem] Oper.semAt_some
set_option linter.unusedVariables false
set_option linter.unusedSimpArgs false
/-- append of nothing onto a cut without room: it stays as it is. -/
theorem append_zero_run {P : Program} {W : World} (t ty e : TypeId) (z : Value) (size bytes : Nat) (ht : P.underlying t = some (.slice e)) (hinfo : (P.info? e).map (fun i => (i.zero, i.size, i.bytes)) = some (some z, size, bytes)) (Ax Ay : Option Addr) (n c : Nat) :
    (Builtin.append_ #[t, t] ty #[.slice Ax n n, .slice Ay 0 c]).run P W = .ok (.slice Ax n n) W := by
  obtain ⟨i0, hi, hzz⟩ := Option.map_eq_some_iff.1 hinfo
  cases Ax <;> cases Ay <;> simp [Builtin.append_, run_underlying ht, sizeOf, typeInfo, hi, Builtin.lenOf, Builtin.firstCells, storeCells, loadCells, loadCellsFrom]
section
variable {P : Program} {ops : Array Oper} {rest : List Oper} {o : Oper} {a : Act} {Q : Exit → Act → World → Prop} {Kc : Act → World → Prop}
theorem V_append_full_step {α : Type} (d : Kd α) {w0 W : World} (base : Nat) (hw : Region.wanted o (yielded ops a.tmps) = true) (s x : Operand) (t e : TypeId) (z : Value) (bytes : Nat)
    (ho : o.op = .call { callee := .builtin .append, args := #[s, x], argTypes := #[t, t] })
    (ht : P.underlying t = some (.slice e)) (hinfo : (P.info? e).map (fun i => (i.zero, i.size, i.bytes)) = some (some z, d.sz, bytes)) (hz : z.cells.size = d.sz) (hs0 : 0 < d.sz) (hb0 : 0 < bytes)
    (xs ys : List α) (Ax Ay : Option Addr) (n m c : Nat) (ok okx oky : Nat → Prop) (hs : a.eval s = .slice Ax n n) (hx : a.eval x = .slice Ay m c) (hn : n = xs.length)
    (HX : Kd.F d W okx Ax xs.length xs) (HY : Kd.F d W oky Ay m ys) (hAx : Ax = none → xs.length = 0) (hokx : ∀ k, okx k → ok k) (hoky : ∀ k, oky k → ok k) (hfresh : ∀ k, W.heap.size ≤ k → ok k)
    (HB : Below base w0 W) (hbase : base ≤ W.heap.size) (hl : (xs.length + m) * bytes ≤ 140737488355328)
    (h : ∀ v1 w1, Kd.V d e w1 base ok v1 (xs ++ ys) → Below base w0 w1 → Kc (a.put o.dst v1) w1) :
    if Region.wanted o (yielded ops a.tmps) = true then Oper.wp P o a W Kc Q else Kc (a.put o.dst undef) W := by
  subst hn
  have key : ∃ v1 w1, (Builtin.append_ #[t, t] o.type #[.slice Ax xs.length xs.length, .slice Ay m c]).run P W = .ok v1 w1 ∧ Kd.V d e w1 base ok v1 (xs ++ ys) ∧ Below base w0 w1 := by
    rcases Nat.eq_zero_or_pos m with rfl | hm
    · have hy : ys = [] := List.eq_nil_of_length_eq_zero (Kd.F_len HY)
      subst hy
      refine ⟨_, W, append_zero_run t o.type e z d.sz bytes ht hinfo Ax Ay xs.length c, ?_, HB⟩
      rw [List.append_nil]
      exact Kd.V_mk (Nat.le_refl _) (Kd.F_mono HX hokx)
    · obtain ⟨ad, rfl, _⟩ := (Kd.F_now HY).2.2 hm
      obtain ⟨v1, w1, hr1, h1, hg, hb⟩ := append_full_run (P := P) d base t o.type e z bytes ht hinfo hz hs0 hb0 xs ys Ax ad m c ok okx oky HX HY hAx hm hokx hoky hfresh hbase hl
      exact ⟨v1, w1, hr1, Kd.N_V h1, HB.grown hg hbase (by simp)⟩
  obtain ⟨v1, w1, hr1, h1, hb⟩ := key
  rw [if_pos hw]
  unfold Oper.wp execOp
  simp only [ho, resolve, invoke, builtin, Sem.run_bind, Sem.run_pure, Result.andThen_ok, List.map_toArray, List.map_cons, List.map_nil, hs, hx, hr1]
  exact h v1 w1 h1 hb
end
theorem placeOf_ok {c : S82 → Int} : ∀ (l : List S82) (s : Int), (placeOf c l s).2 = true → l ≠ []
  | [], s, h => by simp [placeOf] at h
  | e :: es, s, h => by simp
noncomputable def heap_Del.f (k : Nat) (l0_0 : List (List S82)) (a1 : Int) (a2_0 : Int) (a2_1 : Int) (a2_2 : ByteArray) (a2_3 : Int) (l2_4 : List S35) : Option (List (List S82)) :=
  (heap_place.f k l0_0 a1 a2_0 a2_1 a2_2 a2_3 l2_4).bind fun p =>
    if p.2 = true then (if l0_0.length ≤ 11728124029610 ∧ (mapOf l0_0 a1).length ≤ 549755813886 then some (l0_0.set a1.toNat ((mapOf l0_0 a1).take p.1.toNat ++ (mapOf l0_0 a1).drop (p.1.toNat + 1))) else none)
    else some l0_0
def heap_Del.T5 : Bool × List (List Nat × List Nat) := (true, [([], []), ([], []), ([], []), ([], []), ([], []), ([2, 3, 4], [2, 3, 4]), ([], []), ([], []), ([7], [7]), ([6, 8], [6, 8]), ([5, 9], [5, 9]), ([0, 1, 10, 10], [0, 1, 10]), ([11, 11, 0, 1, 2, 3, 4, 5, 6, 7, 8, 9, 10, 11], [11])])
def heap_Del.B5 : List Nat := [0, 0, 0, 0, 0, 28, 0, 0, 128, 448, 1020, 2047, 4095]
theorem heap_Del.tab5 : rtab .any (opsOf Try.f12 5) = heap_Del.T5 := by kernel_rfl
theorem heap_Del.bits5 : waitsOk heap_Del.T5.2 heap_Del.B5 = true := by kernel_rfl
set_option maxHeartbeats 16000000 in
set_option maxRecDepth 100000 in
theorem heap_Del.calls (k : Nat) (P0_0_ : Nat → Prop) (A0_0 : Option Addr) (c0_0 : Nat) (l0_0 : List (List (S82))) (a1 : Int) (a2_0 : Int) (a2_1 : Int) (a2_2 : ByteArray) (a2_3 : Int) (A2_4 : Option Addr) (c2_4 : Nat) (l2_4 : List (S35)) (r : List (List (S82))) (w : World) (hs0_0 : Kd.V (Kd.slice 82 k82) 41 w w.heap.size (fun k_ => P0_0_ k_) (.slice A0_0 l0_0.length c0_0) l0_0) (hr2_4 : Kd.C k35 w A2_4 l2_4.length l2_4) (hc2_4 : l2_4.length ≤ c2_4) (h : heap_Del.f k l0_0 a1 a2_0 a2_1 a2_2 a2_3 l2_4 = some r) :
    Calls Try.prog 12 #[.agg #[.slice A0_0 l0_0.length c0_0], .int .i64 a1, .agg #[.int .i64 a2_0, .int .i64 a2_1, .string a2_2, .int .i64 a2_3, .slice A2_4 l2_4.length c2_4]] w fun e w' => ∃ v0_ : Value, e = .returned (.agg #[v0_]) ∧ Kd.V (Kd.slice 82 k82) 41 w' w.heap.size (fun k_ => (P0_0_ k_ ∨ w.heap.size ≤ k_)) v0_ r ∧ Below w.heap.size w w' := by
  have hu27 := Try.underlying27
  have hu35 := Try.underlying35
  have hu82 := Try.underlying82
  unfold heap_Del.f at h
  obtain ⟨p, hp, h⟩ := Option.bind_eq_some_iff.mp h
  have HF0 := Aside0.mk (Kd.V_F hs0_0)
  have HC0 := Aside0.mk (Kd.V_at hs0_0).2.1
  have HR2 := Aside0.mk hr2_4
  have HC2 := Aside0.mk hc2_4
  obtain ⟨p1, p2⟩ := p
  have HP := Aside0.mk hp
  have HH := Aside0.mk h
  clear hs0_0 hr2_4 hc2_4 hp h
  go_enter Try.func12, Try.ntmps12
  go_wp2_with (fail)
  obtain ⟨wA, hwA⟩ : ∃ wA, wA = ((w.alloc (Obj.cells #[.slice A0_0 l0_0.length c0_0] 27)).alloc (Obj.cells #[.int .i64 a2_0, .int .i64 a2_1, .string a2_2, .int .i64 a2_3, .slice A2_4 l2_4.length c2_4] 35)).alloc (Obj.cells #[.slice none 0 0] 27) := ⟨_, rfl⟩
  have hBA : Below w.heap.size w wA := by
    rw [hwA]
    exact ((((Below.refl _ w).alloc (Nat.le_refl _) _).alloc (by simp) _).alloc (by simp; omega) _)
  have R4 : wA.heap[w.heap.size]? = some (.cells #[.slice A0_0 l0_0.length c0_0] 27 (0, 0)) := by
    rw [hwA]
    exact blk_alloc (blk_alloc (World.alloc_heap_new w _) _) _
  have R8 : wA.heap[w.heap.size + 1 + 1]? = some (.cells #[.slice none 0 0] 27 (0, 0)) := by
    rw [hwA]
    have h_ := World.alloc_heap_new ((w.alloc (Obj.cells #[.slice A0_0 l0_0.length c0_0] 27)).alloc (Obj.cells #[.int .i64 a2_0, .int .i64 a2_1, .string a2_2, .int .i64 a2_3, .slice A2_4 l2_4.length c2_4] 35)) (Obj.cells #[.slice none 0 0] 27)
    rwa [World.size_alloc, World.size_alloc] at h_
  rw [← hwA]
  clear hwA
  refine (heap_place.calls k A0_0 c0_0 l0_0 a1 a2_0 a2_1 a2_2 a2_3 A2_4 c2_4 l2_4 p1 p2 wA (Kd.F_now (Kd.F_below HF0.out hBA)) HC0.out (Kd.C_below HR2.out hBA) HC2.out HP.out).mono ?_
  rintro e_ w1 ⟨rfl, hb1⟩
  have D4 := Aside0.mk (blk_below R4 hb1)
  have D8 := Aside0.mk (blk_below R8 hb1)
  have HBD := Aside0.mk (hBA.trans (hb1.mono hBA.size))
  clear R4 R8 hb1 hBA
  have hcs0 : w1.cell? ⟨w.heap.size, 0, none⟩ = some (.slice A0_0 l0_0.length c0_0) := (blk_cell D4.out 0).trans rfl
  dsimp only
  cases p2 with
  | false =>
    have hf := HH.out
    simp only [Bool.false_eq_true, if_false, Option.some.injEq] at hf
    subst hf
    have hc8 : w1.cell? ⟨w.heap.size + 1 + 1, 0, none⟩ = some (.slice none 0 0) := (blk_cell D8.out 0).trans rfl
    have hf8 := blk_frozen D8.out 0
    clear HH
    go_wp2
    have hc9 := World.cell?_setCell_same' w1 ⟨w.heap.size + 1 + 1, 0, none⟩ (.slice A0_0 l0_0.length c0_0) (by rw [hc8]; rfl)
    have hbe := HBD.out.setCell (p := ⟨w.heap.size + 1 + 1, 0, none⟩) (by simp <;> omega) (.slice A0_0 l0_0.length c0_0)
    refine bodyPost_ret (v := .agg #[.slice A0_0 l0_0.length c0_0]) ?_ rfl ⟨_, rfl, Kd.V_mk HC0.out (Kd.F_mono (Kd.F_below HF0.out hbe) (fun k hk => .inl hk)), hbe⟩
    simp [results, Try.f12, go_sem, hu27, hc9]
  | true =>
    have hpf := HP.out
    unfold heap_place.f at hpf
    split at hpf
    case isFalse => exact absurd hpf (by simp)
    rename_i hcall
    have hpo := Option.some.inj hpf
    have hne : mapOf l0_0 a1 ≠ [] := placeOf_ok (c := cval k a2_0 a2_1 a2_2 a2_3 l2_4) (mapOf l0_0 a1) 0 (by rw [hpo])
    have hm : 0 ≤ a1 ∧ a1 < (l0_0.length : Int) := by
      by_cases hm : 0 ≤ a1 ∧ a1 < (l0_0.length : Int)
      · exact hm
      · exact absurd (by simp [mapOf, hm]) hne
    have hf := HH.out
    simp only [if_true] at hf
    by_cases hbd : l0_0.length ≤ 11728124029610 ∧ (mapOf l0_0 a1).length ≤ 549755813886
    case neg => rw [if_neg hbd] at hf; exact absurd hf (by simp)
    rw [if_pos hbd] at hf
    obtain rfl := Option.some.inj hf
    obtain ⟨ad, cs, rfl, hcl, hK, hcc, _⟩ := Kd.F_get HF0.out ([] : List S82) a1 hm.1 hm.2
    obtain ⟨Am, cm, rfl, hle, hFm⟩ := Kd.FK_slice_open hK
    have hcm := hcc 0 _ rfl
    rw [show (Kd.slice 82 k82).sz = 1 from rfl, Nat.mul_one, Nat.add_zero] at hcm
    obtain ⟨l, hl⟩ : ∃ l, l = l0_0.getD a1.toNat ([] : List S82) := ⟨_, rfl⟩
    have hmap : mapOf l0_0 a1 = l := by rw [hl]; simp [mapOf, hm, rd_L4]
    rw [← hl] at hcm hle hFm
    rw [hmap] at hbd
    obtain ⟨ix, hix1, hix2, hix3⟩ : ∃ ix : Nat, p1 = (ix : Int) ∧ ix ≤ l.length ∧ (true = true → ix < l.length) := by
      obtain ⟨ix, h1, h2, h3⟩ := placeOf_range (c := cval k a2_0 a2_1 a2_2 a2_3 l2_4) (mapOf l0_0 a1) 0
      rw [hpo] at h1 h3
      rw [hmap] at h2 h3
      exact ⟨ix, by simpa using h1, h2, h3⟩
    subst hix1
    have hJ : ix + 1 ≤ l.length := hix3 rfl
    have HJ := Aside0.mk hJ
    obtain ⟨i082, hi082, _, hsz82, _⟩ := info_parts info82
    have hcut3 := cut_full (P := Try.prog) 41 82 .i64 .i64 Try.underlying41 hi082 Am l.length cm (ix : Int) (by omega) (by omega) hle
    have hcut2 := cut_from (P := Try.prog) 41 82 .i64 Try.underlying41 hi082 10 hsz82 Am l.length cm ((ix : Int) + 1) (by omega) (by omega)
    simp only [Int.toNat_natCast, show ((ix : Int) + 1).toNat = ix + 1 from by omega] at hcut3 hcut2
    have hw : wrap64 ((ix : Int) + 1) = (ix : Int) + 1 := wrap_in _ (by have := hbd.2; omega)
    have hcm1 : w1.cell? (ad.add a1.toNat) = some (.slice Am l.length cm) := El.cell HBD.out hcm
    have HWITH : Aside0 (heap_with.f l0_0 a1 (l.take ix ++ l.drop (ix + 1)) = some (l0_0.set a1.toNat ((mapOf l0_0 a1).take (ix : Int).toNat ++ (mapOf l0_0 a1).drop ((ix : Int).toNat + 1)))) := ⟨by unfold heap_with.f; rw [if_pos ⟨hbd.1, hm⟩, hmap]; simp⟩
    have HFm := Aside0.mk hFm
    have HLE := Aside0.mk hle
    have HI1 := Aside0.mk hix2
    have HMX := Aside0.mk hbd.2
    have hd1 : decide (a1 < 0) = false := decide_eq_false (by omega)
    have hd3 : decide (0 ≤ a1) = true := decide_eq_true hm.1
    have hd4 : decide (a1 < (l0_0.length : Int)) = true := decide_eq_true hm.2
    obtain ⟨hm0, hm1⟩ := hm
    clear hpf hcall hpo hne hcl hK hcc hcm hl hmap hbd hFm hle hix2 hix3 hi082 hsz82 hJ HH hf
    obtain ⟨J, hJd⟩ : ∃ J, J = ix + 1 := ⟨_, rfl⟩
    rw [← hJd] at HJ hcut2 HWITH
    obtain ⟨B2, hB2⟩ : ∃ B2, B2 = (if cm = J then Am else Am.map (·.add (J * 10))) := ⟨_, rfl⟩
    rw [← hB2] at hcut2
    have HBJ := Aside0.mk hB2
    clear hJd hB2
    go_wp2
    refine start_ (n := 13) (S := fun w' => w'.cell? ⟨w.heap.size, 0, none⟩ = some (.slice (some ad) l0_0.length c0_0)) (ds := []) #[false, false, false, false, false, false, false, false, false, false, false, false, false] (by kernel_rfl) rfl rfl ?_ (fun hHeld => ?_)
    · exact (blk_cell (blk_drew D4.out) 0).trans rfl
    refine with_tabW heap_Del.tab5 heap_Del.bits5 (fun HT_ HW_ => ?_)
    have C4 := Aside0.mk (blk_drew D4.out)
    have C8 := Aside0.mk (blk_drew D8.out)
    have HBC := Aside0.mk (below_drew1 HBD.out)
    clear D4 D8 HBD
    generalize w1.drew = w12 at C4 C8 HBC hHeld ⊢
    have B4 := C4
    have B8 := C8
    have HBW := HBC
    refine pure_ (i := 1) (N := some 26) (v := ?_) (a' := ?_) #[false, true, false, false, false, false, false, false, false, false, false, false, false] rfl rfl (any_of HT_.out (by kernel_rfl)) (fun _ _ _ h => h) (Or.inl ⟨by rfl, ?_⟩) ?_ ?_
    rotate_left
    · intro w'
      go_simp
      with_reducible rfl
    rotate_left
    · simp only [Act.put, List.setIfInBounds_toArray, List.set_cons_zero, List.set_cons_succ, i64_w, i32_w]
      rfl
    refine pure_ (i := 2) (N := some 27) (v := ?_) (a' := ?_) #[false, true, true, false, false, false, false, false, false, false, false, false, false] rfl rfl (any_of HT_.out (by kernel_rfl)) (fun _ _ _ h => h) (Or.inl ⟨by rfl, ?_⟩) ?_ ?_
    rotate_left
    · intro w'
      go_simp
      with_reducible rfl
    rotate_left
    · simp only [Act.put, List.setIfInBounds_toArray, List.set_cons_zero, List.set_cons_succ, i64_w, i32_w]
      rfl
    refine pure_ (i := 3) (N := some 28) (v := ?_) (a' := ?_) #[false, true, true, true, false, false, false, false, false, false, false, false, false] rfl rfl (any_of HT_.out (by kernel_rfl)) (fun _ _ _ h => h) (Or.inl ⟨by rfl, ?_⟩) ?_ ?_
    rotate_left
    · intro w'
      go_simp
      with_reducible rfl
    rotate_left
    · simp only [Act.put, List.setIfInBounds_toArray, List.set_cons_zero, List.set_cons_succ, i64_w, i32_w]
      rfl
    refine pure_ (i := 4) (N := some 29) (v := ?_) (a' := ?_) #[false, true, true, true, true, false, false, false, false, false, false, false, false] rfl rfl (any_of HT_.out (by kernel_rfl)) (fun _ _ _ h => h) (Or.inl ⟨by rfl, ?_⟩) ?_ ?_
    rotate_left
    · intro w'
      go_simp
      with_reducible rfl
    rotate_left
    · simp only [Act.put, List.setIfInBounds_toArray, List.set_cons_zero, List.set_cons_succ, i64_w, i32_w]
      rfl
    refine pure_ (i := 6) (N := some 31) (v := ?_) (a' := ?_) #[false, true, true, true, true, false, true, false, false, false, false, false, false] rfl rfl (any_of HT_.out (by kernel_rfl)) (fun _ _ _ h => h) (Or.inl ⟨by rfl, ?_⟩) ?_ ?_
    rotate_left
    · intro w'
      go_simp
      with_reducible rfl
    rotate_left
    · simp only [Act.put, List.setIfInBounds_toArray, List.set_cons_zero, List.set_cons_succ, i64_w, i32_w]
      rfl
    refine pure_ (i := 7) (N := some 32) (v := ?_) (a' := ?_) #[false, true, true, true, true, false, true, true, false, false, false, false, false] rfl rfl (any_of HT_.out (by kernel_rfl)) (fun _ _ _ h => h) (Or.inl ⟨by rfl, ?_⟩) ?_ ?_
    rotate_left
    · intro w'
      go_simp
      with_reducible rfl
    rotate_left
    · simp only [Act.put, List.setIfInBounds_toArray, List.set_cons_zero, List.set_cons_succ, i64_w, i32_w]
      rfl
    refine pure_ (i := 8) (N := some 33) (v := ?_) (a' := ?_) #[false, true, true, true, true, false, true, true, true, false, false, false, false] rfl rfl (any_of HT_.out (by kernel_rfl)) (fun _ _ _ h => h) (Or.inl ⟨by rfl, ?_⟩) ?_ ?_
    rotate_left
    · intro w'
      go_simp
      with_reducible rfl
    rotate_left
    · simp only [Act.put, List.setIfInBounds_toArray, List.set_cons_zero, List.set_cons_succ, i64_w, i32_w]
      rfl
    refine pure_ (i := 5) (N := some 30) (v := ?_) (a' := ?_) #[false, true, true, true, true, true, true, true, true, false, false, false, false] rfl rfl (any_of HT_.out (by kernel_rfl)) (fun _ _ _ h => h) (Or.inl ⟨by rfl, ?_⟩) ?_ ?_
    rotate_left
    · intro w'
      go_simp
      with_reducible rfl
    rotate_left
    · simp only [Act.put, List.setIfInBounds_toArray, List.set_cons_zero, List.set_cons_succ, i64_w, i32_w]
      rfl
    refine pure_ (i := 9) (N := some 34) (v := ?_) (a' := ?_) #[false, true, true, true, true, true, true, true, true, true, false, false, false] rfl rfl (any_of HT_.out (by kernel_rfl)) (fun _ _ _ h => h) (Or.inl ⟨by rfl, ?_⟩) ?_ ?_
    rotate_left
    · intro w'
      go_simp
      with_reducible rfl
    rotate_left
    · simp only [Act.put, List.setIfInBounds_toArray, List.set_cons_zero, List.set_cons_succ, i64_w, i32_w]
      rfl
    refine take_ (i := 0) (N := some 25) (v := ?_) (a' := ?_) #[true, true, true, true, true, true, true, true, true, true, false, false, false] rfl rfl (take_ofW HT_.out HW_.out (by kernel_rfl)) (fun _ _ _ h => h) (Or.inl ⟨by rfl, ?_⟩) hHeld ?_ ?_
    rotate_left
    · intro w' s0
      go_simp
      with_reducible rfl
    rotate_left
    · simp only [Act.put, List.setIfInBounds_toArray, List.set_cons_zero, List.set_cons_succ, i64_w, i32_w]
      rfl
    refine one_ (i := 10) (N := some 35) #[true, true, true, true, true, true, true, true, true, true, true, false, false] rfl rfl (one_of HT_.out (by kernel_rfl)) (by decide) (fun K hK => ?_)
    refine V_append_full_step k82 (w0 := w12) w12.heap.size rfl (.tmp 30) (.tmp 34) 41 82 (.agg #[.int .i64 0, .int .i64 0, .string (⟨#[]⟩ : ByteArray), .int .i64 0, .slice none 0 0, .int .i64 0, .int .i64 0, .string (⟨#[]⟩ : ByteArray), .int .i64 0, .slice none 0 0]) 128 rfl Try.underlying41 info82 rfl (by decide) (by omega) (l.take ix) (l.drop J) Am B2 ix (l.length - J) (cm - J) (fun k_ => (P0_0_ k_ ∧ k_ < w.heap.size) ∨ w12.heap.size ≤ k_) (fun k => P0_0_ k ∧ k < w.heap.size) (fun k => P0_0_ k ∧ k < w.heap.size) rfl rfl ?_ (Kd.F_take (Kd.F_old HFm.out HBW.out) HI1.out) ?_ ?_ (fun k hk => .inl hk) (fun k hk => .inl hk) (fun k hk => .inr hk) (Below.refl _ _) (Nat.le_refl _) ?_ ?_
    · rw [List.length_take]; have := HI1.out; omega
    · have h_ := Kd.F_cut (m := J) (c := cm) (Kd.F_old HFm.out HBW.out) HJ.out HLE.out
      rw [List.length_drop] at h_
      rw [HBJ.out]
      exact h_
    · intro hA
      have h_ := Kd.F_now HFm.out
      rw [hA] at h_
      rcases Nat.eq_zero_or_pos l.length with h0 | h0
      · rw [List.length_take]; omega
      · obtain ⟨ad_, he, _⟩ := h_.2.2 h0
        cases he
    · rw [List.length_take]; have h1_ := HMX.out; have h2_ := HI1.out; omega
    intro v62 w15 ho62 hb15
    have n4 := Aside0.mk (blk_below C4.out hb15)
    have n8 := Aside0.mk (blk_below C8.out hb15)
    have nb := Aside0.mk (HBC.out.trans (hb15.mono HBC.out.size))
    clear B4 B8 HBW
    have B4 := n4
    have B8 := n8
    have HBW := nb
    clear n4 n8 nb
    have HBY := Aside0.mk hb15
    obtain ⟨A62, c62, rfl⟩ := Kd.V_slice ho62
    have HV62 := Aside0.mk (show Kd.V k82 82 w15 w15.heap.size (fun k_ => (P0_0_ k_ ∧ k_ < w.heap.size) ∨ w12.heap.size ≤ k_) (.slice A62 (l.take ix ++ l.drop J).length c62) (l.take ix ++ l.drop J) from ho62)
    clear ho62 hb15
    refine hK.out _ _ ((blk_cell B4.out 0).trans rfl) (fun hHeld => ?_)
    clear hK K
    refine norm_ (a' := ?_) ?_ ?_
    rotate_left
    · show Act.put _ (some 35) _ = _
      simp only [Act.put, List.setIfInBounds_toArray, List.set_cons_zero, List.set_cons_succ, i64_w, i32_w]
      rfl
    refine one_ (i := 11) (N := some 36) #[true, true, true, true, true, true, true, true, true, true, true, true, false] rfl rfl (one_of HT_.out (by kernel_rfl)) (by decide) (fun K hK => ?_)
    refine goes_ Try.func38 (by kernel_rfl) rfl #[.agg #[.slice (some ad) l0_0.length c0_0], .int .i64 a1, .slice A62 (l.take ix ++ l.drop J).length c62] (by rfl) rfl rfl (by (try simp only [List.map_toArray, List.map_cons, List.map_nil]); first | done | rfl | (go_simp; done) | (go_simp; simp; done)) ?_
    refine (heap_with.calls (fun k => P0_0_ k ∧ k < w.heap.size) (some ad) c0_0 l0_0 a1 (fun k_ => (P0_0_ k_ ∧ k_ < w.heap.size) ∨ w12.heap.size ≤ k_) A62 c62 (l.take ix ++ l.drop J) _ w15 (Kd.V_mk HC0.out (Kd.F_old HF0.out HBW.out)) HV62.out HWITH.out).mono ?_
    rintro e_ w16 ⟨v63, rfl, ho63, hb16⟩
    refine ⟨_, rfl, ?_⟩
    have hb16c := HBY.out.trans (hb16.mono HBY.out.size)
    have HN63 := Aside0.mk (Kd.N_mono (ok' := (fun k_ => (P0_0_ k_ ∧ k_ < w.heap.size) ∨ w12.heap.size ≤ k_)) (Kd.N_lower ho63 HBW.out.size) (fun k hk => hk.elim (fun h1 => h1.elim (fun h2 => .inl h2) id) (fun h1 => .inr (Nat.le_trans HBY.out.size h1))))
    have n4 := Aside0.mk (blk_below C4.out hb16c)
    have n8 := Aside0.mk (blk_below C8.out hb16c)
    have nb := Aside0.mk (HBC.out.trans (hb16c.mono HBC.out.size))
    clear B4 B8 HBW
    have B4 := n4
    have B8 := n8
    have HBW := nb
    clear n4 n8 nb
    clear ho63 hb16 hb16c
    refine hK.out _ _ ((blk_cell B4.out 0).trans rfl) (fun hHeld => ?_)
    clear hK K
    refine norm_ (a' := ?_) ?_ ?_
    rotate_left
    · show Act.put _ (some 36) _ = _
      simp only [Act.put, List.setIfInBounds_toArray, List.set_cons_zero, List.set_cons_succ, i64_w, i32_w]
      rfl
    refine one_ (i := 12) (N := none) #[true, true, true, true, true, true, true, true, true, true, true, true, true] rfl rfl (one_of HT_.out (by kernel_rfl)) (by decide) (fun K hK => ?_)
    obtain ⟨A63, c63, rfl⟩ := Kd.N_slice HN63.out
    have hc8 : w16.cell? ⟨w.heap.size + 1 + 1, 0, none⟩ = some (.slice none 0 0) := (blk_cell B8.out 0).trans rfl
    have hf8 := blk_frozen B8.out 0
    rw [if_pos (by rfl)]
    unfold Oper.wp
    go_simp
    obtain ⟨w17, hw17⟩ : ∃ w17, w17 = w16.setCell ⟨w.heap.size + 1 + 1, 0, none⟩ (.slice A63 l0_0.length c63) := ⟨_, rfl⟩
    rw [← hw17]
    have hP3 := (Array.getElem?_eq_some_iff.1 C8.out).1
    have n4 := Aside0.mk (show w17.heap[w.heap.size]? = _ from hw17 ▸ blk_far B4.out (by simp <;> omega) _)
    have n8 : w17.heap[w.heap.size + 1 + 1]? = some (.cells #[.slice A63 l0_0.length c63] 27 (0, 0)) := hw17 ▸ Boxed.set _ (show Boxed w16 (w.heap.size + 1 + 1) 27 (.slice none 0 0) from B8.out)
    have nb := Aside0.mk (show Below w.heap.size w w17 from hw17 ▸ HBW.out.setCell (p := ⟨w.heap.size + 1 + 1, 0, none⟩) (by simp <;> omega) _)
    have hN17 := Kd.N_mono (ok' := (fun k_ => (P0_0_ k_ ∨ w.heap.size ≤ k_))) (Kd.N_far (p := ⟨w.heap.size + 1 + 1, 0, none⟩) HN63.out (fun k hk => by rcases hk with hk | hk <;> simp <;> omega) (.slice A63 l0_0.length c63)) (fun k hk => hk.elim (fun h1 => .inl h1.1) (fun h1 => .inr (Nat.le_trans HBC.out.size h1)))
    rw [← hw17] at hN17
    have HN17 := Aside0.mk hN17
    have HN8 := Aside0.mk n8
    clear B4 hN17 n8 hc8 hf8 hP3
    have B4 := n4
    refine hK.out _ _ ((blk_cell B4.out 0).trans rfl) (fun hHeld => ?_)
    clear hK K
    refine done_ (done_of HT_.out (by kernel_rfl)) ?_
    go_wp2
    have hc9 : w17.cell? ⟨w.heap.size + 1 + 1, 0, none⟩ = some (.slice A63 l0_0.length c63) := (blk_cell HN8.out 0).trans rfl
    have HNF := HN17.out
    rw [List.length_set] at HNF
    have HVF := Kd.N_V (base' := w.heap.size) HNF
    refine bodyPost_ret (v := .agg #[.slice A63 l0_0.length c63]) ?_ rfl ⟨_, rfl, HVF, nb.out⟩
    simp [results, Try.f12, go_sem, hu27, hc9]
end Go.Proofs.Ytnokieaebnmljaa.PAll
/- copy within a row of the call's own. -/
namespace Go.Proofs.Ytnokieaebnmljaa.Bx
open Go Go.Proofs Go.RowKit Go.Proofs.YtnokieaebnmljaaW.PrintWords Go.Proofs.YtnokieaebnmljaaW.PrintLast Go.Proofs.YtnokieaebnmljaaW.PrintMore
set_option linter.unusedVariables false
set_option linter.unusedSimpArgs false
section
variable {z : Nat} {L : List (List Value)}
theorem flat_len : ∀ {L : List (List Value)}, (∀ r ∈ L, r.length = z) → L.flatten.length = L.length * z
  | [], _ => by simp
  | r :: L, h => by
    rw [List.flatten_cons, List.length_append, flat_len (L := L) (fun x hx => h x (by simp [hx])), h r (by simp), List.length_cons, Nat.add_mul, Nat.one_mul, Nat.add_comm]
theorem flat_drop : ∀ {L : List (List Value)}, (∀ r ∈ L, r.length = z) → ∀ j, L.flatten.drop (j * z) = (L.drop j).flatten
  | L, h, 0 => by simp
  | [], h, j + 1 => by simp
  | r :: L, h, j + 1 => by
    rw [List.flatten_cons, Nat.add_mul, Nat.one_mul, Nat.add_comm, List.drop_append, h r (by simp), List.drop_of_length_le (by rw [h r (by simp)]; omega), List.nil_append, Nat.add_sub_cancel_left, flat_drop (L := L) (fun x hx => h x (by simp [hx])), List.drop_succ_cons]
theorem flat_take : ∀ {L : List (List Value)}, (∀ r ∈ L, r.length = z) → ∀ j, L.flatten.take (j * z) = (L.take j).flatten
  | L, h, 0 => by simp
  | [], h, j + 1 => by simp
  | r :: L, h, j + 1 => by
    rw [List.flatten_cons, Nat.add_mul, Nat.one_mul, Nat.add_comm, List.take_append, h r (by simp), List.take_of_length_le (by rw [h r (by simp)]; omega), Nat.add_sub_cancel_left, flat_take (L := L) (fun x hx => h x (by simp [hx])), List.take_succ_cons, List.flatten_cons]
theorem flat_get (h : ∀ r ∈ L, r.length = z) {j : Nat} {r : List Value} (hj : L[j]? = some r) : (L.flatten.drop (j * z)).take z = r := by
  obtain ⟨hl, rfl⟩ := List.getElem?_eq_some_iff.1 hj
  rw [flat_drop h, List.drop_eq_getElem_cons hl, List.flatten_cons, List.take_append, h _ (List.getElem_mem hl), List.take_of_length_le (by rw [h _ (List.getElem_mem hl)]; exact Nat.le_refl _)]
  simp
theorem flat_of : ∀ {L : List (List Value)} {inner : List Value}, Reps (fun x cs => cs = x ∧ cs.length = z ∧ ∀ u ∈ cs, u.oneCell' = true) z L inner → inner = L.flatten
  | [], inner, h => by
    have := h.1
    simp at this
    simp [this]
  | r :: L, inner, h => by
    have h0 := h.2 0 r rfl
    simp only [Nat.zero_mul, List.drop_zero] at h0
    have ih := flat_of (L := L) (inner := inner.drop z) ⟨by rw [List.length_drop, h.1, List.length_cons, Nat.add_mul, Nat.one_mul]; omega, fun j p hj => by
      have := h.2 (j + 1) p hj
      rw [List.drop_drop, Nat.add_comm z, ← Nat.succ_mul]
      exact this⟩
    rw [List.flatten_cons, ← ih, ← h0.1]
    exact (List.take_append_drop _ _).symm
theorem reps_flat (h : ∀ r ∈ L, r.length = z ∧ ∀ u ∈ r, u.oneCell' = true) : Reps (fun x cs => cs = x ∧ cs.length = z ∧ ∀ u ∈ cs, u.oneCell' = true) z L L.flatten := by
  refine ⟨flat_len (fun r hr => (h r hr).1), fun j p hj => ?_⟩
  have hm := List.mem_of_getElem? hj
  rw [flat_get (fun r hr => (h r hr).1) hj]
  exact ⟨rfl, h p hm⟩
theorem reps_all {L : List (List Value)} {inner : List Value} (h : Reps (fun x cs => cs = x ∧ cs.length = z ∧ ∀ u ∈ cs, u.oneCell' = true) z L inner) : ∀ r ∈ L, r.length = z ∧ ∀ u ∈ r, u.oneCell' = true := by
  intro r hr
  obtain ⟨j, hj⟩ := List.mem_iff_getElem?.1 hr
  have := h.2 j r hj
  rw [this.1] at this
  exact this.2
end
theorem run_copy_z {P : Program} (w : World) (dT sT ty elem : TypeId) (g o dLen dCap : Nat) (a : Addr) (sLen sCap : Nat) (cur : Array Value) (t : TypeId) (cs : List Value) (z m : Nat)
    (hu : P.underlying dT = some (.slice elem)) (hs : (P.info? elem).map (·.size) = some z)
    (hg : w.heap[g]? = some (.cells cur t (0, 0))) (hm : m = Nat.min sLen dLen) (hn : cs.length = m * z)
    (hsrc : ∀ j v, cs[j]? = some v → w.cell? (a.add j) = some v) (hfit : o + cs.length ≤ cur.size) (h1 : ∀ v ∈ cs, v.oneCell' = true) :
    (Builtin.copy_ #[dT, sT] ty #[.slice (some ⟨g, o, none⟩) dLen dCap, .slice (some a) sLen sCap]).run P w =
      .ok (goInt m) (w.setRow g (cur.toList.take o ++ cs ++ cur.toList.drop (o + cs.length)).toArray) := by
  have hl := run_loadCells_list (P := P) w a cs hsrc
  have hst := run_storeCells_at P g o t cs 0 cur w hg (by simpa using hfit) h1
  cases hq : P.info? elem with
  | none => simp [hq] at hs
  | some i =>
    have hi : i.size = z := by simpa [hq] using hs
    rw [hn] at hl
    simp [Builtin.copy_, run_underlying hu, Builtin.lenOf, Builtin.firstCells, sizeOf, typeInfo, hq, hi, ← hm, hl, hst]
section
variable {α : Type} {d : Kd α} {e base n cap g : Nat} {ok : Nat → Prop} {W : World} {xs : List α} {P : Program}
theorem N_copy (h : Kd.N d e W base ok (.slice (some ⟨g, 0, none⟩) n cap) xs) (s t m : Nat) (hs : s + m ≤ n) (ht : t + m ≤ n) (dT sT ty : TypeId) (hu : P.underlying dT = some (.slice e)) (hz : (P.info? e).map (·.size) = some d.sz) (dl dc sl sc : Nat) (hm : m = Nat.min sl dl) :
    ∃ W', (Builtin.copy_ #[dT, sT] ty #[.slice (some ⟨g, t * d.sz, none⟩) dl dc, .slice (some ⟨g, s * d.sz, none⟩) sl sc]).run P W = .ok (goInt m) W' ∧ Kd.N d e W' base ok (.slice (some ⟨g, 0, none⟩) n cap) (xs.take t ++ (xs.drop s).take m ++ xs.drop (t + m)) ∧ W.grownBy W' (some g) := by
  obtain ⟨h0, rows, hl, ⟨hk, inner, ⟨ho1, ho2⟩, hr⟩, hf⟩ := h
  have hn : n = xs.length := (Kd.N_reads' ⟨h0, rows, hl, ⟨hk, inner, ⟨ho1, ho2⟩, hr⟩, hf⟩).1
  have hin := flat_of hr
  have hall := reps_all hr
  have hlen : ∀ r ∈ rows, r.length = d.sz := fun r hr' => (hall r hr').1
  rcases ho2 with ⟨hv, _⟩ | ⟨g', cap', cur, hv, hb, hh, hnc, hcm, hcs, htk⟩
  · cases hv
  injection hv with ha _ hc
  injection ha with ha
  injection ha with hg
  subst hg; subst hc
  rw [show (Kd.raw d.sz).sz = d.sz from rfl] at ho1 hcs htk
  rw [hin] at htk ho1
  have hsz : rows.length * d.sz ≤ cur.size := by rw [hcs]; exact Nat.mul_le_mul_right _ hnc
  have hgo : some g = (Value.slice (some ⟨g, 0, none⟩) n cap).ownBlock := by simp [Value.ownBlock]
  -- the seg that goes over
  have hseg : ∀ r ∈ (rows.drop s).take m, r.length = d.sz := fun r hr' => hlen r (List.mem_of_mem_drop (List.mem_of_mem_take hr'))
  have hsl : ((rows.drop s).take m).flatten.length = m * d.sz := by rw [flat_len hseg, List.length_take, List.length_drop, Nat.min_eq_left (by omega)]
  have hfitm : t * d.sz + m * d.sz ≤ rows.length * d.sz := by rw [← Nat.add_mul]; exact Nat.mul_le_mul_right _ (by omega)
  have hsrc : ∀ j v, ((rows.drop s).take m).flatten[j]? = some v → W.cell? ((⟨g, s * d.sz, none⟩ : Addr).add j) = some v := by
    intro j v hj
    have hjl : j < m * d.sz := by have := (List.getElem?_eq_some_iff.1 hj).1; omega
    rw [← flat_take (fun r hr' => hlen r (List.mem_of_mem_drop hr')), ← flat_drop hlen, List.getElem?_take, if_pos hjl, List.getElem?_drop] at hj
    rw [add_at, cell_of_row W g _ cur e (0, 0) hh]
    rw [← htk, List.getElem?_take] at hj
    split at hj
    · rw [← Array.getElem?_toList]; exact hj
    · cases hj
  have hrun := run_copy_z (P := P) W dT sT ty e g (t * d.sz) dl dc ⟨g, s * d.sz, none⟩ sl sc cur e _ d.sz m hu hz hh hm hsl hsrc (by rw [hsl]; omega) (fun v hv' => by
    obtain ⟨r, hr1, hr2⟩ := List.mem_flatten.1 hv'
    exact (hall r (List.mem_of_mem_drop (List.mem_of_mem_take hr1))).2 v hr2)
  refine ⟨_, hrun, ?_, ⟨rfl, rfl, rfl, by simp [World.setRow], fun k _ hk' => setRow_other W g k _ (fun he => hk' (by rw [he]))⟩⟩
  rw [hsl]
  have hrl : (rows.take t ++ (rows.drop s).take m ++ rows.drop (t + m)).length = rows.length := by simp; omega
  have hxl : (xs.take t ++ (xs.drop s).take m ++ xs.drop (t + m)).length = xs.length := by simp; omega
  refine ⟨h0, rows.take t ++ (rows.drop s).take m ++ rows.drop (t + m), by rw [hrl, hxl, hl], ⟨hk, (rows.take t ++ (rows.drop s).take m ++ rows.drop (t + m)).flatten, ⟨?_, .inr ⟨g, cap, _, by rw [hrl, hl, ← hn], hb, setRow_heap W g cur _ e (0, 0) hh, by rw [hrl]; exact hnc, hcm, ?_, ?_⟩⟩, ?_⟩, ?_⟩
  · rw [show (Kd.raw d.sz).sz = d.sz from rfl]
    exact flat_len (fun r hr' => by
      rcases List.mem_append.1 hr' with h2 | h2
      · rcases List.mem_append.1 h2 with h2 | h2
        · exact hlen r (List.mem_of_mem_take h2)
        · exact hseg r h2
      · exact hlen r (List.mem_of_mem_drop h2))
  · rw [show (Kd.raw d.sz).sz = d.sz from rfl, ← hcs]
    simp only [List.size_toArray, List.length_append, List.length_take, List.length_drop, hsl, Array.length_toList]
    omega
  · rw [show (Kd.raw d.sz).sz = d.sz from rfl, hrl]
    have e1 : cur.toList.take (t * d.sz) = (rows.take t).flatten := by
      rw [← flat_take hlen, ← htk, List.take_take, Nat.min_eq_left (by omega)]
    have e2 : (cur.toList.drop (t * d.sz + m * d.sz)).take (rows.length * d.sz - (t * d.sz + m * d.sz)) = (rows.drop (t + m)).flatten := by
      rw [← flat_drop hlen, ← htk, Nat.add_mul, List.drop_take]
    rw [List.flatten_append, List.flatten_append, ← e1, ← e2]
    simp only [List.take_append, List.length_append, hsl, List.length_take, Array.length_toList, Nat.min_eq_left (show t * d.sz ≤ cur.size by omega), List.take_take]
    rw [Nat.min_eq_right (show t * d.sz ≤ rows.length * d.sz by omega), List.take_of_length_le (l := ((rows.drop s).take m).flatten) (by rw [hsl]; omega)]
  · exact reps_flat (fun r hr' => by
      rcases List.mem_append.1 hr' with h2 | h2
      · rcases List.mem_append.1 h2 with h2 | h2
        · exact hall r (List.mem_of_mem_take h2)
        · exact hall r (List.mem_of_mem_drop (List.mem_of_mem_take h2))
      · exact hall r (List.mem_of_mem_drop h2))
  · intro j x c hx hc
    refine Kd.FK_step (W := W) ?_ (fun k hk' _ => setRow_other W g k _ (fun he => hk'.2 (by rw [he, hgo])))
    have key : ∃ q : Nat, xs[q]? = some x ∧ rows[q]? = some c := by
      by_cases h1 : j < t
      · refine ⟨j, ?_, ?_⟩
        · rw [List.append_assoc, List.getElem?_append_left (by rw [List.length_take]; omega), List.getElem?_take, if_pos h1] at hx; exact hx
        · rw [List.append_assoc, List.getElem?_append_left (by rw [List.length_take]; omega), List.getElem?_take, if_pos h1] at hc; exact hc
      · by_cases h2 : j < t + m
        · refine ⟨s + (j - t), ?_, ?_⟩
          · rw [List.getElem?_append_left (by simp; omega), List.getElem?_append_right (by simp; omega), List.getElem?_take, if_pos (by simp; omega), List.getElem?_drop, List.length_take, Nat.min_eq_left (by omega)] at hx; exact hx
          · rw [List.getElem?_append_left (by simp; omega), List.getElem?_append_right (by simp; omega), List.getElem?_take, if_pos (by simp; omega), List.getElem?_drop, List.length_take, Nat.min_eq_left (by omega)] at hc; exact hc
        · refine ⟨j, ?_, ?_⟩
          · rw [List.getElem?_append_right (by simp; omega), List.getElem?_drop] at hx
            rw [← hx]; congr 1; simp; omega
          · rw [List.getElem?_append_right (by simp; omega), List.getElem?_drop] at hc
            rw [← hc]; congr 1; simp; omega
    obtain ⟨q, q1, q2⟩ := key
    exact hf q x c q1 q2
end
section
variable {α : Type} {d : Kd α} {e base n cap g : Nat} {ok : Nat → Prop} {W : World} {xs : List α} {P : Program}
/-- Where nothing goes over the place may be another one (the model's cut at the very end keeps the row's own address). -/
theorem N_copy0 (h : Kd.N d e W base ok (.slice (some ⟨g, 0, none⟩) n cap) xs) (s t m : Nat) (hs : s + m ≤ n) (ht : t + m ≤ n) (dT sT ty : TypeId) (hu : P.underlying dT = some (.slice e)) (hz : (P.info? e).map (·.size) = some d.sz) (dp : Option Addr) (hdp : dp = some ⟨g, t * d.sz, none⟩ ∨ (m = 0 ∧ dp = some ⟨g, 0, none⟩)) (dl dc sl sc : Nat) (hm : m = Nat.min sl dl) :
    ∃ W', (Builtin.copy_ #[dT, sT] ty #[.slice dp dl dc, .slice (some ⟨g, s * d.sz, none⟩) sl sc]).run P W = .ok (goInt m) W' ∧ Kd.N d e W' base ok (.slice (some ⟨g, 0, none⟩) n cap) (xs.take t ++ (xs.drop s).take m ++ xs.drop (t + m)) ∧ W.grownBy W' (some g) := by
  rcases hdp with rfl | ⟨rfl, rfl⟩
  · exact N_copy h s t m hs ht dT sT ty hu hz dl dc sl sc hm
  · obtain ⟨W', h1, h2, h3⟩ := N_copy (P := P) h s 0 0 hs (Nat.zero_le _) dT sT ty hu hz dl dc sl sc hm
    rw [Nat.zero_mul] at h1
    exact ⟨W', h1, by simpa using h2, h3⟩
end
section
variable {α : Type} {d : Kd α} {e base n cap g : Nat} {ok : Nat → Prop} {W w0 : World} {xs : List α} {P : Program} {ops : Array Oper} {rest : List Oper} {o : Oper} {a : Act} {Q : Exit → Act → World → Prop}
/-- copy(l[t:], l[s:]), behind 'at_builtin': l a row of the call's own. -/
theorem copy_event (hgd : o.guard = none) (D S : Operand) (dT sT : TypeId) (ho : o.op = .call { callee := .builtin .copy, args := #[D, S], argTypes := #[dT, sT] })
    (HO : Kd.N d e W base ok (.slice (some ⟨g, 0, none⟩) n cap) xs) (s t m : Nat) (hs : s + m ≤ n) (ht : t + m ≤ n) (hu : P.underlying dT = some (.slice e)) (hz : (P.info? e).map (·.size) = some d.sz)
    {dp : Option Addr} {dl dc sl sc : Nat} (hd : a.eval D = .slice dp dl dc) (hdp : dp = some ⟨g, t * d.sz, none⟩ ∨ (m = 0 ∧ dp = some ⟨g, 0, none⟩)) (hsv : a.eval S = .slice (some ⟨g, s * d.sz, none⟩) sl sc) (hm : m = Nat.min sl dl) (HB : Below base w0 W) (hg0 : base ≤ g)
    (h : ∀ W', Kd.N d e W' base ok (.slice (some ⟨g, 0, none⟩) n cap) (xs.take t ++ (xs.drop s).take m ++ xs.drop (t + m)) → W.grownBy W' (some g) → Below base w0 W' → wpList P ops Q rest (a.put o.dst (goInt m)) W') :
    wpList P ops Q (o :: rest) a W := by
  obtain ⟨W', hrun, hN, hg⟩ := N_copy0 (P := P) HO s t m hs ht dT sT o.type hu hz dp hdp dl dc sl sc hm
  have hbs : base ≤ W.heap.size := Nat.le_trans hg0 (Nat.le_of_lt (Kd.N_lt HO g (by simp [Value.ownBlock])))
  refine wpList_plain hgd fun K hK => ?_
  unfold Oper.wp
  simp [execOp, ho, resolve, invoke, builtin, hd, hsv, hrun, Result.andThen]
  exact hK _ _ (h W' hN hg (HB.grown hg hbs (fun k hk => by cases hk; exact hg0)))
end
section
variable {α : Type} {d : Kd α} {e base n cap g : Nat} {ok : Nat → Prop} {W w0 : World} {xs : List α} {P : Program} {ops : Array Oper} {o : Oper} {a : Act} {K : Act → World → Prop} {Q : Exit → Act → World → Prop} {E : Prop}
/-- The same in a region that draws. -/
theorem copy_step (hgd : o.guard = none) (D S : Operand) (dT sT : TypeId) (ho : o.op = .call { callee := .builtin .copy, args := #[D, S], argTypes := #[dT, sT] })
    (HO : Kd.N d e W base ok (.slice (some ⟨g, 0, none⟩) n cap) xs) (s t m : Nat) (hs : s + m ≤ n) (ht : t + m ≤ n) (hu : P.underlying dT = some (.slice e)) (hz : (P.info? e).map (·.size) = some d.sz)
    {dp : Option Addr} {dl dc sl sc : Nat} (hd : a.eval D = .slice dp dl dc) (hdp : dp = some ⟨g, t * d.sz, none⟩ ∨ (m = 0 ∧ dp = some ⟨g, 0, none⟩)) (hsv : a.eval S = .slice (some ⟨g, s * d.sz, none⟩) sl sc) (hm : m = Nat.min sl dl) (HB : Below base w0 W) (hg0 : base ≤ g)
    (h : ∀ W', Kd.N d e W' base ok (.slice (some ⟨g, 0, none⟩) n cap) (xs.take t ++ (xs.drop s).take m ++ xs.drop (t + m)) → W.grownBy W' (some g) → Below base w0 W' → K (a.put o.dst (goInt m)) W') :
    if Region.wanted o (yielded ops a.tmps) = true then Oper.wp P o a W K Q else E := by
  obtain ⟨W', hrun, hN, hg⟩ := N_copy0 (P := P) HO s t m hs ht dT sT o.type hu hz dp hdp dl dc sl sc hm
  have hbs : base ≤ W.heap.size := Nat.le_trans hg0 (Nat.le_of_lt (Kd.N_lt HO g (by simp [Value.ownBlock])))
  have hw : Region.wanted o (yielded ops a.tmps) = true := by simp [Region.wanted, hgd]
  rw [if_pos hw]
  unfold Oper.wp
  simp [execOp, ho, resolve, invoke, builtin, hd, hsv, hrun, Result.andThen]
  exact h W' hN hg (HB.grown hg hbs (fun k hk => by cases hk; exact hg0))
end
end Go.Proofs.Ytnokieaebnmljaa.Bx
-- Laid by a program of this seat (wip/xprint.py over the kit's print).
namespace Go.Proofs.Ytnokieaebnmljaa.PAll
open Go.RowKit Go.Proofs.YtnokieaebnmljaaW.PrintWords Go.Proofs.YtnokieaebnmljaaW.PrintLast Go.Proofs.YtnokieaebnmljaaW.PrintMore
attribute [local go_sem] max2_int min2_int max_two min_two max_three min_three max_four min_four   -- for this text's walks alone
set_option linter.unusedVariables false
set_option linter.unusedSimpArgs false

/-! ### windlassref4_with: function 44 -/
def windlassref4_with.f (l0_0 : List (List (S82))) (a1 : Int) (l2 : List (S82)) : Option ((List (List (S82)))):=if ([] : List (List (S82))).length + l0_0.length < 5864062014805 then ((some (([] : List (List (S82))) ++ l0_0 : List (List (S82)))).bind fun y266 => (if 0 ≤ a1 then (if a1 < (y266.length : Int) then (some (y266.set (a1 : Int).toNat l2)) else (none)) else (none))) else (none)
set_option maxHeartbeats 8000000 in
set_option maxRecDepth 100000 in
theorem windlassref4_with.calls (P0_0_ : Nat → Prop) (A0_0 : Option Addr) (c0_0 : Nat) (l0_0 : List (List (S82))) (a1 : Int) (P2_ : Nat → Prop) (A2 : Option Addr) (c2 : Nat) (l2 : List (S82)) (r : List (List (S82))) (w : World) (hs0_0 : Kd.V (Kd.slice 82 k82) 41 w w.heap.size (fun k_ => P0_0_ k_) (.slice A0_0 l0_0.length c0_0) l0_0) (hs2 : Kd.V k82 82 w w.heap.size (fun k_ => P2_ k_) (.slice A2 l2.length c2) l2) (h : windlassref4_with.f l0_0 a1 l2 = some r) :
  Calls Try.prog 44 #[.agg #[.slice A0_0 l0_0.length c0_0], .int .i64 a1, .slice A2 l2.length c2] w fun e w' => ∃ v0_ : Value,e = .returned (.agg #[v0_]) ∧ Kd.N (Kd.slice 82 k82) 41 w' w.heap.size (fun k_ => ((P0_0_ k_ ∨ P2_ k_) ∨ w.heap.size ≤ k_)) v0_ r ∧ Below w.heap.size w w':=by
 have hu27:=Try.underlying27
 have HO0_0:=Aside0.mk (show Kd.V (Kd.slice 82 k82) 41 w w.heap.size (fun k_ => ((P0_0_ k_ ∨ P2_ k_) ∨ w.heap.size ≤ k_)) (.slice A0_0 l0_0.length c0_0) l0_0 from Kd.V_mono hs0_0 (fun k_ hk => .inl (.inl hk)))
 have HO2:=Aside0.mk (show Kd.V k82 82 w w.heap.size (fun k_ => ((P0_0_ k_ ∨ P2_ k_) ∨ w.heap.size ≤ k_)) (.slice A2 l2.length c2) l2 from Kd.V_mono hs2 (fun k_ hk => .inl (.inr hk)))
 have HB:=Aside0.mk (Below.refl w.heap.size w)
 have H : (if ([] : List (List (S82))).length + l0_0.length < 5864062014805 then ((some (([] : List (List (S82))) ++ l0_0 : List (List (S82)))).bind fun y266 => (if 0 ≤ a1 then (if a1 < (y266.length : Int) then (some (y266.set (a1 : Int).toNat l2)) else (none)) else (none))) else (none)) = some r:=h
 clear h
 by_cases c4 : ([] : List (List (S82))).length + l0_0.length < 5864062014805
 ·rw [if_pos c4] at H
  have LMc4:=Aside0.mk c4
  clear c4
  obtain ⟨y266,hy266⟩ : ∃ y_ : List (List (S82)),y_ = (([] : List (List (S82))) ++ l0_0):=⟨_,rfl⟩
  replace H : (if 0 ≤ a1 then (if a1 < (y266.length : Int) then (some (y266.set (a1 : Int).toNat l2)) else (none)) else (none)) = some r:=by first|(rw [hy266];with_reducible exact H)|(have H2_:=(Option.bind_some _ _).symm.trans H;rw [hy266];with_reducible exact H2_)|(have H2_:=(Option.bind_some _ _).symm.trans H;with_reducible exact H2_)|with_reducible exact H|(rw [hy266];exact H)|exact H
  have Ny266:=Aside0.mk hy266
  clear hy266
  by_cases c5 : 0 ≤ a1
  ·rw [if_pos c5] at H
   have c5b0 : decide (0 ≤ a1) = true:=decide_eq_true c5
   clear c5
   by_cases c6 : a1 < (y266.length : Int)
   ·rw [if_pos c6] at H
    have c6b0 : decide (a1 < (y266.length : Int)) = true:=decide_eq_true c6
    clear c6
    obtain ⟨y270,hy270⟩ : ∃ y_ : List (List (S82)),y_ = (y266.set (a1 : Int).toNat l2):=⟨_,rfl⟩
    replace H : (some y270) = some r:=by first|(rw [hy270];with_reducible exact H)|(have H2_:=(Option.bind_some _ _).symm.trans H;rw [hy270];with_reducible exact H2_)|(have H2_:=(Option.bind_some _ _).symm.trans H;with_reducible exact H2_)|with_reducible exact H|(rw [hy270];exact H)|exact H
    have Ny270:=Aside0.mk hy270
    clear hy270
    obtain rfl:=Option.some.inj H
    go_enter Try.func44,Try.ntmps44
    go_wp2_with (first|((with_reducible refine gate_dst (N:=3) rfl ?_);refine box_event ?hg (N:=3) ?hd (cs:=#[.slice A0_0 l0_0.length c0_0]) (t:=27) ?hr ?_;(case hd => rfl);(case hg => rfl);(case hr => first|(go_simp;done)|(go_simp;rfl));intro gb264 hg w8 hbox hb;replace HO0_0:=Aside0.mk (Kd.V_below (Kd.V_elderB (vK HO0_0) gb264 (Nat.le_of_eq hg.symm)) hb);replace HO2:=Aside0.mk (Kd.V_below (Kd.V_elderB (vK HO2) gb264 (Nat.le_of_eq hg.symm)) hb);have BK264:=Aside0.mk (hbox);have GW264:=Aside0.mk ((by rw [hg];exact (below_size (bL0 HB)) : w.heap.size ≤ gb264));have GE264:=Aside0.mk ((by rw [hg];exact (below_size (bL0 HB)) : w.heap.size ≤ gb264));replace HB:=bS HB hb;clear hb hbox hg)|((with_reducible refine gate_dst (N:=6) rfl ?_);refine box_event ?hg (N:=6) ?hd (cs:=#[.slice none 0 0]) (t:=27) ?hr ?_;(case hd => rfl);(case hg => rfl);(case hr => first|(go_simp;done)|(go_simp;rfl));intro gb265 hg w9 hbox hb;replace HO0_0:=Aside0.mk (Kd.V_below (Kd.V_elderB (vK HO0_0) gb265 (Nat.le_of_eq hg.symm)) hb);replace HO2:=Aside0.mk (Kd.V_below (Kd.V_elderB (vK HO2) gb265 (Nat.le_of_eq hg.symm)) hb);have BK265:=Aside0.mk (hbox);have GW265:=Aside0.mk ((by rw [hg];exact (below_size (bL1 HB GE264)) : w.heap.size ≤ gb265));have GE265:=Aside0.mk ((by rw [hg];exact (below_size (bL1 HB GE264)) : w.heap.size ≤ gb265));replace HB:=Aside0.mk (below_step (bL1 HB GE264) hb);have NB264_265:=Aside0.mk ((by rw [hg];exact Nat.ne_of_lt (blk_lt (bK BK264)) : gb264 ≠ gb265));have NB265_264:=Aside0.mk ((by rw [hg];exact Nat.ne_of_gt (blk_lt (bK BK264)) : gb265 ≠ gb264));replace BK264:=bB BK264 hb;clear hb hbox hg;have hnb10:=NB264_265.out;have hnc10:=NB265_264.out;have hcz11_0 : w9.cell? ⟨gb264,0,none⟩ = some (.slice A0_0 l0_0.length c0_0):=(blk_cell BK264.out 0).trans rfl;have hfz11_0:=blk_frozen BK264.out 0)|((with_reducible refine gate_builtin (b := .append) (xs:=#[(.const (.slice none 0 0)), .tmp 9]) rfl ?_);at_builtin;refine Kd.N_append_rows (Kd.slice 82 k82) (w0:=w) w.heap.size rfl (.const (.slice none 0 0)) (.tmp 9) 25 41 (.slice none 0 0) 24 rfl Try.underlying25 info41 rfl (by decide) (by omega) (.slice none 0 0) ([] : List (List (S82))) l0_0 _ _ _ (fun k_ => ((P0_0_ k_ ∨ P2_ k_) ∨ w.heap.size ≤ k_) ∧ k_ ≠ gb264 ∧ k_ ≠ gb265) (fun k_ => ((fun k_ => ((P0_0_ k_ ∨ P2_ k_) ∨ w.heap.size ≤ k_) ∧ k_ ≠ gb264 ∧ k_ ≠ gb265)) k_ ∧ some k_ ≠ (.slice none 0 0 : Value).ownBlock) rfl rfl ?aO ?aR (fun _ hk => hk) ?aF ?aB ?aS ?aL ?_;(case aR => exact (by skip;exact Kd.V_F (Kd.V_mono (ok':=(fun k_ => ((fun k_ => ((P0_0_ k_ ∨ P2_ k_) ∨ w.heap.size ≤ k_) ∧ k_ ≠ gb264 ∧ k_ ≠ gb265)) k_ ∧ some k_ ≠ (.slice none 0 0 : Value).ownBlock)) (HO0_0.out) (fun k_ hk => ⟨⟨hk.1.1,⟨hk.1.2,hk.2⟩⟩,(by simp [Value.ownBlock])⟩))));(case aB => exact (bL2 HB GE264 GE265));(case aF => exact (fun k_ hk => ⟨(.inr (Nat.le_trans (below_size (bL2 HB GE264 GE265)) hk)),Kd.freshB (bK BK264) k_ hk,Kd.freshB (bK BK265) k_ hk⟩));(case aO => exact ((Kd.N_nil _ _ _ _ (fun k_ => ((P0_0_ k_ ∨ P2_ k_) ∨ w.heap.size ≤ k_) ∧ k_ ≠ gb264 ∧ k_ ≠ gb265))));(case aS => exact (below_size (bL2 HB GE264 GE265)));(case aL => have:=LMc4.out;omega);intro v267 w12 ho hb hg hat;rw [← Ny266.out] at ho;replace HO0_0:=Aside0.mk (Kd.V_afterv (Kd.V_apart_nil (vK HO0_0)) hg hat);replace HO2:=Aside0.mk (Kd.V_afterv (Kd.V_apart_nil (vK HO2)) hg hat);replace BK264:=Aside0.mk (blk_grown (bK BK264) hg (by simp [Value.ownBlock]));replace BK265:=Aside0.mk (blk_grown (bK BK265) hg (by simp [Value.ownBlock]));replace HB:=Aside0.mk (hb);have HO268:=Aside0.mk (ho);clear ho hb hg hat;obtain ⟨Ao13,co13,eo13⟩:=Kd.N_slice HO268.out;subst eo13)|((with_reducible refine gate_dst (N:=7) rfl ?_);refine box_event ?hg (N:=7) ?hd (cs:=#[.slice none 0 0]) (t:=27) ?hr ?_;(case hd => rfl);(case hg => rfl);(case hr => first|(go_simp;done)|(go_simp;rfl));intro gb269 hg w14 hbox hb;replace HO0_0:=Aside0.mk (Kd.V_below (Kd.V_elderB (vK HO0_0) gb269 (Nat.le_of_eq hg.symm)) hb);replace HO2:=Aside0.mk (Kd.V_below (Kd.V_elderB (vK HO2) gb269 (Nat.le_of_eq hg.symm)) hb);replace HO268:=Aside0.mk (Kd.N_below (Kd.N_elderB (nK HO268) gb269 (Nat.le_of_eq hg.symm)) hb);have BK269:=Aside0.mk (hbox);have GW269:=Aside0.mk ((by rw [hg];exact (below_size (bL2 HB GE264 GE265)) : w.heap.size ≤ gb269));have GE269:=Aside0.mk ((by rw [hg];exact (below_size (bL2 HB GE264 GE265)) : w.heap.size ≤ gb269));replace HB:=Aside0.mk (below_step (bL2 HB GE264 GE265) hb);have NB264_269:=Aside0.mk ((by rw [hg];exact Nat.ne_of_lt (blk_lt (bK BK264)) : gb264 ≠ gb269));have NB269_264:=Aside0.mk ((by rw [hg];exact Nat.ne_of_gt (blk_lt (bK BK264)) : gb269 ≠ gb264));replace BK264:=bB BK264 hb;have NB265_269:=Aside0.mk ((by rw [hg];exact Nat.ne_of_lt (blk_lt (bK BK265)) : gb265 ≠ gb269));have NB269_265:=Aside0.mk ((by rw [hg];exact Nat.ne_of_gt (blk_lt (bK BK265)) : gb269 ≠ gb265));replace BK265:=bB BK265 hb;clear hb hbox hg;have hnb15:=NB269_264.out;have hnc15:=NB264_269.out;have hnb16:=NB269_265.out;have hnc16:=NB265_269.out;have hcz17_0 : w14.cell? ⟨gb269,0,none⟩ = some (.slice none 0 0):=(blk_cell BK269.out 0).trans rfl;have hfz17_0:=blk_frozen BK269.out 0)|((with_reducible refine gate_store (t:=27) (p:=7) rfl ?_);refine store_event (t:=27) (p:=7) (v:=?vo_w18) (w1:=(w14.setCell ⟨gb269,0,none⟩ (.slice Ao13 y266.length co13))) ?hg ?ho ?hn ?hr ?_;(case ho => rfl);(case hg => rfl);(case hn => rfl);(case hr => first|(go_simp;done)|(go_simp;rfl));intro w18 hw;have n0_ : Aside0 (Kd.V (Kd.slice 82 k82) 41 w18 w.heap.size (fun k_ => ((P0_0_ k_ ∨ P2_ k_) ∨ w.heap.size ≤ k_) ∧ some k_ ≠ (.slice Ao13 y266.length co13 : Value).ownBlock ∧ k_ ≠ gb264 ∧ k_ ≠ gb265 ∧ k_ ≠ gb269) (.slice A0_0 l0_0.length c0_0) l0_0):=⟨(by rw [hw];exact (by (with_reducible repeat (first|apply Kd.V_alloc|apply Kd.V_drewN|apply Kd.V_drew));exact Kd.V_mono (Kd.V_far (p:=⟨gb269,0,none⟩) (Kd.V_mono HO0_0.out (fun k_ hk => (⟨hk,hk.2⟩ : _ ∧ k_ ≠ gb269))) (fun _ hk => hk.2) (.slice Ao13 y266.length co13)) (fun _ hk => ⟨hk.1.1.1.1.1,⟨hk.1.1.2,⟨hk.1.1.1.1.2,⟨hk.1.1.1.2,hk.1.2⟩⟩⟩⟩)))⟩;have n1_ : Aside0 (Kd.V k82 82 w18 w.heap.size (fun k_ => ((P0_0_ k_ ∨ P2_ k_) ∨ w.heap.size ≤ k_) ∧ some k_ ≠ (.slice Ao13 y266.length co13 : Value).ownBlock ∧ k_ ≠ gb264 ∧ k_ ≠ gb265 ∧ k_ ≠ gb269) (.slice A2 l2.length c2) l2):=⟨(by rw [hw];exact (by (with_reducible repeat (first|apply Kd.V_alloc|apply Kd.V_drewN|apply Kd.V_drew));exact Kd.V_mono (Kd.V_far (p:=⟨gb269,0,none⟩) (Kd.V_mono HO2.out (fun k_ hk => (⟨hk,hk.2⟩ : _ ∧ k_ ≠ gb269))) (fun _ hk => hk.2) (.slice Ao13 y266.length co13)) (fun _ hk => ⟨hk.1.1.1.1.1,⟨hk.1.1.2,⟨hk.1.1.1.1.2,⟨hk.1.1.1.2,hk.1.2⟩⟩⟩⟩)))⟩;have n2_ : Aside0 (Kd.N (Kd.slice 82 k82) 41 w18 w.heap.size (fun k_ => ((P0_0_ k_ ∨ P2_ k_) ∨ w.heap.size ≤ k_) ∧ k_ ≠ gb264 ∧ k_ ≠ gb265 ∧ k_ ≠ gb269) (.slice Ao13 y266.length co13) y266):=⟨(by rw [hw];exact (by (with_reducible repeat (first|apply Kd.N_alloc|apply Kd.N_drewN|apply Kd.N_drew));exact Kd.N_mono (Kd.N_far (p:=⟨gb269,0,none⟩) (Kd.N_mono HO268.out (fun k_ hk => (⟨hk,hk.2⟩ : _ ∧ k_ ≠ gb269))) (fun _ hk => hk.2) (.slice Ao13 y266.length co13)) (fun _ hk => ⟨hk.1.1.1,⟨hk.1.1.2.1,⟨hk.1.1.2.2,hk.1.2⟩⟩⟩)))⟩;have n3_ : Aside0 (w18.heap[gb264]? = some (.cells #[.slice A0_0 l0_0.length c0_0] 27 (0,0))):=⟨(by rw [hw];exact (by (with_reducible repeat (first|refine blk_drewN ?_ _|refine blk_drew ?_|refine blk_alloc ?_ _));refine blk_far ?_ NB264_269.out _;(with_reducible repeat (first|refine blk_drewN ?_ _|refine blk_drew ?_|refine blk_alloc ?_ _));exact BK264.out))⟩;have n4_ : Aside0 (w18.heap[gb265]? = some (.cells #[.slice none 0 0] 27 (0,0))):=⟨(by rw [hw];exact (by (with_reducible repeat (first|refine blk_drewN ?_ _|refine blk_drew ?_|refine blk_alloc ?_ _));refine blk_far ?_ NB265_269.out _;(with_reducible repeat (first|refine blk_drewN ?_ _|refine blk_drew ?_|refine blk_alloc ?_ _));exact BK265.out))⟩;have n5_ : Aside0 (w18.heap[gb269]? = some (.cells #[.slice Ao13 y266.length co13] 27 (0,0))):=⟨(by rw [hw];exact (by (with_reducible repeat (first|refine blk_drewN ?_ _|refine blk_drew ?_|refine blk_alloc ?_ _));refine blk_put (cs:=#[.slice none 0 0]) ?_ 0 _ rfl;(with_reducible repeat (first|refine blk_drewN ?_ _|refine blk_drew ?_|refine blk_alloc ?_ _));exact BK269.out))⟩;have n6_ : Aside0 (Below w.heap.size w w18):=⟨(by rw [hw];exact (bL3 HB GE264 GE265 GE269))⟩;clear hw;clear HO0_0;clear HO2;clear HO268;clear BK264;clear BK265;clear BK269;clear HB;have HO0_0:=n0_;have HO2:=n1_;have HO268:=n2_;have BK264:=n3_;have BK265:=n4_;have BK269:=n5_;have HB:=n6_;clear n0_ n1_ n2_ n3_ n4_ n5_ n6_;have hcz19_0 : w18.cell? ⟨gb269,0,none⟩ = some (.slice Ao13 y266.length co13):=(blk_cell BK269.out 0).trans rfl;have hfz19_0:=blk_frozen BK269.out 0;have p7 : 0 ≤ (a1 : Int):=of_decide_eq_true aX;have q7 : (a1 : Int) < ((y266.length : Int) : Int):=of_decide_eq_true aX;obtain ⟨go7,co7,eo7,gb7,gl7,cl7,HG7⟩:=Kd.N_form HO268.out (by omega);(first|cases eo7|(injection eo7 with ea_ en_ ec_;(first|subst ea_|(injection ea_ with ea_;subst ea_));subst ec_;clear en_));have GB7:=Aside0.mk gb7;have GG7:=Aside0.mk HG7;clear gb7 gl7 HG7;obtain ⟨ce7,hcl7,hM7,hcc7,hfr7⟩:=Kd.N_elem HO268.out [] (a1 : Int) p7 q7;obtain ⟨ua7_0,uc7_0,rfl,ul7_0,ge7_0⟩:=Kd.FK_slice_open hM7;have hx7_0:=hcc7 0 _ rfl;have hf7_0:=hfr7 0;(try simp only [show ((Kd.slice 82 k82)).sz = 1 from rfl,Nat.mul_one,Nat.add_zero] at hx7_0);(try simp only [show ((Kd.slice 82 k82)).sz = 1 from rfl,Nat.mul_one,Nat.add_zero] at hf7_0);clear hcl7 hcc7 hfr7 hM7;replace p7:=eq_true p7;replace q7:=eq_true q7;have HX20:=Aside0.mk (show Kd.N (Kd.slice 82 k82) 41 w18 w.heap.size (fun k_ => ((P0_0_ k_ ∨ P2_ k_) ∨ w.heap.size ≤ k_) ∧ k_ ≠ gb264 ∧ k_ ≠ gb265 ∧ k_ ≠ gb269) (.slice (some ⟨go7,0,none⟩) y266.length co13) y266 from (nK HO268));obtain ⟨ce20,hcl20,hM20,hcc20,hfr20⟩:=Kd.N_elem HX20.out [] (a1 : Int) (of_decide_eq_true aX) (by have h_ : (a1 : Int) < ((y266.length : Int) : Int):=of_decide_eq_true aX;first|exact h_|(have e_:=(Kd.N_reads' HO268.out).1;omega)|simpa using h_);obtain ⟨ua20_0,uc20_0,rfl,ul20_0,ge20_0⟩:=Kd.FK_slice_open hM20;have HP20:=Kd.N_seg HX20.out (a1 : Int) (of_decide_eq_true aX) (by have h_ : (a1 : Int) < ((y266.length : Int) : Int):=of_decide_eq_true aX;first|exact h_|(have e_:=(Kd.N_reads' HO268.out).1;omega)|simpa using h_) (seg:=[.slice A2 l2.length c2]) (j:=0) hcl20 hcc20 (show 1 ≤ 1 from by decide) (x':=l2) (Kd.FK_slice_mk (Kd.V_reads' (Kd.V_mono (ok':=(fun k_ => ((fun k_ => ((P0_0_ k_ ∨ P2_ k_) ∨ w.heap.size ≤ k_) ∧ k_ ≠ gb264 ∧ k_ ≠ gb265 ∧ k_ ≠ gb269)) k_ ∧ k_ ≠ go7)) (HO2.out) (fun k_ hk => ⟨⟨hk.1,⟨hk.2.2.1,⟨hk.2.2.2.1,hk.2.2.2.2⟩⟩⟩,fun e_ => (hk.2.1) (by rw [e_];rfl)⟩))).2.1 (Kd.V_F (Kd.V_mono (ok':=(fun k_ => ((fun k_ => ((P0_0_ k_ ∨ P2_ k_) ∨ w.heap.size ≤ k_) ∧ k_ ≠ gb264 ∧ k_ ≠ gb265 ∧ k_ ≠ gb269)) k_ ∧ k_ ≠ go7)) (HO2.out) (fun k_ hk => ⟨⟨hk.1,⟨hk.2.2.1,⟨hk.2.2.2.1,hk.2.2.2.2⟩⟩⟩,fun e_ => (hk.2.1) (by rw [e_];rfl)⟩)))) (fun _ hk => hk);have hx20_0:=hcc20 0 _ rfl;(try simp only [show ((Kd.slice 82 k82)).sz = 1 from rfl,Nat.mul_one,Nat.add_zero] at hx20_0);have hf20_0:=hfr20 0;(try simp only [show ((Kd.slice 82 k82)).sz = 1 from rfl,Nat.mul_one,Nat.add_zero] at hf20_0);clear hcl20 hcc20 hfr20 hM20;(try simp only [show ((Kd.slice 82 k82)).sz = 1 from rfl,Nat.mul_one,Nat.add_zero] at HP20);(try simp only [show ((Kd.slice 82 k82)).sz = 1 from rfl,Nat.mul_one,Nat.add_zero] at HP20))|((with_reducible refine gate_store (t:=41) (p:=16) rfl ?_);refine store_event (t:=41) (p:=16) (v:=?vo_w21) (w1:=(w18.setCell ⟨go7,(a1 : Int).toNat,none⟩ (.slice A2 l2.length c2))) ?hg ?ho ?hn ?hr ?_;(case ho => rfl);(case hg => rfl);(case hn => rfl);(case hr => first|(go_simp;done)|(go_simp;rfl));intro w21 hw;have hg : w18.grownBy w21 (some go7):=(by rw [hw];exact HP20.2);have hp_ : Kd.N (Kd.slice 82 k82) 41 w21 w.heap.size (fun k_ => ((P0_0_ k_ ∨ P2_ k_) ∨ w.heap.size ≤ k_) ∧ k_ ≠ gb264 ∧ k_ ≠ gb265 ∧ k_ ≠ gb269) (.slice (some ⟨go7,0,none⟩) y266.length co13) y270:=(by rw [hw,Ny270.out];exact HP20.1);clear HP20;replace HO0_0:=Aside0.mk (Kd.V_afterv (v:=(.slice (some ⟨go7,0,none⟩) y266.length co13)) (v1:=(.slice (some ⟨go7,0,none⟩) y266.length co13)) (ok:=(fun k_ => ((P0_0_ k_ ∨ P2_ k_) ∨ w.heap.size ≤ k_) ∧ k_ ≠ gb264 ∧ k_ ≠ gb265 ∧ k_ ≠ gb269)) (by (with_reducible repeat (first|apply Kd.V_alloc|apply Kd.V_drewN|apply Kd.V_drew));exact Kd.V_mono HO0_0.out (fun _ hk => ⟨⟨hk.1,⟨hk.2.2.1,⟨hk.2.2.2.1,hk.2.2.2.2⟩⟩⟩,hk.2.1⟩)) hg (.inl rfl));replace HO2:=Aside0.mk (Kd.V_afterv (v:=(.slice (some ⟨go7,0,none⟩) y266.length co13)) (v1:=(.slice (some ⟨go7,0,none⟩) y266.length co13)) (ok:=(fun k_ => ((P0_0_ k_ ∨ P2_ k_) ∨ w.heap.size ≤ k_) ∧ k_ ≠ gb264 ∧ k_ ≠ gb265 ∧ k_ ≠ gb269)) (by (with_reducible repeat (first|apply Kd.V_alloc|apply Kd.V_drewN|apply Kd.V_drew));exact Kd.V_mono HO2.out (fun _ hk => ⟨⟨hk.1,⟨hk.2.2.1,⟨hk.2.2.2.1,hk.2.2.2.2⟩⟩⟩,hk.2.1⟩)) hg (.inl rfl));replace BK264:=Aside0.mk (blk_grown (bK BK264) hg (Kd.N_ne HO268.out BK264.out (by decide)));replace BK265:=Aside0.mk (blk_grown (bK BK265) hg (Kd.N_ne HO268.out BK265.out (by decide)));replace BK269:=Aside0.mk (blk_grown (bK BK269) hg (Kd.N_ne HO268.out BK269.out (by decide)));replace HO268:=Aside0.mk (hp_);replace HB:=Aside0.mk ((by rw [hw];exact below_set (HB.out) GB7.out : Below w.heap.size w w21));clear hg hw hp_;have hcz22_0 : w21.cell? ⟨gb269,0,none⟩ = some (.slice (some ⟨go7,0,none⟩) y266.length co13):=(blk_cell BK269.out 0).trans rfl;have hfz22_0:=blk_frozen BK269.out 0;have hcz23_0 : w21.cell? ⟨gb265,0,none⟩ = some (.slice none 0 0):=(blk_cell BK265.out 0).trans rfl;have hfz23_0:=blk_frozen BK265.out 0))
    refine bodyPost_ret (results_cell_row rfl _ _ gb265 27 #[.slice (some ⟨go7,0,none⟩) y266.length co13] (0,0) _ rfl (by (with_reducible repeat (first|refine blk_drewN ?_ _|refine blk_drew ?_|refine blk_alloc ?_ _));refine blk_put (cs:=#[.slice none 0 0]) ?_ 0 _ rfl;(with_reducible repeat (first|refine blk_drewN ?_ _|refine blk_drew ?_|refine blk_alloc ?_ _));exact BK265.out) Try.underlying27 rfl (by kernel_rfl)) rfl ?_
    exact ⟨_,by first|rfl|(simp [errW_none,errW_some] <;> rfl)|(simp [*,errW_none,errW_some] <;> rfl),by (with_reducible repeat (first|apply Kd.N_alloc|apply Kd.N_drewN|apply Kd.N_drew));exact Kd.N_mono (Kd.N_far (p:=⟨gb265,0,none⟩) (Kd.N_mono HO268.out (fun k_ hk => (⟨hk,hk.2.2.1⟩ : _ ∧ k_ ≠ gb265))) (fun _ hk => hk.2) (.slice (some ⟨go7,0,none⟩) y266.length co13)) (fun _ hk => hk.1.1),by repeat (first|(with_reducible first|exact HB.out|apply below_alloc|apply pw_below_drewN|apply below_drew1|refine below_set ?_ GE264.out|refine below_set ?_ GE265.out|refine below_set ?_ GE269.out)|exact HB.out)⟩
   rw [if_neg c6] at H
   exact absurd H (by simp)
  rw [if_neg c5] at H
  exact absurd H (by simp)
 rw [if_neg c4] at H
 exact absurd H (by simp)

/-! ### windlassref4_Put: function 18: its contract lies in a text of its own -/

end Go.Proofs.Ytnokieaebnmljaa.PAll
-- Laid by a program of this seat (wip/xprint.py over the kit's print).
namespace Go.Proofs.Ytnokieaebnmljaa.PAll
open Go.RowKit Go.Proofs.YtnokieaebnmljaaW.PrintWords Go.Proofs.YtnokieaebnmljaaW.PrintLast Go.Proofs.YtnokieaebnmljaaW.PrintMore
attribute [local go_sem] max2_int min2_int max_two min_two max_three min_three max_four min_four   -- for this text's walks alone
set_option linter.unusedVariables false
set_option linter.unusedSimpArgs false

theorem wrap_small (x : Int) (h0 : 0 ≤ x) (h1 : x < 9223372036854775808) : IntKind.i64.wrap x = x:=by
 rw [i64_w];unfold wrap64;omega
/-- A row whose elements from a place on go one further; the last is lost. -/
def shiftRow (l : List (S82)) (i : Int) : List (S82):=l.take (i.toNat + 1) ++ (l.drop i.toNat).take (l.length - (i.toNat + 1)) ++ l.drop (i.toNat + 1 + (l.length - (i.toNat + 1)))
theorem shiftRow_length (l : List (S82)) (i : Int) : (shiftRow l i).length = l.length:=by
 unfold shiftRow
 simp only [List.length_append,List.length_take,List.length_drop]
 omega
/-! ### windlassref4_Put: function 18 -/
def windlassref4_Put.j0 : Nat → Int → Bool → List (List (S82)) → Int → Int → ByteArray → Int → List (S35) → Int → Int → ByteArray → Int → List (S35) → Option ((List (List (S82))) × Int)
 | 0,_,_,_,_,_,_,_,_,_,_,_,_,_ => none
 | k + 1,x1,x21,x272000,x273000,x273001,x273002,x273003,x273004,x274000,x274001,x274002,x274003,x274004 => if x21 = true then (some (([] : List (List (S82))),42)) else ((windlassref4_at.f k x272000 x1 x273000 x273001 x273002 x273003 x273004).bind fun bt275 => (if 0 ≤ x1 then (if x1 < (x272000.length : Int) then (if ([] : List (S82)).length + (rd_L4 x272000 x1).length < 1099511627776 then ((some (([] : List (S82)) ++ (rd_L4 x272000 x1) : List (S82))).bind fun y278 => (if bt275.2 = true then (if 0 ≤ bt275.1 then (if bt275.1 < (y278.length : Int) then ((windlassref4_with.f x272000 x1 (y278.set (bt275.1 : Int).toNat (⟨(⟨(rd_T82 y278 bt275.1).f0.f0,(rd_T82 y278 bt275.1).f0.f1,(rd_T82 y278 bt275.1).f0.f2,(rd_T82 y278 bt275.1).f0.f3,(rd_T82 y278 bt275.1).f0.f4⟩ : S35),(⟨x274000,x274001,x274002,x274003,x274004⟩ : S35)⟩ : S82))).bind fun t282 => (some (t282,0))) else (none)) else (none)) else (if (y278.length : Int) ≥ 24 then (some (([] : List (List (S82))),41)) else (if y278.length < 1099511627776 then ((some (y278 ++ [(⟨(⟨0,0,(⟨#[]⟩ : ByteArray),0,([] : List (S35))⟩ : S35),(⟨0,0,(⟨#[]⟩ : ByteArray),0,([] : List (S35))⟩ : S35)⟩ : S82)] : List (S82))).bind fun y285 => (if 0 ≤ bt275.1 then (if bt275.1 < (y285.length : Int) then ((windlassref4_with.f x272000 x1 ((shiftRow y285 bt275.1).set (bt275.1 : Int).toNat (⟨(⟨x273000,x273001,x273002,x273003,x273004⟩ : S35),(⟨x274000,x274001,x274002,x274003,x274004⟩ : S35)⟩ : S82))).bind fun t289 => (some (t289,0))) else (none)) else (none))) else (none))))) else (none)) else (none)) else (none)))
def windlassref4_Put.f (k : Nat) (l0_0 : List (List (S82))) (a1 : Int) (a2_0 : Int) (a2_1 : Int) (a2_2 : ByteArray) (a2_3 : Int) (l2_4 : List (S35)) (a3_0 : Int) (a3_1 : Int) (a3_2 : ByteArray) (a3_3 : Int) (l3_4 : List (S35)) : Option ((List (List (S82))) × Int):=if a1 < 0 then (windlassref4_Put.j0 k a1 true l0_0 a2_0 a2_1 a2_2 a2_3 l2_4 a3_0 a3_1 a3_2 a3_3 l3_4) else (windlassref4_Put.j0 k a1 (decide (a1 ≥ (l0_0.length : Int))) l0_0 a2_0 a2_1 a2_2 a2_3 l2_4 a3_0 a3_1 a3_2 a3_3 l3_4)
def rput.T11 : Bool × List (List Nat × List Nat):=(true,[([],[]),([],[]),([1],[1]),([0,2],[0,2]),([],[]),([],[]),([4,5],[4,5]),([3,6],[3,6])])
def rput.B11 : List Nat:=[0,0,2,7,0,0,48,127]
theorem rput.tab11 : rtab .any (opsOf Try.f18 11) = rput.T11:=by kernel_rfl
theorem rput.bits11 : waitsOk rput.T11.2 rput.B11 = true:=by kernel_rfl
set_option maxHeartbeats 8000000 in
set_option maxRecDepth 100000 in
theorem windlassref4_Put.calls (k : Nat) (P0_0_ : Nat → Prop) (A0_0 : Option Addr) (c0_0 : Nat) (l0_0 : List (List (S82))) (a1 : Int) (a2_0 : Int) (a2_1 : Int) (a2_2 : ByteArray) (a2_3 : Int) (P2_4_ : Nat → Prop) (A2_4 : Option Addr) (c2_4 : Nat) (l2_4 : List (S35)) (a3_0 : Int) (a3_1 : Int) (a3_2 : ByteArray) (a3_3 : Int) (P3_4_ : Nat → Prop) (A3_4 : Option Addr) (c3_4 : Nat) (l3_4 : List (S35)) (r1 : List (List (S82))) (r2 : Int) (w : World) (hs0_0 : Kd.V (Kd.slice 82 k82) 41 w w.heap.size (fun k_ => P0_0_ k_) (.slice A0_0 l0_0.length c0_0) l0_0) (hs2_4 : Kd.V k35 35 w w.heap.size (fun k_ => P2_4_ k_) (.slice A2_4 l2_4.length c2_4) l2_4) (hs3_4 : Kd.V k35 35 w w.heap.size (fun k_ => P3_4_ k_) (.slice A3_4 l3_4.length c3_4) l3_4) (h : windlassref4_Put.f k l0_0 a1 a2_0 a2_1 a2_2 a2_3 l2_4 a3_0 a3_1 a3_2 a3_3 l3_4 = some (r1,r2)) :
  Calls Try.prog 18 #[.agg #[.slice A0_0 l0_0.length c0_0], .int .i64 a1, .agg #[.int .i64 a2_0, .int .i64 a2_1, .string a2_2, .int .i64 a2_3, .slice A2_4 l2_4.length c2_4], .agg #[.int .i64 a3_0, .int .i64 a3_1, .string a3_2, .int .i64 a3_3, .slice A3_4 l3_4.length c3_4]] w fun e w' => ∃ v0_ : Value,e = .returned (.tuple #[.agg #[v0_], .int .i64 r2]) ∧ Kd.N (Kd.slice 82 k82) 41 w' w.heap.size (fun k_ => ((P0_0_ k_ ∨ P2_4_ k_ ∨ P3_4_ k_) ∨ w.heap.size ≤ k_)) v0_ r1 ∧ Below w.heap.size w w':=by
 have hu27:=Try.underlying27
 have hu35:=Try.underlying35
 have hu82:=Try.underlying82
 have HO0_0:=Aside0.mk (show Kd.V (Kd.slice 82 k82) 41 w w.heap.size (fun k_ => ((P0_0_ k_ ∨ P2_4_ k_ ∨ P3_4_ k_) ∨ w.heap.size ≤ k_)) (.slice A0_0 l0_0.length c0_0) l0_0 from Kd.V_mono hs0_0 (fun k_ hk => .inl (.inl hk)))
 have HO2_4:=Aside0.mk (show Kd.V k35 35 w w.heap.size (fun k_ => ((P0_0_ k_ ∨ P2_4_ k_ ∨ P3_4_ k_) ∨ w.heap.size ≤ k_)) (.slice A2_4 l2_4.length c2_4) l2_4 from Kd.V_mono hs2_4 (fun k_ hk => .inl (.inr (.inl hk))))
 have HO3_4:=Aside0.mk (show Kd.V k35 35 w w.heap.size (fun k_ => ((P0_0_ k_ ∨ P2_4_ k_ ∨ P3_4_ k_) ∨ w.heap.size ≤ k_)) (.slice A3_4 l3_4.length c3_4) l3_4 from Kd.V_mono hs3_4 (fun k_ hk => .inl (.inr (.inr hk))))
 have HB:=Aside0.mk (Below.refl w.heap.size w)
 have H : (if a1 < 0 then (windlassref4_Put.j0 k a1 true l0_0 a2_0 a2_1 a2_2 a2_3 l2_4 a3_0 a3_1 a3_2 a3_3 l3_4) else (windlassref4_Put.j0 k a1 (decide (a1 ≥ (l0_0.length : Int))) l0_0 a2_0 a2_1 a2_2 a2_3 l2_4 a3_0 a3_1 a3_2 a3_3 l3_4)) = some (r1,r2):=h
 clear h
 have HC5:=Aside0.mk H
 clear H
 go_enter Try.func18,Try.ntmps18
 go_upto_region 1 with (first|((with_reducible refine gate_dst (N:=4) rfl ?_);(try (refine gate_guard (by rfl) ?_;dsimp only));refine box_event ?hg (N:=4) ?hd (cs:=#[.slice A0_0 l0_0.length c0_0]) (t:=27) ?hr ?_;(case hd => rfl);(case hg => rfl);(case hr => first|(go_simp;done)|(go_simp;rfl));intro gb271 hg w6 hbox hb;replace HO0_0:=Aside0.mk (Kd.V_below (Kd.V_elderB (vK HO0_0) gb271 (Nat.le_of_eq hg.symm)) hb);replace HO2_4:=Aside0.mk (Kd.V_below (Kd.V_elderB (vK HO2_4) gb271 (Nat.le_of_eq hg.symm)) hb);replace HO3_4:=Aside0.mk (Kd.V_below (Kd.V_elderB (vK HO3_4) gb271 (Nat.le_of_eq hg.symm)) hb);have BK271:=Aside0.mk (hbox);have GW271:=Aside0.mk ((by rw [hg];exact (below_size (bL0 HB)) : w.heap.size ≤ gb271));have GE271:=Aside0.mk ((by rw [hg];exact (below_size (bL0 HB)) : w.heap.size ≤ gb271));replace HB:=bS HB hb;clear hb hbox hg)|((with_reducible refine gate_dst (N:=6) rfl ?_);(try (refine gate_guard (by rfl) ?_;dsimp only));refine box_event ?hg (N:=6) ?hd (cs:=#[.int .i64 a2_0, .int .i64 a2_1, .string a2_2, .int .i64 a2_3, .slice A2_4 l2_4.length c2_4]) (t:=35) ?hr ?_;(case hd => rfl);(case hg => rfl);(case hr => first|(go_simp;done)|(go_simp;rfl));intro gb272 hg w7 hbox hb;replace HO0_0:=Aside0.mk (Kd.V_below (Kd.V_elderB (vK HO0_0) gb272 (Nat.le_of_eq hg.symm)) hb);replace HO2_4:=Aside0.mk (Kd.V_below (Kd.V_elderB (vK HO2_4) gb272 (Nat.le_of_eq hg.symm)) hb);replace HO3_4:=Aside0.mk (Kd.V_below (Kd.V_elderB (vK HO3_4) gb272 (Nat.le_of_eq hg.symm)) hb);have BK272:=Aside0.mk (hbox);have GW272:=Aside0.mk ((by rw [hg];exact (below_size (bL1 HB GE271)) : w.heap.size ≤ gb272));have GE272:=Aside0.mk ((by rw [hg];exact (below_size (bL1 HB GE271)) : w.heap.size ≤ gb272));replace HB:=Aside0.mk (below_step (bL1 HB GE271) hb);have NB271_272:=Aside0.mk ((by rw [hg];exact Nat.ne_of_lt (blk_lt (bK BK271)) : gb271 ≠ gb272));have NB272_271:=Aside0.mk ((by rw [hg];exact Nat.ne_of_gt (blk_lt (bK BK271)) : gb272 ≠ gb271));replace BK271:=bB BK271 hb;clear hb hbox hg)|((with_reducible refine gate_dst (N:=7) rfl ?_);(try (refine gate_guard (by rfl) ?_;dsimp only));refine box_event ?hg (N:=7) ?hd (cs:=#[.int .i64 a3_0, .int .i64 a3_1, .string a3_2, .int .i64 a3_3, .slice A3_4 l3_4.length c3_4]) (t:=35) ?hr ?_;(case hd => rfl);(case hg => rfl);(case hr => first|(go_simp;done)|(go_simp;rfl));intro gb273 hg w8 hbox hb;replace HO0_0:=Aside0.mk (Kd.V_below (Kd.V_elderB (vK HO0_0) gb273 (Nat.le_of_eq hg.symm)) hb);replace HO2_4:=Aside0.mk (Kd.V_below (Kd.V_elderB (vK HO2_4) gb273 (Nat.le_of_eq hg.symm)) hb);replace HO3_4:=Aside0.mk (Kd.V_below (Kd.V_elderB (vK HO3_4) gb273 (Nat.le_of_eq hg.symm)) hb);have BK273:=Aside0.mk (hbox);have GW273:=Aside0.mk ((by rw [hg];exact (below_size (bL2 HB GE271 GE272)) : w.heap.size ≤ gb273));have GE273:=Aside0.mk ((by rw [hg];exact (below_size (bL2 HB GE271 GE272)) : w.heap.size ≤ gb273));replace HB:=Aside0.mk (below_step (bL2 HB GE271 GE272) hb);have NB271_273:=Aside0.mk ((by rw [hg];exact Nat.ne_of_lt (blk_lt (bK BK271)) : gb271 ≠ gb273));have NB273_271:=Aside0.mk ((by rw [hg];exact Nat.ne_of_gt (blk_lt (bK BK271)) : gb273 ≠ gb271));replace BK271:=bB BK271 hb;have NB272_273:=Aside0.mk ((by rw [hg];exact Nat.ne_of_lt (blk_lt (bK BK272)) : gb272 ≠ gb273));have NB273_272:=Aside0.mk ((by rw [hg];exact Nat.ne_of_gt (blk_lt (bK BK272)) : gb273 ≠ gb272));replace BK272:=bB BK272 hb;clear hb hbox hg)|((with_reducible refine gate_dst (N:=8) rfl ?_);(try (refine gate_guard (by rfl) ?_;dsimp only));refine box_event ?hg (N:=8) ?hd (cs:=#[.slice none 0 0]) (t:=27) ?hr ?_;(case hd => rfl);(case hg => rfl);(case hr => first|(go_simp;done)|(go_simp;rfl));intro gb274 hg w9 hbox hb;replace HO0_0:=Aside0.mk (Kd.V_below (Kd.V_elderB (vK HO0_0) gb274 (Nat.le_of_eq hg.symm)) hb);replace HO2_4:=Aside0.mk (Kd.V_below (Kd.V_elderB (vK HO2_4) gb274 (Nat.le_of_eq hg.symm)) hb);replace HO3_4:=Aside0.mk (Kd.V_below (Kd.V_elderB (vK HO3_4) gb274 (Nat.le_of_eq hg.symm)) hb);have BK274:=Aside0.mk (hbox);have GW274:=Aside0.mk ((by rw [hg];exact (below_size (bL3 HB GE271 GE272 GE273)) : w.heap.size ≤ gb274));have GE274:=Aside0.mk ((by rw [hg];exact (below_size (bL3 HB GE271 GE272 GE273)) : w.heap.size ≤ gb274));replace HB:=Aside0.mk (below_step (bL3 HB GE271 GE272 GE273) hb);have NB271_274:=Aside0.mk ((by rw [hg];exact Nat.ne_of_lt (blk_lt (bK BK271)) : gb271 ≠ gb274));have NB274_271:=Aside0.mk ((by rw [hg];exact Nat.ne_of_gt (blk_lt (bK BK271)) : gb274 ≠ gb271));replace BK271:=bB BK271 hb;have NB272_274:=Aside0.mk ((by rw [hg];exact Nat.ne_of_lt (blk_lt (bK BK272)) : gb272 ≠ gb274));have NB274_272:=Aside0.mk ((by rw [hg];exact Nat.ne_of_gt (blk_lt (bK BK272)) : gb274 ≠ gb272));replace BK272:=bB BK272 hb;have NB273_274:=Aside0.mk ((by rw [hg];exact Nat.ne_of_lt (blk_lt (bK BK273)) : gb273 ≠ gb274));have NB274_273:=Aside0.mk ((by rw [hg];exact Nat.ne_of_gt (blk_lt (bK BK273)) : gb274 ≠ gb273));replace BK273:=bB BK273 hb;clear hb hbox hg))
 (try go_frame)
 go_cut [21] (fun v21 wc => ∃ (kq : Nat) (x21_4 : Bool),v21 = .bool x21_4 ∧ Aside0 (windlassref4_Put.j0 kq a1 x21_4 l0_0 a2_0 a2_1 a2_2 a2_3 l2_4 a3_0 a3_1 a3_2 a3_3 l3_4 = some (r1,r2)) ∧ Aside0 (kq ≤ k) ∧ Aside0 (Kd.V (Kd.slice 82 k82) 41 wc w.heap.size (fun k_ => ((P0_0_ k_ ∨ P2_4_ k_ ∨ P3_4_ k_) ∨ w.heap.size ≤ k_) ∧ k_ ≠ gb271 ∧ k_ ≠ gb272 ∧ k_ ≠ gb273 ∧ k_ ≠ gb274) (.slice A0_0 l0_0.length c0_0) l0_0) ∧ Aside0 (Kd.V k35 35 wc w.heap.size (fun k_ => ((P0_0_ k_ ∨ P2_4_ k_ ∨ P3_4_ k_) ∨ w.heap.size ≤ k_) ∧ k_ ≠ gb271 ∧ k_ ≠ gb272 ∧ k_ ≠ gb273 ∧ k_ ≠ gb274) (.slice A2_4 l2_4.length c2_4) l2_4) ∧ Aside0 (Kd.V k35 35 wc w.heap.size (fun k_ => ((P0_0_ k_ ∨ P2_4_ k_ ∨ P3_4_ k_) ∨ w.heap.size ≤ k_) ∧ k_ ≠ gb271 ∧ k_ ≠ gb272 ∧ k_ ≠ gb273 ∧ k_ ≠ gb274) (.slice A3_4 l3_4.length c3_4) l3_4) ∧ Aside0 (wc.heap[gb271]? = some (.cells #[(.slice A0_0 l0_0.length c0_0)] 27 (0,0))) ∧ Aside0 (wc.heap[gb272]? = some (.cells #[.int .i64 a2_0, .int .i64 a2_1, .string a2_2, .int .i64 a2_3,(.slice A2_4 l2_4.length c2_4)] 35 (0,0))) ∧ Aside0 (wc.heap[gb273]? = some (.cells #[.int .i64 a3_0, .int .i64 a3_1, .string a3_2, .int .i64 a3_3,(.slice A3_4 l3_4.length c3_4)] 35 (0,0))) ∧ Aside0 (wc.heap[gb274]? = some (.cells #[(.slice none 0 0)] 27 (0,0))) ∧ Aside0 (Below w.heap.size w wc))
 case first =>
  have H:=HC5.out
  clear HC5
  by_cases c10 : a1 < 0
  ·rw [if_pos c10] at H
   have c10b0 : decide (a1 < 0) = true:=decide_eq_true c10
   clear c10
   (first|rw [c10b0]|(simp only [i64_w,i32_w];rw [c10b0])|skip)
   have H':=Aside0.mk H
   clear H
   go_wp2
   go_meet
   case rel => exact ⟨_,(true),(by first|rfl|(simp;done)|(simp [*];done)),H',⟨by first|omega|exact Nat.le_refl _⟩,⟨by (with_reducible repeat (first|apply Kd.V_alloc|apply Kd.V_drewN|apply Kd.V_drew));exact Kd.V_mono HO0_0.out (fun _ hk => ⟨hk.1.1.1.1,⟨hk.1.1.1.2,⟨hk.1.1.2,⟨hk.1.2,hk.2⟩⟩⟩⟩)⟩,⟨by (with_reducible repeat (first|apply Kd.V_alloc|apply Kd.V_drewN|apply Kd.V_drew));exact Kd.V_mono HO2_4.out (fun _ hk => ⟨hk.1.1.1.1,⟨hk.1.1.1.2,⟨hk.1.1.2,⟨hk.1.2,hk.2⟩⟩⟩⟩)⟩,⟨by (with_reducible repeat (first|apply Kd.V_alloc|apply Kd.V_drewN|apply Kd.V_drew));exact Kd.V_mono HO3_4.out (fun _ hk => ⟨hk.1.1.1.1,⟨hk.1.1.1.2,⟨hk.1.1.2,⟨hk.1.2,hk.2⟩⟩⟩⟩)⟩,⟨by (with_reducible repeat (first|refine blk_drewN ?_ _|refine blk_drew ?_|refine blk_alloc ?_ _));exact BK271.out⟩,⟨by (with_reducible repeat (first|refine blk_drewN ?_ _|refine blk_drew ?_|refine blk_alloc ?_ _));exact BK272.out⟩,⟨by (with_reducible repeat (first|refine blk_drewN ?_ _|refine blk_drew ?_|refine blk_alloc ?_ _));exact BK273.out⟩,⟨by (with_reducible repeat (first|refine blk_drewN ?_ _|refine blk_drew ?_|refine blk_alloc ?_ _));exact BK274.out⟩,⟨by repeat (first|(with_reducible first|exact HB.out|apply below_alloc|apply pw_below_drewN|apply below_drew1|refine below_set ?_ GE271.out|refine below_set ?_ GE272.out|refine below_set ?_ GE273.out|refine below_set ?_ GE274.out)|exact HB.out)⟩⟩
  rw [if_neg c10] at H
  have c10b0 : decide (a1 < 0) = false:=decide_eq_false c10
  clear c10
  (first|rw [c10b0]|(simp only [i64_w,i32_w];rw [c10b0])|skip)
  have H':=Aside0.mk H
  clear H
  have hnb11:=NB271_272.out
  have hnc11:=NB272_271.out
  have hnb12:=NB271_273.out
  have hnc12:=NB273_271.out
  have hnb13:=NB271_274.out
  have hnc13:=NB274_271.out
  have hcz14_0 : w9.cell? ⟨gb271,0,none⟩ = some (.slice A0_0 l0_0.length c0_0):=(blk_cell BK271.out 0).trans rfl
  have hfz14_0:=blk_frozen BK271.out 0
  go_wp2
  go_meet
  case rel => exact ⟨_,(decide (a1 ≥ (l0_0.length : Int))),(by first|rfl|(simp;done)|(simp [*];done)),H',⟨by first|omega|exact Nat.le_refl _⟩,⟨by (with_reducible repeat (first|apply Kd.V_alloc|apply Kd.V_drewN|apply Kd.V_drew));exact Kd.V_mono HO0_0.out (fun _ hk => ⟨hk.1.1.1.1,⟨hk.1.1.1.2,⟨hk.1.1.2,⟨hk.1.2,hk.2⟩⟩⟩⟩)⟩,⟨by (with_reducible repeat (first|apply Kd.V_alloc|apply Kd.V_drewN|apply Kd.V_drew));exact Kd.V_mono HO2_4.out (fun _ hk => ⟨hk.1.1.1.1,⟨hk.1.1.1.2,⟨hk.1.1.2,⟨hk.1.2,hk.2⟩⟩⟩⟩)⟩,⟨by (with_reducible repeat (first|apply Kd.V_alloc|apply Kd.V_drewN|apply Kd.V_drew));exact Kd.V_mono HO3_4.out (fun _ hk => ⟨hk.1.1.1.1,⟨hk.1.1.1.2,⟨hk.1.1.2,⟨hk.1.2,hk.2⟩⟩⟩⟩)⟩,⟨by (with_reducible repeat (first|refine blk_drewN ?_ _|refine blk_drew ?_|refine blk_alloc ?_ _));exact BK271.out⟩,⟨by (with_reducible repeat (first|refine blk_drewN ?_ _|refine blk_drew ?_|refine blk_alloc ?_ _));exact BK272.out⟩,⟨by (with_reducible repeat (first|refine blk_drewN ?_ _|refine blk_drew ?_|refine blk_alloc ?_ _));exact BK273.out⟩,⟨by (with_reducible repeat (first|refine blk_drewN ?_ _|refine blk_drew ?_|refine blk_alloc ?_ _));exact BK274.out⟩,⟨by repeat (first|(with_reducible first|exact HB.out|apply below_alloc|apply pw_below_drewN|apply below_drew1|refine below_set ?_ GE271.out|refine below_set ?_ GE272.out|refine below_set ?_ GE273.out|refine below_set ?_ GE274.out)|exact HB.out)⟩⟩
 case rest =>
  clear HC5
  try clear c1
  try clear c2
  try clear p2
  try clear c3
  try clear c10
  try clear c10b0
  try clear c11
  try clear c12
  try clear c13
  try clear hcz14_0
  try clear hfz14_0
  obtain ⟨kq,x21_4,rfl,HA,HJ4,HO_272000,HO_273004,HO_274004,BK271,BK272,BK273,BK274,HB⟩:=hcut
  cases kq with
  | zero => exact absurd HA.out (by simp [windlassref4_Put.j0])
  | succ kj4 =>
   have H:=HA.out
   clear HA
   simp only [windlassref4_Put.j0] at H
   by_cases c15 : x21_4 = true
   ·subst c15
    have H1 : (some (([] : List (List (S82))),42)) = some (r1,r2):=by rw [if_pos rfl] at H;exact H
    clear H
    have H:=H1
    clear H1
    simp only [Option.some.injEq,Prod.mk.injEq] at H
    obtain ⟨rfl,rfl⟩:=H
    have hnb16:=NB274_271.out
    have hnc16:=NB271_274.out
    have hnb17:=NB274_272.out
    have hnc17:=NB272_274.out
    have hnb18:=NB274_273.out
    have hnc18:=NB273_274.out
    have hcz19_0 : wc.cell? ⟨gb274,0,none⟩ = some (.slice none 0 0):=(blk_cell BK274.out 0).trans rfl
    have hfz19_0:=blk_frozen BK274.out 0
    go_wp2
    refine bodyPost_ret (results_ct rfl _ _ gb274 27 #[.slice none 0 0] (0,0) _ rfl (by (with_reducible repeat (first|refine blk_drewN ?_ _|refine blk_drew ?_|refine blk_alloc ?_ _));refine blk_put (cs:=#[.slice none 0 0]) ?_ 0 _ rfl;(with_reducible repeat (first|refine blk_drewN ?_ _|refine blk_drew ?_|refine blk_alloc ?_ _));exact BK274.out) Try.underlying27 rfl (by kernel_rfl)) rfl ?_
    exact ⟨_,by first|rfl|(simp [errW_none,errW_some] <;> rfl)|(simp [*,errW_none,errW_some] <;> rfl),by first|exact Kd.R_nil _ _ _ _ _|exact Kd.N_nil _ _ _ _ _|exact Kd.V_nil _ _ _ _ _|exact Kd.Q_nil _ _ _ _ _|exact Kd.S_nil _ _ _ _ _,by repeat (first|(with_reducible first|exact HB.out|apply below_alloc|apply pw_below_drewN|apply below_drew1|refine below_set ?_ GE271.out|refine below_set ?_ GE272.out|refine below_set ?_ GE273.out|refine below_set ?_ GE274.out)|exact HB.out)⟩
   replace c15:=Bool.eq_false_iff.mpr c15
   subst c15
   have H1 : ((windlassref4_at.f kj4 l0_0 a1 a2_0 a2_1 a2_2 a2_3 l2_4).bind fun bt275 => (if 0 ≤ a1 then (if a1 < (l0_0.length : Int) then (if ([] : List (S82)).length + (rd_L4 l0_0 a1).length < 1099511627776 then ((some (([] : List (S82)) ++ (rd_L4 l0_0 a1) : List (S82))).bind fun y278 => (if bt275.2 = true then (if 0 ≤ bt275.1 then (if bt275.1 < (y278.length : Int) then ((windlassref4_with.f l0_0 a1 (y278.set (bt275.1 : Int).toNat (⟨(⟨(rd_T82 y278 bt275.1).f0.f0,(rd_T82 y278 bt275.1).f0.f1,(rd_T82 y278 bt275.1).f0.f2,(rd_T82 y278 bt275.1).f0.f3,(rd_T82 y278 bt275.1).f0.f4⟩ : S35),(⟨a3_0,a3_1,a3_2,a3_3,l3_4⟩ : S35)⟩ : S82))).bind fun t282 => (some (t282,0))) else (none)) else (none)) else (if (y278.length : Int) ≥ 24 then (some (([] : List (List (S82))),41)) else (if y278.length < 1099511627776 then ((some (y278 ++ [(⟨(⟨0,0,(⟨#[]⟩ : ByteArray),0,([] : List (S35))⟩ : S35),(⟨0,0,(⟨#[]⟩ : ByteArray),0,([] : List (S35))⟩ : S35)⟩ : S82)] : List (S82))).bind fun y285 => (if 0 ≤ bt275.1 then (if bt275.1 < (y285.length : Int) then ((windlassref4_with.f l0_0 a1 ((shiftRow y285 bt275.1).set (bt275.1 : Int).toNat (⟨(⟨a2_0,a2_1,a2_2,a2_3,l2_4⟩ : S35),(⟨a3_0,a3_1,a3_2,a3_3,l3_4⟩ : S35)⟩ : S82))).bind fun t289 => (some (t289,0))) else (none)) else (none))) else (none))))) else (none)) else (none)) else (none))) = some (r1,r2):=by rw [if_neg (show ¬ (false = true) by decide)] at H;exact H
   clear H
   have H:=H1
   clear H1
   replace H:=Option.bind_eq_some_iff.mp H
   obtain ⟨⟨t275,t276⟩,A200,H⟩:=H
   replace H : (if 0 ≤ a1 then (if a1 < (l0_0.length : Int) then (if ([] : List (S82)).length + (rd_L4 l0_0 a1).length < 1099511627776 then ((some (([] : List (S82)) ++ (rd_L4 l0_0 a1) : List (S82))).bind fun y278 => (if t276 = true then (if 0 ≤ t275 then (if t275 < (y278.length : Int) then ((windlassref4_with.f l0_0 a1 (y278.set (t275 : Int).toNat (⟨(⟨(rd_T82 y278 t275).f0.f0,(rd_T82 y278 t275).f0.f1,(rd_T82 y278 t275).f0.f2,(rd_T82 y278 t275).f0.f3,(rd_T82 y278 t275).f0.f4⟩ : S35),(⟨a3_0,a3_1,a3_2,a3_3,l3_4⟩ : S35)⟩ : S82))).bind fun t282 => (some (t282,0))) else (none)) else (none)) else (if (y278.length : Int) ≥ 24 then (some (([] : List (List (S82))),41)) else (if y278.length < 1099511627776 then ((some (y278 ++ [(⟨(⟨0,0,(⟨#[]⟩ : ByteArray),0,([] : List (S35))⟩ : S35),(⟨0,0,(⟨#[]⟩ : ByteArray),0,([] : List (S35))⟩ : S35)⟩ : S82)] : List (S82))).bind fun y285 => (if 0 ≤ t275 then (if t275 < (y285.length : Int) then ((windlassref4_with.f l0_0 a1 ((shiftRow y285 t275).set (t275 : Int).toNat (⟨(⟨a2_0,a2_1,a2_2,a2_3,l2_4⟩ : S35),(⟨a3_0,a3_1,a3_2,a3_3,l3_4⟩ : S35)⟩ : S82))).bind fun t289 => (some (t289,0))) else (none)) else (none))) else (none))))) else (none)) else (none)) else (none)) = some (r1,r2):=H
   have A20:=Aside0.mk A200
   clear A200
   by_cases c21 : 0 ≤ a1
   ·rw [if_pos c21] at H
    have c21b0 : decide (0 ≤ a1) = true:=decide_eq_true c21
    clear c21
    by_cases c22 : a1 < (l0_0.length : Int)
    ·rw [if_pos c22] at H
     have c22b0 : decide (a1 < (l0_0.length : Int)) = true:=decide_eq_true c22
     clear c22
     by_cases c23 : ([] : List (S82)).length + (rd_L4 l0_0 a1).length < 1099511627776
     ·rw [if_pos c23] at H
      have LMc23:=Aside0.mk c23
      clear c23
      obtain ⟨y278,hy278⟩ : ∃ y_ : List (S82),y_ = (([] : List (S82)) ++ (rd_L4 l0_0 a1)):=⟨_,rfl⟩
      replace H : (if t276 = true then (if 0 ≤ t275 then (if t275 < (y278.length : Int) then ((windlassref4_with.f l0_0 a1 (y278.set (t275 : Int).toNat (⟨(⟨(rd_T82 y278 t275).f0.f0,(rd_T82 y278 t275).f0.f1,(rd_T82 y278 t275).f0.f2,(rd_T82 y278 t275).f0.f3,(rd_T82 y278 t275).f0.f4⟩ : S35),(⟨a3_0,a3_1,a3_2,a3_3,l3_4⟩ : S35)⟩ : S82))).bind fun t282 => (some (t282,0))) else (none)) else (none)) else (if (y278.length : Int) ≥ 24 then (some (([] : List (List (S82))),41)) else (if y278.length < 1099511627776 then ((some (y278 ++ [(⟨(⟨0,0,(⟨#[]⟩ : ByteArray),0,([] : List (S35))⟩ : S35),(⟨0,0,(⟨#[]⟩ : ByteArray),0,([] : List (S35))⟩ : S35)⟩ : S82)] : List (S82))).bind fun y285 => (if 0 ≤ t275 then (if t275 < (y285.length : Int) then ((windlassref4_with.f l0_0 a1 ((shiftRow y285 t275).set (t275 : Int).toNat (⟨(⟨a2_0,a2_1,a2_2,a2_3,l2_4⟩ : S35),(⟨a3_0,a3_1,a3_2,a3_3,l3_4⟩ : S35)⟩ : S82))).bind fun t289 => (some (t289,0))) else (none)) else (none))) else (none)))) = some (r1,r2):=by first|(rw [hy278];with_reducible exact H)|(have H2_:=(Option.bind_some _ _).symm.trans H;rw [hy278];with_reducible exact H2_)|(have H2_:=(Option.bind_some _ _).symm.trans H;with_reducible exact H2_)|with_reducible exact H|(rw [hy278];exact H)|exact H
      have Ny278:=Aside0.mk hy278
      clear hy278
      by_cases c24 : t276 = true
      ·subst c24
       have H1 : (if 0 ≤ t275 then (if t275 < (y278.length : Int) then ((windlassref4_with.f l0_0 a1 (y278.set (t275 : Int).toNat (⟨(⟨(rd_T82 y278 t275).f0.f0,(rd_T82 y278 t275).f0.f1,(rd_T82 y278 t275).f0.f2,(rd_T82 y278 t275).f0.f3,(rd_T82 y278 t275).f0.f4⟩ : S35),(⟨a3_0,a3_1,a3_2,a3_3,l3_4⟩ : S35)⟩ : S82))).bind fun t282 => (some (t282,0))) else (none)) else (none)) = some (r1,r2):=by rw [if_pos rfl] at H;exact H
       clear H
       have H:=H1
       clear H1
       by_cases c25 : 0 ≤ t275
       ·rw [if_pos c25] at H
        have c25b0 : decide (0 ≤ t275) = true:=decide_eq_true c25
        clear c25
        by_cases c26 : t275 < (y278.length : Int)
        ·rw [if_pos c26] at H
         have c26b0 : decide (t275 < (y278.length : Int)) = true:=decide_eq_true c26
         clear c26
         obtain ⟨y281,hy281⟩ : ∃ y_ : List (S82),y_ = (y278.set (t275 : Int).toNat (⟨(⟨(rd_T82 y278 t275).f0.f0,(rd_T82 y278 t275).f0.f1,(rd_T82 y278 t275).f0.f2,(rd_T82 y278 t275).f0.f3,(rd_T82 y278 t275).f0.f4⟩ : S35),(⟨a3_0,a3_1,a3_2,a3_3,l3_4⟩ : S35)⟩ : S82)):=⟨_,rfl⟩
         replace H : ((windlassref4_with.f l0_0 a1 y281).bind fun t282 => (some (t282,0))) = some (r1,r2):=by first|(rw [hy281];with_reducible exact H)|(have H2_:=(Option.bind_some _ _).symm.trans H;rw [hy281];with_reducible exact H2_)|(have H2_:=(Option.bind_some _ _).symm.trans H;with_reducible exact H2_)|with_reducible exact H|(rw [hy281];exact H)|exact H
         have Ny281:=Aside0.mk hy281
         clear hy281
         replace H:=Option.bind_eq_some_iff.mp H
         obtain ⟨t282,A280,H⟩:=H
         replace H : (some (t282,0)) = some (r1,r2):=H
         have A28:=Aside0.mk A280
         clear A280
         simp only [Option.some.injEq,Prod.mk.injEq] at H
         obtain ⟨rfl,rfl⟩:=H
         have hnb29:=NB271_272.out
         have hnc29:=NB272_271.out
         have hnb30:=NB271_273.out
         have hnc30:=NB273_271.out
         have hnb31:=NB271_274.out
         have hnc31:=NB274_271.out
         have hcz32_0 : wc.cell? ⟨gb271,0,none⟩ = some (.slice A0_0 l0_0.length c0_0):=(blk_cell BK271.out 0).trans rfl
         have hfz32_0:=blk_frozen BK271.out 0
         have hnb33:=NB272_273.out
         have hnc33:=NB273_272.out
         have hnb34:=NB272_274.out
         have hnc34:=NB274_272.out
         have hcz35_0 : wc.cell? ⟨gb272,0,none⟩ = some (.int .i64 a2_0):=(blk_cell BK272.out 0).trans rfl
         have hcz35_1 : wc.cell? ⟨gb272,1,none⟩ = some (.int .i64 a2_1):=(blk_cell BK272.out 1).trans rfl
         have hcz35_2 : wc.cell? ⟨gb272,2,none⟩ = some (.string a2_2):=(blk_cell BK272.out 2).trans rfl
         have hcz35_3 : wc.cell? ⟨gb272,3,none⟩ = some (.int .i64 a2_3):=(blk_cell BK272.out 3).trans rfl
         have hcz35_4 : wc.cell? ⟨gb272,4,none⟩ = some (.slice A2_4 l2_4.length c2_4):=(blk_cell BK272.out 4).trans rfl
         have hfz35_0:=blk_frozen BK272.out 0
         have hfz35_1:=blk_frozen BK272.out 1
         have hfz35_2:=blk_frozen BK272.out 2
         have hfz35_3:=blk_frozen BK272.out 3
         have hfz35_4:=blk_frozen BK272.out 4
         go_wp2_with (first|((with_reducible refine gate_callee (f:=43) rfl ?_);refine goesL_ (some 27) rfl rfl Try.func43 (by kernel_rfl) rfl #[.agg #[.slice A0_0 l0_0.length c0_0], .int .i64 a1, .agg #[.int .i64 a2_0, .int .i64 a2_1, .string a2_2, .int .i64 a2_3, .slice A2_4 l2_4.length c2_4]] rfl aG ?_;(with_reducible refine (windlassref4_at.calls kj4 _ _ l0_0 a1 a2_0 a2_1 a2_2 a2_3 _ _ l2_4 t275 true _ ?side1 ?side2 ?side3 ?side4 A20.out).mono ?_);(case side1 => repeat (first|exact (Kd.V_reads' HO_272000.out).2.2|(with_reducible refine Kd.C_alloc ?_ _)|(with_reducible refine Kd.C_drewN ?_ _)|(with_reducible refine Kd.C_drew ?_)));(case side2 => exact (Kd.V_reads' HO_272000.out).2.1);(case side3 => repeat (first|exact (Kd.V_reads' HO_273004.out).2.2|(with_reducible refine Kd.C_alloc ?_ _)|(with_reducible refine Kd.C_drewN ?_ _)|(with_reducible refine Kd.C_drew ?_)));(case side4 => exact (Kd.V_reads' HO_273004.out).2.1);rintro e w36 ⟨rfl,hb⟩;refine ⟨_,rfl,?_⟩;replace HO_272000:=Aside0.mk (Kd.V_below (vK HO_272000) hb);replace HO_273004:=Aside0.mk (Kd.V_below (vK HO_273004) hb);replace HO_274004:=Aside0.mk (Kd.V_below (vK HO_274004) hb);replace BK271:=bB BK271 hb;replace BK272:=bB BK272 hb;replace BK273:=bB BK273 hb;replace BK274:=bB BK274 hb;replace HB:=Aside0.mk (below_step (bL4 HB GE271 GE272 GE273 GE274) hb);(try clear hb);(try clear hb2);(try clear hk);(try clear hi);have hcz37_0 : w36.cell? ⟨gb271,0,none⟩ = some (.slice A0_0 l0_0.length c0_0):=(blk_cell BK271.out 0).trans rfl;have hfz37_0:=blk_frozen BK271.out 0;have p277 : 0 ≤ (a1 : Int):=of_decide_eq_true aX;have q277 : a1 < (l0_0.length : Int):=of_decide_eq_true aX;obtain ⟨ad277,A277_0,c277_0,e277,hx277_0,hl277_0,hi277_0⟩:=at_L4 (Kd.V_reads' HO_272000.out).2.2 a1 p277 q277;cases e277;obtain ⟨ce277,hce277,hMe277,hcc277⟩:=Kd.V_get HO_272000.out [] a1 p277 (by first|exact q277|exact of_decide_eq_true aX|(have e_:=(Kd.V_reads' HO_272000.out).1;omega));obtain ⟨ua277_0,uc277_0,rfl,ul277_0,ge277_0⟩:=Kd.FK_slice_open hMe277;have hv277_0:=hcc277 0 _ rfl;rw [Nat.add_zero,show ((Kd.slice 82 k82)).sz = 1 from rfl,Nat.mul_one] at hv277_0;replace hv277_0:=Option.some.inj (hv277_0.symm.trans hx277_0);injection hv277_0 with hva_ hvn_ hvc_;rw [hva_] at ge277_0;rw [hvc_] at ul277_0;have HL277_0:=Aside0.mk (show Kd.V k82 82 _ w.heap.size _ _ (rd_L4 l0_0 a1) from Kd.V_mk ul277_0 ge277_0);clear hva_ hvn_ hvc_ ge277_0 ul277_0;clear hcc277 hce277;have HR277_0:=Aside0.mk hi277_0;have HC277_0:=Aside0.mk hl277_0;clear hi277_0 hl277_0;replace p277:=eq_true p277;replace q277:=eq_true q277)|((with_reducible refine gate_builtin (b := .append) (xs:=#[(.const (.slice none 0 0)), .tmp 34]) rfl ?_);(try (refine gate_guard (by rfl) ?_;dsimp only));at_builtin;refine Kd.N_append_rows k82 (w0:=w) w.heap.size rfl (.const (.slice none 0 0)) (.tmp 34) 41 82 (.agg #[(.int .i64 0),(.int .i64 0),(.string ⟨#[]⟩),(.int .i64 0),(.slice none 0 0),(.int .i64 0),(.int .i64 0),(.string ⟨#[]⟩),(.int .i64 0),(.slice none 0 0)]) 128 rfl Try.underlying41 info82 rfl (by decide) (by omega) (.slice none 0 0) ([] : List (S82)) (rd_L4 l0_0 a1) _ _ _ (fun k_ => ((P0_0_ k_ ∨ P2_4_ k_ ∨ P3_4_ k_) ∨ w.heap.size ≤ k_) ∧ k_ ≠ gb271 ∧ k_ ≠ gb272 ∧ k_ ≠ gb273 ∧ k_ ≠ gb274) (fun k_ => ((fun k_ => ((P0_0_ k_ ∨ P2_4_ k_ ∨ P3_4_ k_) ∨ w.heap.size ≤ k_) ∧ k_ ≠ gb271 ∧ k_ ≠ gb272 ∧ k_ ≠ gb273 ∧ k_ ≠ gb274)) k_ ∧ some k_ ≠ (.slice none 0 0 : Value).ownBlock) rfl rfl ?aO ?aR (fun _ hk => hk) ?aF ?aB ?aS ?aL ?_;(case aR => exact (by skip;exact Kd.V_F (Kd.V_mono (ok':=(fun k_ => ((fun k_ => ((P0_0_ k_ ∨ P2_4_ k_ ∨ P3_4_ k_) ∨ w.heap.size ≤ k_) ∧ k_ ≠ gb271 ∧ k_ ≠ gb272 ∧ k_ ≠ gb273 ∧ k_ ≠ gb274)) k_ ∧ some k_ ≠ (.slice none 0 0 : Value).ownBlock)) (HL277_0.out) (fun k_ hk => ⟨⟨hk.1,⟨hk.2.1,⟨hk.2.2.1,⟨hk.2.2.2.1,hk.2.2.2.2⟩⟩⟩⟩,(by simp [Value.ownBlock])⟩))));(case aB => exact (bL4 HB GE271 GE272 GE273 GE274));(case aF => exact (fun k_ hk => ⟨(.inr (Nat.le_trans (below_size (bL4 HB GE271 GE272 GE273 GE274)) hk)),Kd.freshB (bK BK271) k_ hk,Kd.freshB (bK BK272) k_ hk,Kd.freshB (bK BK273) k_ hk,Kd.freshB (bK BK274) k_ hk⟩));(case aO => exact ((Kd.N_nil _ _ _ _ (fun k_ => ((P0_0_ k_ ∨ P2_4_ k_ ∨ P3_4_ k_) ∨ w.heap.size ≤ k_) ∧ k_ ≠ gb271 ∧ k_ ≠ gb272 ∧ k_ ≠ gb273 ∧ k_ ≠ gb274))));(case aS => exact (below_size (bL4 HB GE271 GE272 GE273 GE274)));(case aL => have:=LMc23.out;omega);intro v279 w38 ho hb hg hat;rw [← Ny278.out] at ho;replace HO_272000:=Aside0.mk (Kd.V_afterv (Kd.V_apart_nil (vK HO_272000)) hg hat);replace HO_273004:=Aside0.mk (Kd.V_afterv (Kd.V_apart_nil (vK HO_273004)) hg hat);replace HO_274004:=Aside0.mk (Kd.V_afterv (Kd.V_apart_nil (vK HO_274004)) hg hat);replace BK271:=Aside0.mk (blk_grown (bK BK271) hg (by simp [Value.ownBlock]));replace BK272:=Aside0.mk (blk_grown (bK BK272) hg (by simp [Value.ownBlock]));replace BK273:=Aside0.mk (blk_grown (bK BK273) hg (by simp [Value.ownBlock]));replace BK274:=Aside0.mk (blk_grown (bK BK274) hg (by simp [Value.ownBlock]));replace HL277_0:=Aside0.mk (Kd.V_afterv (Kd.V_apart_nil (vK HL277_0)) hg hat);replace HB:=Aside0.mk (hb);have HO280:=Aside0.mk (ho);clear ho hb hg hat;have hnb39:=NB273_274.out;have hnc39:=NB274_273.out;have hcz40_0 : w38.cell? ⟨gb273,0,none⟩ = some (.int .i64 a3_0):=(blk_cell BK273.out 0).trans rfl;have hcz40_1 : w38.cell? ⟨gb273,1,none⟩ = some (.int .i64 a3_1):=(blk_cell BK273.out 1).trans rfl;have hcz40_2 : w38.cell? ⟨gb273,2,none⟩ = some (.string a3_2):=(blk_cell BK273.out 2).trans rfl;have hcz40_3 : w38.cell? ⟨gb273,3,none⟩ = some (.int .i64 a3_3):=(blk_cell BK273.out 3).trans rfl;have hcz40_4 : w38.cell? ⟨gb273,4,none⟩ = some (.slice A3_4 l3_4.length c3_4):=(blk_cell BK273.out 4).trans rfl;have hfz40_0:=blk_frozen BK273.out 0;have hfz40_1:=blk_frozen BK273.out 1;have hfz40_2:=blk_frozen BK273.out 2;have hfz40_3:=blk_frozen BK273.out 3;have hfz40_4:=blk_frozen BK273.out 4;have p27 : 0 ≤ (t275 : Int):=of_decide_eq_true aX;have q27 : (t275 : Int) < ((y278.length : Int) : Int):=of_decide_eq_true aX;obtain ⟨go27,co27,eo27,gb27,gl27,cl27,HG27⟩:=Kd.N_form HO280.out (by omega);(first|cases eo27|(injection eo27 with ea_ en_ ec_;(first|subst ea_|(injection ea_ with ea_;subst ea_));subst ec_;clear en_));have GB27:=Aside0.mk gb27;have GG27:=Aside0.mk HG27;clear gb27 gl27 HG27;obtain ⟨ce27,hcl27,hM27,hcc27,hfr27⟩:=Kd.N_elem HO280.out z82 (t275 : Int) p27 q27;obtain ⟨ua27_4,uc27_4,ua27_9,uc27_9,rfl,ul27_4,ge27_4,ul27_9,ge27_9⟩:=k82_openF hM27;have hx27_0 : w38.cell? ⟨go27,(t275 : Int).toNat * 10,none⟩ = some (.int .i64 ((rd_T82 y278 t275).f0.f0)):=hcc27 0 _ rfl;have hx27_1 : w38.cell? ⟨go27,(t275 : Int).toNat * 10 + 1,none⟩ = some (.int .i64 ((rd_T82 y278 t275).f0.f1)):=hcc27 1 _ rfl;have hx27_2 : w38.cell? ⟨go27,(t275 : Int).toNat * 10 + 2,none⟩ = some (.string ((rd_T82 y278 t275).f0.f2)):=hcc27 2 _ rfl;have hx27_3 : w38.cell? ⟨go27,(t275 : Int).toNat * 10 + 3,none⟩ = some (.int .i64 ((rd_T82 y278 t275).f0.f3)):=hcc27 3 _ rfl;have hx27_4 : w38.cell? ⟨go27,(t275 : Int).toNat * 10 + 4,none⟩ = some (.slice ua27_4 ((rd_T82 y278 t275).f0.f4).length uc27_4):=hcc27 4 _ rfl;have hx27_5 : w38.cell? ⟨go27,(t275 : Int).toNat * 10 + 5,none⟩ = some (.int .i64 ((rd_T82 y278 t275).f1.f0)):=hcc27 5 _ rfl;have hx27_6 : w38.cell? ⟨go27,(t275 : Int).toNat * 10 + 6,none⟩ = some (.int .i64 ((rd_T82 y278 t275).f1.f1)):=hcc27 6 _ rfl;have hx27_7 : w38.cell? ⟨go27,(t275 : Int).toNat * 10 + 7,none⟩ = some (.string ((rd_T82 y278 t275).f1.f2)):=hcc27 7 _ rfl;have hx27_8 : w38.cell? ⟨go27,(t275 : Int).toNat * 10 + 8,none⟩ = some (.int .i64 ((rd_T82 y278 t275).f1.f3)):=hcc27 8 _ rfl;have hx27_9 : w38.cell? ⟨go27,(t275 : Int).toNat * 10 + 9,none⟩ = some (.slice ua27_9 ((rd_T82 y278 t275).f1.f4).length uc27_9):=hcc27 9 _ rfl;have hf27_0 : w38.frozen? ⟨go27,(t275 : Int).toNat * 10,none⟩ = false:=hfr27 0;have hf27_1 : w38.frozen? ⟨go27,(t275 : Int).toNat * 10 + 1,none⟩ = false:=hfr27 1;have hf27_2 : w38.frozen? ⟨go27,(t275 : Int).toNat * 10 + 2,none⟩ = false:=hfr27 2;have hf27_3 : w38.frozen? ⟨go27,(t275 : Int).toNat * 10 + 3,none⟩ = false:=hfr27 3;have hf27_4 : w38.frozen? ⟨go27,(t275 : Int).toNat * 10 + 4,none⟩ = false:=hfr27 4;have hf27_5 : w38.frozen? ⟨go27,(t275 : Int).toNat * 10 + 5,none⟩ = false:=hfr27 5;have hf27_6 : w38.frozen? ⟨go27,(t275 : Int).toNat * 10 + 6,none⟩ = false:=hfr27 6;have hf27_7 : w38.frozen? ⟨go27,(t275 : Int).toNat * 10 + 7,none⟩ = false:=hfr27 7;have hf27_8 : w38.frozen? ⟨go27,(t275 : Int).toNat * 10 + 8,none⟩ = false:=hfr27 8;have hf27_9 : w38.frozen? ⟨go27,(t275 : Int).toNat * 10 + 9,none⟩ = false:=hfr27 9;clear hcl27 hcc27 hfr27 hM27;replace p27:=eq_true p27;replace q27:=eq_true q27;have HX41:=Aside0.mk (show Kd.N k82 82 w38 w.heap.size (fun k_ => ((P0_0_ k_ ∨ P2_4_ k_ ∨ P3_4_ k_) ∨ w.heap.size ≤ k_) ∧ k_ ≠ gb271 ∧ k_ ≠ gb272 ∧ k_ ≠ gb273 ∧ k_ ≠ gb274) (.slice (some ⟨go27,0,none⟩) y278.length co27) y278 from (nK HO280));obtain ⟨ce41,hcl41,hM41,hcc41,hfr41⟩:=Kd.N_elem HX41.out z82 (t275 : Int) (of_decide_eq_true aX) (by have h_ : (t275 : Int) < ((y278.length : Int) : Int):=of_decide_eq_true aX;first|exact h_|(have e_:=(Kd.N_reads' HO280.out).1;omega)|simpa using h_);obtain ⟨ua41_4,uc41_4,ua41_9,uc41_9,rfl,ul41_4,ge41_4,ul41_9,ge41_9⟩:=k82_openF hM41;have HP41:=Kd.N_seg HX41.out (t275 : Int) (of_decide_eq_true aX) (by have h_ : (t275 : Int) < ((y278.length : Int) : Int):=of_decide_eq_true aX;first|exact h_|(have e_:=(Kd.N_reads' HO280.out).1;omega)|simpa using h_) (seg:=[.int .i64 a3_0, .int .i64 a3_1, .string a3_2, .int .i64 a3_3, .slice A3_4 l3_4.length c3_4]) (j:=5) hcl41 hcc41 (show 10 ≤ 10 from by decide) (x':=(⟨(⟨(rd_T82 y278 t275).f0.f0,(rd_T82 y278 t275).f0.f1,(rd_T82 y278 t275).f0.f2,(rd_T82 y278 t275).f0.f3,(rd_T82 y278 t275).f0.f4⟩ : S35),(⟨a3_0,a3_1,a3_2,a3_3,l3_4⟩ : S35)⟩ : S82)) (k82_mkF _ _ (⟨(⟨(rd_T82 y278 t275).f0.f0,(rd_T82 y278 t275).f0.f1,(rd_T82 y278 t275).f0.f2,(rd_T82 y278 t275).f0.f3,(rd_T82 y278 t275).f0.f4⟩ : S35),(⟨a3_0,a3_1,a3_2,a3_3,l3_4⟩ : S35)⟩ : S82) ul41_4 ge41_4 (Kd.V_reads' (Kd.V_mono (ok':=(fun k_ => ((fun k_ => ((P0_0_ k_ ∨ P2_4_ k_ ∨ P3_4_ k_) ∨ w.heap.size ≤ k_) ∧ k_ ≠ gb271 ∧ k_ ≠ gb272 ∧ k_ ≠ gb273 ∧ k_ ≠ gb274)) k_ ∧ k_ ≠ go27)) (HO_274004.out) (fun k_ hk => ⟨⟨hk.1.1,⟨hk.1.2.1,⟨hk.1.2.2.1,⟨hk.1.2.2.2.1,hk.1.2.2.2.2⟩⟩⟩⟩,fun e_ => (hk.2) (by rw [e_];rfl)⟩))).2.1 (Kd.V_F (Kd.V_mono (ok':=(fun k_ => ((fun k_ => ((P0_0_ k_ ∨ P2_4_ k_ ∨ P3_4_ k_) ∨ w.heap.size ≤ k_) ∧ k_ ≠ gb271 ∧ k_ ≠ gb272 ∧ k_ ≠ gb273 ∧ k_ ≠ gb274)) k_ ∧ k_ ≠ go27)) (HO_274004.out) (fun k_ hk => ⟨⟨hk.1.1,⟨hk.1.2.1,⟨hk.1.2.2.1,⟨hk.1.2.2.2.1,hk.1.2.2.2.2⟩⟩⟩⟩,fun e_ => (hk.2) (by rw [e_];rfl)⟩)))) (fun _ hk => hk);have hx41_5:=hcc41 5 _ rfl;(try simp only [show (k82).sz = 10 from rfl,Nat.mul_one,Nat.add_zero] at hx41_5);have hf41_5:=hfr41 5;(try simp only [show (k82).sz = 10 from rfl,Nat.mul_one,Nat.add_zero] at hf41_5);have hx41_6:=hcc41 6 _ rfl;(try simp only [show (k82).sz = 10 from rfl,Nat.mul_one,Nat.add_zero] at hx41_6);have hf41_6:=hfr41 6;(try simp only [show (k82).sz = 10 from rfl,Nat.mul_one,Nat.add_zero] at hf41_6);have hx41_7:=hcc41 7 _ rfl;(try simp only [show (k82).sz = 10 from rfl,Nat.mul_one,Nat.add_zero] at hx41_7);have hf41_7:=hfr41 7;(try simp only [show (k82).sz = 10 from rfl,Nat.mul_one,Nat.add_zero] at hf41_7);have hx41_8:=hcc41 8 _ rfl;(try simp only [show (k82).sz = 10 from rfl,Nat.mul_one,Nat.add_zero] at hx41_8);have hf41_8:=hfr41 8;(try simp only [show (k82).sz = 10 from rfl,Nat.mul_one,Nat.add_zero] at hf41_8);have hx41_9:=hcc41 9 _ rfl;(try simp only [show (k82).sz = 10 from rfl,Nat.mul_one,Nat.add_zero] at hx41_9);have hf41_9:=hfr41 9;(try simp only [show (k82).sz = 10 from rfl,Nat.mul_one,Nat.add_zero] at hf41_9);clear hcl41 hcc41 hfr41 hM41)|((with_reducible refine gate_store (t:=35) (p:=41) rfl ?_);refine store_event (t:=35) (p:=41) (v:=?vo_w42) (w1:=(((((w38.setCell ⟨go27,(t275 : Int).toNat * 10 + 5,none⟩ (.int .i64 a3_0)).setCell ⟨go27,(t275 : Int).toNat * 10 + 6,none⟩ (.int .i64 a3_1)).setCell ⟨go27,(t275 : Int).toNat * 10 + 7,none⟩ (.string a3_2)).setCell ⟨go27,(t275 : Int).toNat * 10 + 8,none⟩ (.int .i64 a3_3)).setCell ⟨go27,(t275 : Int).toNat * 10 + 9,none⟩ (.slice A3_4 l3_4.length c3_4))) ?hg ?ho ?hn ?hr ?_;(case ho => rfl);(case hg => rfl);(case hn => rfl);(case hr => first|(go_simp;done)|(go_simp;rfl));intro w42 hw;have hg : w38.grownBy w42 (some go27):=(by rw [hw];exact HP41.2);have hp_ : Kd.N k82 82 w42 w.heap.size (fun k_ => ((P0_0_ k_ ∨ P2_4_ k_ ∨ P3_4_ k_) ∨ w.heap.size ≤ k_) ∧ k_ ≠ gb271 ∧ k_ ≠ gb272 ∧ k_ ≠ gb273 ∧ k_ ≠ gb274) (.slice (some ⟨go27,0,none⟩) y278.length co27) y281:=(by rw [hw,Ny281.out];exact HP41.1);clear HP41;replace HO_272000:=Aside0.mk (Kd.V_afterv (v:=(.slice (some ⟨go27,0,none⟩) y278.length co27)) (v1:=(.slice (some ⟨go27,0,none⟩) y278.length co27)) (ok:=(fun k_ => ((P0_0_ k_ ∨ P2_4_ k_ ∨ P3_4_ k_) ∨ w.heap.size ≤ k_) ∧ k_ ≠ gb271 ∧ k_ ≠ gb272 ∧ k_ ≠ gb273 ∧ k_ ≠ gb274)) (vK HO_272000) hg (.inl rfl));replace HO_273004:=Aside0.mk (Kd.V_afterv (v:=(.slice (some ⟨go27,0,none⟩) y278.length co27)) (v1:=(.slice (some ⟨go27,0,none⟩) y278.length co27)) (ok:=(fun k_ => ((P0_0_ k_ ∨ P2_4_ k_ ∨ P3_4_ k_) ∨ w.heap.size ≤ k_) ∧ k_ ≠ gb271 ∧ k_ ≠ gb272 ∧ k_ ≠ gb273 ∧ k_ ≠ gb274)) (vK HO_273004) hg (.inl rfl));replace HO_274004:=Aside0.mk (Kd.V_afterv (v:=(.slice (some ⟨go27,0,none⟩) y278.length co27)) (v1:=(.slice (some ⟨go27,0,none⟩) y278.length co27)) (ok:=(fun k_ => ((P0_0_ k_ ∨ P2_4_ k_ ∨ P3_4_ k_) ∨ w.heap.size ≤ k_) ∧ k_ ≠ gb271 ∧ k_ ≠ gb272 ∧ k_ ≠ gb273 ∧ k_ ≠ gb274)) (vK HO_274004) hg (.inl rfl));replace BK271:=Aside0.mk (blk_grown (bK BK271) hg (Kd.N_ne HO280.out BK271.out (by decide)));replace BK272:=Aside0.mk (blk_grown (bK BK272) hg (Kd.N_ne HO280.out BK272.out (by decide)));replace BK273:=Aside0.mk (blk_grown (bK BK273) hg (Kd.N_ne HO280.out BK273.out (by decide)));replace BK274:=Aside0.mk (blk_grown (bK BK274) hg (Kd.N_ne HO280.out BK274.out (by decide)));replace HL277_0:=Aside0.mk (Kd.V_afterv (v:=(.slice (some ⟨go27,0,none⟩) y278.length co27)) (v1:=(.slice (some ⟨go27,0,none⟩) y278.length co27)) (ok:=(fun k_ => ((P0_0_ k_ ∨ P2_4_ k_ ∨ P3_4_ k_) ∨ w.heap.size ≤ k_) ∧ k_ ≠ gb271 ∧ k_ ≠ gb272 ∧ k_ ≠ gb273 ∧ k_ ≠ gb274)) (vK HL277_0) hg (.inl rfl));replace HO280:=Aside0.mk (hp_);replace HB:=Aside0.mk ((by rw [hw];exact below_set (below_set (below_set (below_set (below_set (HB.out) GB27.out) GB27.out) GB27.out) GB27.out) GB27.out : Below w.heap.size w w42));clear hg hw hp_;have hcz43_0 : w42.cell? ⟨gb271,0,none⟩ = some (.slice (some ad277) l0_0.length c0_0):=(blk_cell BK271.out 0).trans rfl;have hfz43_0:=blk_frozen BK271.out 0)|((with_reducible refine gate_callee (f:=44) rfl ?_);refine goesL_ (some 45) rfl rfl Try.func44 (by kernel_rfl) rfl #[.agg #[.slice (some ad277) l0_0.length c0_0], .int .i64 a1, .slice (some ⟨go27,0,none⟩) y281.length co27] rfl (by (try simp only [List.map_toArray,List.map_cons,List.map_nil]);first|done|(rw [show y281.length = y278.length from (Kd.N_reads' HO280.out).1.symm] <;> rfl)|rfl|(simp only [List.length_drop,List.length_take];rfl)|(go_simp;done)|(go_simp;simp;done)) ?_;(with_reducible refine (windlassref4_with.calls (fun k_ => ((((P0_0_ k_ ∨ P2_4_ k_ ∨ P3_4_ k_) ∨ w.heap.size ≤ k_) ∧ (k_ ≠ gb271 ∧ (k_ ≠ gb272 ∧ (k_ ≠ gb273 ∧ k_ ≠ gb274)))) ∧ some k_ ≠ (.slice (some ⟨go27,0,none⟩) y278.length co27 : Value).ownBlock)) _ _ l0_0 a1 (fun k_ => (((P0_0_ k_ ∨ P2_4_ k_ ∨ P3_4_ k_) ∨ w.heap.size ≤ k_) ∧ (k_ ≠ gb271 ∧ (k_ ≠ gb272 ∧ (k_ ≠ gb273 ∧ k_ ≠ gb274))))) _ _ y281 t282 _ ?side1 ?side2 A28.out).mono ?_);(case side1 => exact HO_272000.out);(case side2 => rw [show y281.length = y278.length from (Kd.N_reads' HO280.out).1.symm];exact Kd.N_V (HO280.out));rintro e w44 ⟨v283,rfl,ho0,hb⟩;refine ⟨_,rfl,?_⟩;replace HO_272000:=Aside0.mk (Kd.V_elder' (vK HO_272000) (Kd.N_base ho0) hb);replace HO_273004:=Aside0.mk (Kd.V_elder' (vK HO_273004) (Kd.N_base ho0) hb);replace HO_274004:=Aside0.mk (Kd.V_elder' (vK HO_274004) (Kd.N_base ho0) hb);replace HL277_0:=Aside0.mk (Kd.V_elder' (vK HL277_0) (Kd.N_base ho0) hb);replace HO280:=Aside0.mk (Kd.N_elder' (nK HO280) (Kd.N_base ho0) hb);have HO284:=Aside0.mk (Kd.N_lower (Kd.N_mono (ok':=fun k_ => ((P0_0_ k_ ∨ P2_4_ k_ ∨ P3_4_ k_) ∨ w.heap.size ≤ k_) ∧ k_ ≠ gb271 ∧ k_ ≠ gb272 ∧ k_ ≠ gb273 ∧ k_ ≠ gb274) ho0 (fun k_ hk_ => ⟨Or.elim hk_ (fun hs_ => Or.elim hs_ (fun hs_ => hs_.1.1) (fun hs_ => hs_.1)) (fun hn_ => (.inr (Nat.le_trans (below_size (bL4 HB GE271 GE272 GE273 GE274)) hn_))),Or.elim hk_ (fun hs_ => Or.elim hs_ (fun hs_ => hs_.1.2.1) (fun hs_ => hs_.2.1)) (fun hn_ => (Kd.freshB (bK BK271) k_ hn_)),Or.elim hk_ (fun hs_ => Or.elim hs_ (fun hs_ => hs_.1.2.2.1) (fun hs_ => hs_.2.2.1)) (fun hn_ => (Kd.freshB (bK BK272) k_ hn_)),Or.elim hk_ (fun hs_ => Or.elim hs_ (fun hs_ => hs_.1.2.2.2.1) (fun hs_ => hs_.2.2.2.1)) (fun hn_ => (Kd.freshB (bK BK273) k_ hn_)),Or.elim hk_ (fun hs_ => Or.elim hs_ (fun hs_ => hs_.1.2.2.2.2) (fun hs_ => hs_.2.2.2.2)) (fun hn_ => (Kd.freshB (bK BK274) k_ hn_))⟩)) (below_size (bL4 HB GE271 GE272 GE273 GE274)));replace BK271:=bB BK271 hb;replace BK272:=bB BK272 hb;replace BK273:=bB BK273 hb;replace BK274:=bB BK274 hb;replace HB:=Aside0.mk (below_step (bL4 HB GE271 GE272 GE273 GE274) hb);(try clear hb);(try clear hb2);(try clear hk);(try clear hi);(try clear ho0);obtain ⟨Ao45,co45,eo45⟩:=Kd.N_slice HO284.out;subst eo45;have hcz46_0 : w44.cell? ⟨gb274,0,none⟩ = some (.slice none 0 0):=(blk_cell BK274.out 0).trans rfl;have hfz46_0:=blk_frozen BK274.out 0))
         refine bodyPost_ret (results_ct rfl _ _ gb274 27 #[.slice Ao45 t282.length co45] (0,0) _ rfl (by (with_reducible repeat (first|refine blk_drewN ?_ _|refine blk_drew ?_|refine blk_alloc ?_ _));refine blk_put (cs:=#[.slice none 0 0]) ?_ 0 _ rfl;(with_reducible repeat (first|refine blk_drewN ?_ _|refine blk_drew ?_|refine blk_alloc ?_ _));exact BK274.out) Try.underlying27 rfl (by kernel_rfl)) rfl ?_
         exact ⟨_,by first|rfl|(simp [errW_none,errW_some] <;> rfl)|(simp [*,errW_none,errW_some] <;> rfl),by (with_reducible repeat (first|apply Kd.N_alloc|apply Kd.N_drewN|apply Kd.N_drew));exact Kd.N_mono (Kd.N_far (p:=⟨gb274,0,none⟩) (Kd.N_mono HO284.out (fun k_ hk => (⟨hk,hk.2.2.2.2⟩ : _ ∧ k_ ≠ gb274))) (fun _ hk => hk.2) (.slice Ao45 t282.length co45)) (fun _ hk => hk.1.1),by repeat (first|(with_reducible first|exact HB.out|apply below_alloc|apply pw_below_drewN|apply below_drew1|refine below_set ?_ GE271.out|refine below_set ?_ GE272.out|refine below_set ?_ GE273.out|refine below_set ?_ GE274.out)|exact HB.out)⟩
        rw [if_neg c26] at H
        exact absurd H (by simp)
       rw [if_neg c25] at H
       exact absurd H (by simp)
      replace c24:=Bool.eq_false_iff.mpr c24
      subst c24
      have H1 : (if (y278.length : Int) ≥ 24 then (some (([] : List (List (S82))),41)) else (if y278.length < 1099511627776 then ((some (y278 ++ [(⟨(⟨0,0,(⟨#[]⟩ : ByteArray),0,([] : List (S35))⟩ : S35),(⟨0,0,(⟨#[]⟩ : ByteArray),0,([] : List (S35))⟩ : S35)⟩ : S82)] : List (S82))).bind fun y285 => (if 0 ≤ t275 then (if t275 < (y285.length : Int) then ((windlassref4_with.f l0_0 a1 ((shiftRow y285 t275).set (t275 : Int).toNat (⟨(⟨a2_0,a2_1,a2_2,a2_3,l2_4⟩ : S35),(⟨a3_0,a3_1,a3_2,a3_3,l3_4⟩ : S35)⟩ : S82))).bind fun t289 => (some (t289,0))) else (none)) else (none))) else (none))) = some (r1,r2):=by rw [if_neg (show ¬ (false = true) by decide)] at H;exact H
      clear H
      have H:=H1
      clear H1
      by_cases c47 : (y278.length : Int) ≥ 24
      ·rw [if_pos c47] at H
       have c47b0 : decide (24 ≤ (y278.length : Int)) = true:=decide_eq_true c47
       have c47b1 : decide (24 ≤ y278.length) = true:=decide_eq_true (by omega)
       clear c47
       simp only [Option.some.injEq,Prod.mk.injEq] at H
       obtain ⟨rfl,rfl⟩:=H
       have hnb48:=NB271_272.out
       have hnc48:=NB272_271.out
       have hnb49:=NB271_273.out
       have hnc49:=NB273_271.out
       have hnb50:=NB271_274.out
       have hnc50:=NB274_271.out
       have hcz51_0 : wc.cell? ⟨gb271,0,none⟩ = some (.slice A0_0 l0_0.length c0_0):=(blk_cell BK271.out 0).trans rfl
       have hfz51_0:=blk_frozen BK271.out 0
       have hnb52:=NB272_273.out
       have hnc52:=NB273_272.out
       have hnb53:=NB272_274.out
       have hnc53:=NB274_272.out
       have hcz54_0 : wc.cell? ⟨gb272,0,none⟩ = some (.int .i64 a2_0):=(blk_cell BK272.out 0).trans rfl
       have hcz54_1 : wc.cell? ⟨gb272,1,none⟩ = some (.int .i64 a2_1):=(blk_cell BK272.out 1).trans rfl
       have hcz54_2 : wc.cell? ⟨gb272,2,none⟩ = some (.string a2_2):=(blk_cell BK272.out 2).trans rfl
       have hcz54_3 : wc.cell? ⟨gb272,3,none⟩ = some (.int .i64 a2_3):=(blk_cell BK272.out 3).trans rfl
       have hcz54_4 : wc.cell? ⟨gb272,4,none⟩ = some (.slice A2_4 l2_4.length c2_4):=(blk_cell BK272.out 4).trans rfl
       have hfz54_0:=blk_frozen BK272.out 0
       have hfz54_1:=blk_frozen BK272.out 1
       have hfz54_2:=blk_frozen BK272.out 2
       have hfz54_3:=blk_frozen BK272.out 3
       have hfz54_4:=blk_frozen BK272.out 4
       go_wp2_with (first|((with_reducible refine gate_callee (f:=43) rfl ?_);refine goesL_ (some 27) rfl rfl Try.func43 (by kernel_rfl) rfl #[.agg #[.slice A0_0 l0_0.length c0_0], .int .i64 a1, .agg #[.int .i64 a2_0, .int .i64 a2_1, .string a2_2, .int .i64 a2_3, .slice A2_4 l2_4.length c2_4]] rfl aG ?_;(with_reducible refine (windlassref4_at.calls kj4 _ _ l0_0 a1 a2_0 a2_1 a2_2 a2_3 _ _ l2_4 t275 false _ ?side1 ?side2 ?side3 ?side4 A20.out).mono ?_);(case side1 => repeat (first|exact (Kd.V_reads' HO_272000.out).2.2|(with_reducible refine Kd.C_alloc ?_ _)|(with_reducible refine Kd.C_drewN ?_ _)|(with_reducible refine Kd.C_drew ?_)));(case side2 => exact (Kd.V_reads' HO_272000.out).2.1);(case side3 => repeat (first|exact (Kd.V_reads' HO_273004.out).2.2|(with_reducible refine Kd.C_alloc ?_ _)|(with_reducible refine Kd.C_drewN ?_ _)|(with_reducible refine Kd.C_drew ?_)));(case side4 => exact (Kd.V_reads' HO_273004.out).2.1);rintro e w55 ⟨rfl,hb⟩;refine ⟨_,rfl,?_⟩;replace HO_272000:=Aside0.mk (Kd.V_below (vK HO_272000) hb);replace HO_273004:=Aside0.mk (Kd.V_below (vK HO_273004) hb);replace HO_274004:=Aside0.mk (Kd.V_below (vK HO_274004) hb);replace BK271:=bB BK271 hb;replace BK272:=bB BK272 hb;replace BK273:=bB BK273 hb;replace BK274:=bB BK274 hb;replace HB:=Aside0.mk (below_step (bL4 HB GE271 GE272 GE273 GE274) hb);(try clear hb);(try clear hb2);(try clear hk);(try clear hi);have hcz56_0 : w55.cell? ⟨gb271,0,none⟩ = some (.slice A0_0 l0_0.length c0_0):=(blk_cell BK271.out 0).trans rfl;have hfz56_0:=blk_frozen BK271.out 0;have p277 : 0 ≤ (a1 : Int):=of_decide_eq_true aX;have q277 : a1 < (l0_0.length : Int):=of_decide_eq_true aX;obtain ⟨ad277,A277_0,c277_0,e277,hx277_0,hl277_0,hi277_0⟩:=at_L4 (Kd.V_reads' HO_272000.out).2.2 a1 p277 q277;cases e277;obtain ⟨ce277,hce277,hMe277,hcc277⟩:=Kd.V_get HO_272000.out [] a1 p277 (by first|exact q277|exact of_decide_eq_true aX|(have e_:=(Kd.V_reads' HO_272000.out).1;omega));obtain ⟨ua277_0,uc277_0,rfl,ul277_0,ge277_0⟩:=Kd.FK_slice_open hMe277;have hv277_0:=hcc277 0 _ rfl;rw [Nat.add_zero,show ((Kd.slice 82 k82)).sz = 1 from rfl,Nat.mul_one] at hv277_0;replace hv277_0:=Option.some.inj (hv277_0.symm.trans hx277_0);injection hv277_0 with hva_ hvn_ hvc_;rw [hva_] at ge277_0;rw [hvc_] at ul277_0;have HL277_0:=Aside0.mk (show Kd.V k82 82 _ w.heap.size _ _ (rd_L4 l0_0 a1) from Kd.V_mk ul277_0 ge277_0);clear hva_ hvn_ hvc_ ge277_0 ul277_0;clear hcc277 hce277;have HR277_0:=Aside0.mk hi277_0;have HC277_0:=Aside0.mk hl277_0;clear hi277_0 hl277_0;replace p277:=eq_true p277;replace q277:=eq_true q277)|((with_reducible refine gate_builtin (b := .append) (xs:=#[(.const (.slice none 0 0)), .tmp 34]) rfl ?_);(try (refine gate_guard (by rfl) ?_;dsimp only));at_builtin;refine Kd.N_append_rows k82 (w0:=w) w.heap.size rfl (.const (.slice none 0 0)) (.tmp 34) 41 82 (.agg #[(.int .i64 0),(.int .i64 0),(.string ⟨#[]⟩),(.int .i64 0),(.slice none 0 0),(.int .i64 0),(.int .i64 0),(.string ⟨#[]⟩),(.int .i64 0),(.slice none 0 0)]) 128 rfl Try.underlying41 info82 rfl (by decide) (by omega) (.slice none 0 0) ([] : List (S82)) (rd_L4 l0_0 a1) _ _ _ (fun k_ => ((P0_0_ k_ ∨ P2_4_ k_ ∨ P3_4_ k_) ∨ w.heap.size ≤ k_) ∧ k_ ≠ gb271 ∧ k_ ≠ gb272 ∧ k_ ≠ gb273 ∧ k_ ≠ gb274) (fun k_ => ((fun k_ => ((P0_0_ k_ ∨ P2_4_ k_ ∨ P3_4_ k_) ∨ w.heap.size ≤ k_) ∧ k_ ≠ gb271 ∧ k_ ≠ gb272 ∧ k_ ≠ gb273 ∧ k_ ≠ gb274)) k_ ∧ some k_ ≠ (.slice none 0 0 : Value).ownBlock) rfl rfl ?aO ?aR (fun _ hk => hk) ?aF ?aB ?aS ?aL ?_;(case aR => exact (by skip;exact Kd.V_F (Kd.V_mono (ok':=(fun k_ => ((fun k_ => ((P0_0_ k_ ∨ P2_4_ k_ ∨ P3_4_ k_) ∨ w.heap.size ≤ k_) ∧ k_ ≠ gb271 ∧ k_ ≠ gb272 ∧ k_ ≠ gb273 ∧ k_ ≠ gb274)) k_ ∧ some k_ ≠ (.slice none 0 0 : Value).ownBlock)) (HL277_0.out) (fun k_ hk => ⟨⟨hk.1,⟨hk.2.1,⟨hk.2.2.1,⟨hk.2.2.2.1,hk.2.2.2.2⟩⟩⟩⟩,(by simp [Value.ownBlock])⟩))));(case aB => exact (bL4 HB GE271 GE272 GE273 GE274));(case aF => exact (fun k_ hk => ⟨(.inr (Nat.le_trans (below_size (bL4 HB GE271 GE272 GE273 GE274)) hk)),Kd.freshB (bK BK271) k_ hk,Kd.freshB (bK BK272) k_ hk,Kd.freshB (bK BK273) k_ hk,Kd.freshB (bK BK274) k_ hk⟩));(case aO => exact ((Kd.N_nil _ _ _ _ (fun k_ => ((P0_0_ k_ ∨ P2_4_ k_ ∨ P3_4_ k_) ∨ w.heap.size ≤ k_) ∧ k_ ≠ gb271 ∧ k_ ≠ gb272 ∧ k_ ≠ gb273 ∧ k_ ≠ gb274))));(case aS => exact (below_size (bL4 HB GE271 GE272 GE273 GE274)));(case aL => have:=LMc23.out;omega);intro v279 w57 ho hb hg hat;rw [← Ny278.out] at ho;replace HO_272000:=Aside0.mk (Kd.V_afterv (Kd.V_apart_nil (vK HO_272000)) hg hat);replace HO_273004:=Aside0.mk (Kd.V_afterv (Kd.V_apart_nil (vK HO_273004)) hg hat);replace HO_274004:=Aside0.mk (Kd.V_afterv (Kd.V_apart_nil (vK HO_274004)) hg hat);replace BK271:=Aside0.mk (blk_grown (bK BK271) hg (by simp [Value.ownBlock]));replace BK272:=Aside0.mk (blk_grown (bK BK272) hg (by simp [Value.ownBlock]));replace BK273:=Aside0.mk (blk_grown (bK BK273) hg (by simp [Value.ownBlock]));replace BK274:=Aside0.mk (blk_grown (bK BK274) hg (by simp [Value.ownBlock]));replace HL277_0:=Aside0.mk (Kd.V_afterv (Kd.V_apart_nil (vK HL277_0)) hg hat);replace HB:=Aside0.mk (hb);have HO280:=Aside0.mk (ho);clear ho hb hg hat;obtain ⟨Ao58,co58,eo58⟩:=Kd.N_slice HO280.out;subst eo58;have hnb59:=NB274_273.out;have hnc59:=NB273_274.out;have hcz60_0 : w57.cell? ⟨gb274,0,none⟩ = some (.slice none 0 0):=(blk_cell BK274.out 0).trans rfl;have hfz60_0:=blk_frozen BK274.out 0))
       refine bodyPost_ret (results_ct rfl _ _ gb274 27 #[.slice none 0 0] (0,0) _ rfl (by (with_reducible repeat (first|refine blk_drewN ?_ _|refine blk_drew ?_|refine blk_alloc ?_ _));refine blk_put (cs:=#[.slice none 0 0]) ?_ 0 _ rfl;(with_reducible repeat (first|refine blk_drewN ?_ _|refine blk_drew ?_|refine blk_alloc ?_ _));exact BK274.out) Try.underlying27 rfl (by kernel_rfl)) rfl ?_
       exact ⟨_,by first|rfl|(simp [errW_none,errW_some] <;> rfl)|(simp [*,errW_none,errW_some] <;> rfl),by first|exact Kd.R_nil _ _ _ _ _|exact Kd.N_nil _ _ _ _ _|exact Kd.V_nil _ _ _ _ _|exact Kd.Q_nil _ _ _ _ _|exact Kd.S_nil _ _ _ _ _,by repeat (first|(with_reducible first|exact HB.out|apply below_alloc|apply pw_below_drewN|apply below_drew1|refine below_set ?_ GE271.out|refine below_set ?_ GE272.out|refine below_set ?_ GE273.out|refine below_set ?_ GE274.out)|exact HB.out)⟩
      rw [if_neg c47] at H
      have c47b0 : decide (24 ≤ (y278.length : Int)) = false:=decide_eq_false c47
      have c47b1 : decide (24 ≤ y278.length) = false:=decide_eq_false (by omega)
      clear c47
      by_cases c61 : y278.length < 1099511627776
      ·rw [if_pos c61] at H
       have LMc61:=Aside0.mk c61
       clear c61
       obtain ⟨y285a,hy285a⟩ : ∃ y_ : List (S82),y_ = (y278 ++ [(⟨(⟨0,0,(⟨#[]⟩ : ByteArray),0,([] : List (S35))⟩ : S35),(⟨0,0,(⟨#[]⟩ : ByteArray),0,([] : List (S35))⟩ : S35)⟩ : S82)]):=⟨_,rfl⟩
       replace H : (if 0 ≤ t275 then (if t275 < (y285a.length : Int) then ((windlassref4_with.f l0_0 a1 ((shiftRow y285a t275).set (t275 : Int).toNat (⟨(⟨a2_0,a2_1,a2_2,a2_3,l2_4⟩ : S35),(⟨a3_0,a3_1,a3_2,a3_3,l3_4⟩ : S35)⟩ : S82))).bind fun t289 => (some (t289,0))) else (none)) else (none)) = some (r1,r2):=by first|(rw [hy285a];with_reducible exact H)|(have H2_:=(Option.bind_some _ _).symm.trans H;rw [hy285a];with_reducible exact H2_)|(have H2_:=(Option.bind_some _ _).symm.trans H;with_reducible exact H2_)|with_reducible exact H|(rw [hy285a];exact H)|exact H
       have Ny285a:=Aside0.mk hy285a
       clear hy285a
       obtain ⟨y285,hy285⟩ : ∃ y_ : List (S82),y_ = shiftRow y285a t275:=⟨_,rfl⟩
       have hlen285 : y285a.length = y285.length:=by rw [hy285,shiftRow_length]
       rw [hlen285,← hy285] at H
       have LEN:=Aside0.mk hlen285
       have LENb:=Aside0.mk (show y285a.length = y278.length + 1 by rw [Ny285a.out];simp)
       have Ny285:=Aside0.mk hy285
       clear hlen285 hy285
       by_cases c62 : 0 ≤ t275
       ·rw [if_pos c62] at H
        have c62b0 : decide (0 ≤ t275) = true:=decide_eq_true c62
        clear c62
        by_cases c63 : t275 < (y285.length : Int)
        ·rw [if_pos c63] at H
         have c63b0 : decide (t275 < (y285.length : Int)) = true:=decide_eq_true c63
         obtain ⟨ji,hji⟩ : ∃ j_ : Int,t275 + 1 = j_:=⟨_,rfl⟩
         have hjiw : IntKind.i64.wrap (t275 + 1) = ji:=by rw [← hji];have h0_:=of_decide_eq_true c62b0;have h1_:=of_decide_eq_true c63b0;have h2_:=LENb.out;have h3_:=LMc61.out;have h4_:=LEN.out;exact wrap_small _ (by omega) (by omega)
         have hji0 : decide (0 ≤ ji) = true:=by have h0_:=of_decide_eq_true c62b0;exact decide_eq_true (by omega)
         have hji1 : decide (ji ≤ (y285.length : Int)) = true:=by have h1_:=of_decide_eq_true c63b0;exact decide_eq_true (by omega)
         have hjm1 : decide (t275 ≤ (y285.length : Int)) = true:=by have h1_:=of_decide_eq_true c63b0;exact decide_eq_true (by omega)
         have hji0b:=eq_true (of_decide_eq_true hji0)
         have hji1b:=eq_true (of_decide_eq_true hji1)
         have hjm1b:=eq_true (of_decide_eq_true hjm1)
         have HJI:=Aside0.mk hji
         clear hji
         clear c63
         obtain ⟨y288,hy288⟩ : ∃ y_ : List (S82),y_ = (y285.set (t275 : Int).toNat (⟨(⟨a2_0,a2_1,a2_2,a2_3,l2_4⟩ : S35),(⟨a3_0,a3_1,a3_2,a3_3,l3_4⟩ : S35)⟩ : S82)):=⟨_,rfl⟩
         replace H : ((windlassref4_with.f l0_0 a1 y288).bind fun t289 => (some (t289,0))) = some (r1,r2):=by first|(rw [hy288];with_reducible exact H)|(have H2_:=(Option.bind_some _ _).symm.trans H;rw [hy288];with_reducible exact H2_)|(have H2_:=(Option.bind_some _ _).symm.trans H;with_reducible exact H2_)|with_reducible exact H|(rw [hy288];exact H)|exact H
         have Ny288:=Aside0.mk hy288
         clear hy288
         replace H:=Option.bind_eq_some_iff.mp H
         obtain ⟨t289,A650,H⟩:=H
         replace H : (some (t289,0)) = some (r1,r2):=H
         have A65:=Aside0.mk A650
         clear A650
         simp only [Option.some.injEq,Prod.mk.injEq] at H
         obtain ⟨rfl,rfl⟩:=H
         have hnb66:=NB271_272.out
         have hnc66:=NB272_271.out
         have hnb67:=NB271_273.out
         have hnc67:=NB273_271.out
         have hnb68:=NB271_274.out
         have hnc68:=NB274_271.out
         have hcz69_0 : wc.cell? ⟨gb271,0,none⟩ = some (.slice A0_0 l0_0.length c0_0):=(blk_cell BK271.out 0).trans rfl
         have hfz69_0:=blk_frozen BK271.out 0
         have hnb70:=NB272_273.out
         have hnc70:=NB273_272.out
         have hnb71:=NB272_274.out
         have hnc71:=NB274_272.out
         have hcz72_0 : wc.cell? ⟨gb272,0,none⟩ = some (.int .i64 a2_0):=(blk_cell BK272.out 0).trans rfl
         have hcz72_1 : wc.cell? ⟨gb272,1,none⟩ = some (.int .i64 a2_1):=(blk_cell BK272.out 1).trans rfl
         have hcz72_2 : wc.cell? ⟨gb272,2,none⟩ = some (.string a2_2):=(blk_cell BK272.out 2).trans rfl
         have hcz72_3 : wc.cell? ⟨gb272,3,none⟩ = some (.int .i64 a2_3):=(blk_cell BK272.out 3).trans rfl
         have hcz72_4 : wc.cell? ⟨gb272,4,none⟩ = some (.slice A2_4 l2_4.length c2_4):=(blk_cell BK272.out 4).trans rfl
         have hfz72_0:=blk_frozen BK272.out 0
         have hfz72_1:=blk_frozen BK272.out 1
         have hfz72_2:=blk_frozen BK272.out 2
         have hfz72_3:=blk_frozen BK272.out 3
         have hfz72_4:=blk_frozen BK272.out 4
         go_wp2_with (first|((with_reducible refine gate_callee (f:=43) rfl ?_);refine goesL_ (some 27) rfl rfl Try.func43 (by kernel_rfl) rfl #[.agg #[.slice A0_0 l0_0.length c0_0], .int .i64 a1, .agg #[.int .i64 a2_0, .int .i64 a2_1, .string a2_2, .int .i64 a2_3, .slice A2_4 l2_4.length c2_4]] rfl aG ?_;(with_reducible refine (windlassref4_at.calls kj4 _ _ l0_0 a1 a2_0 a2_1 a2_2 a2_3 _ _ l2_4 t275 false _ ?side1 ?side2 ?side3 ?side4 A20.out).mono ?_);(case side1 => repeat (first|exact (Kd.V_reads' HO_272000.out).2.2|(with_reducible refine Kd.C_alloc ?_ _)|(with_reducible refine Kd.C_drewN ?_ _)|(with_reducible refine Kd.C_drew ?_)));(case side2 => exact (Kd.V_reads' HO_272000.out).2.1);(case side3 => repeat (first|exact (Kd.V_reads' HO_273004.out).2.2|(with_reducible refine Kd.C_alloc ?_ _)|(with_reducible refine Kd.C_drewN ?_ _)|(with_reducible refine Kd.C_drew ?_)));(case side4 => exact (Kd.V_reads' HO_273004.out).2.1);rintro e w73 ⟨rfl,hb⟩;refine ⟨_,rfl,?_⟩;replace HO_272000:=Aside0.mk (Kd.V_below (vK HO_272000) hb);replace HO_273004:=Aside0.mk (Kd.V_below (vK HO_273004) hb);replace HO_274004:=Aside0.mk (Kd.V_below (vK HO_274004) hb);replace BK271:=bB BK271 hb;replace BK272:=bB BK272 hb;replace BK273:=bB BK273 hb;replace BK274:=bB BK274 hb;replace HB:=Aside0.mk (below_step (bL4 HB GE271 GE272 GE273 GE274) hb);(try clear hb);(try clear hb2);(try clear hk);(try clear hi);have hcz74_0 : w73.cell? ⟨gb271,0,none⟩ = some (.slice A0_0 l0_0.length c0_0):=(blk_cell BK271.out 0).trans rfl;have hfz74_0:=blk_frozen BK271.out 0;have p277 : 0 ≤ (a1 : Int):=of_decide_eq_true aX;have q277 : a1 < (l0_0.length : Int):=of_decide_eq_true aX;obtain ⟨ad277,A277_0,c277_0,e277,hx277_0,hl277_0,hi277_0⟩:=at_L4 (Kd.V_reads' HO_272000.out).2.2 a1 p277 q277;cases e277;obtain ⟨ce277,hce277,hMe277,hcc277⟩:=Kd.V_get HO_272000.out [] a1 p277 (by first|exact q277|exact of_decide_eq_true aX|(have e_:=(Kd.V_reads' HO_272000.out).1;omega));obtain ⟨ua277_0,uc277_0,rfl,ul277_0,ge277_0⟩:=Kd.FK_slice_open hMe277;have hv277_0:=hcc277 0 _ rfl;rw [Nat.add_zero,show ((Kd.slice 82 k82)).sz = 1 from rfl,Nat.mul_one] at hv277_0;replace hv277_0:=Option.some.inj (hv277_0.symm.trans hx277_0);injection hv277_0 with hva_ hvn_ hvc_;rw [hva_] at ge277_0;rw [hvc_] at ul277_0;have HL277_0:=Aside0.mk (show Kd.V k82 82 _ w.heap.size _ _ (rd_L4 l0_0 a1) from Kd.V_mk ul277_0 ge277_0);clear hva_ hvn_ hvc_ ge277_0 ul277_0;clear hcc277 hce277;have HR277_0:=Aside0.mk hi277_0;have HC277_0:=Aside0.mk hl277_0;clear hi277_0 hl277_0;replace p277:=eq_true p277;replace q277:=eq_true q277)|((with_reducible refine gate_builtin (b := .append) (xs:=#[(.const (.slice none 0 0)), .tmp 34]) rfl ?_);(try (refine gate_guard (by rfl) ?_;dsimp only));at_builtin;refine Kd.N_append_rows k82 (w0:=w) w.heap.size rfl (.const (.slice none 0 0)) (.tmp 34) 41 82 (.agg #[(.int .i64 0),(.int .i64 0),(.string ⟨#[]⟩),(.int .i64 0),(.slice none 0 0),(.int .i64 0),(.int .i64 0),(.string ⟨#[]⟩),(.int .i64 0),(.slice none 0 0)]) 128 rfl Try.underlying41 info82 rfl (by decide) (by omega) (.slice none 0 0) ([] : List (S82)) (rd_L4 l0_0 a1) _ _ _ (fun k_ => ((P0_0_ k_ ∨ P2_4_ k_ ∨ P3_4_ k_) ∨ w.heap.size ≤ k_) ∧ k_ ≠ gb271 ∧ k_ ≠ gb272 ∧ k_ ≠ gb273 ∧ k_ ≠ gb274) (fun k_ => ((fun k_ => ((P0_0_ k_ ∨ P2_4_ k_ ∨ P3_4_ k_) ∨ w.heap.size ≤ k_) ∧ k_ ≠ gb271 ∧ k_ ≠ gb272 ∧ k_ ≠ gb273 ∧ k_ ≠ gb274)) k_ ∧ some k_ ≠ (.slice none 0 0 : Value).ownBlock) rfl rfl ?aO ?aR (fun _ hk => hk) ?aF ?aB ?aS ?aL ?_;(case aR => exact (by skip;exact Kd.V_F (Kd.V_mono (ok':=(fun k_ => ((fun k_ => ((P0_0_ k_ ∨ P2_4_ k_ ∨ P3_4_ k_) ∨ w.heap.size ≤ k_) ∧ k_ ≠ gb271 ∧ k_ ≠ gb272 ∧ k_ ≠ gb273 ∧ k_ ≠ gb274)) k_ ∧ some k_ ≠ (.slice none 0 0 : Value).ownBlock)) (HL277_0.out) (fun k_ hk => ⟨⟨hk.1,⟨hk.2.1,⟨hk.2.2.1,⟨hk.2.2.2.1,hk.2.2.2.2⟩⟩⟩⟩,(by simp [Value.ownBlock])⟩))));(case aB => exact (bL4 HB GE271 GE272 GE273 GE274));(case aF => exact (fun k_ hk => ⟨(.inr (Nat.le_trans (below_size (bL4 HB GE271 GE272 GE273 GE274)) hk)),Kd.freshB (bK BK271) k_ hk,Kd.freshB (bK BK272) k_ hk,Kd.freshB (bK BK273) k_ hk,Kd.freshB (bK BK274) k_ hk⟩));(case aO => exact ((Kd.N_nil _ _ _ _ (fun k_ => ((P0_0_ k_ ∨ P2_4_ k_ ∨ P3_4_ k_) ∨ w.heap.size ≤ k_) ∧ k_ ≠ gb271 ∧ k_ ≠ gb272 ∧ k_ ≠ gb273 ∧ k_ ≠ gb274))));(case aS => exact (below_size (bL4 HB GE271 GE272 GE273 GE274)));(case aL => have:=LMc23.out;omega);intro v279 w75 ho hb hg hat;rw [← Ny278.out] at ho;replace HO_272000:=Aside0.mk (Kd.V_afterv (Kd.V_apart_nil (vK HO_272000)) hg hat);replace HO_273004:=Aside0.mk (Kd.V_afterv (Kd.V_apart_nil (vK HO_273004)) hg hat);replace HO_274004:=Aside0.mk (Kd.V_afterv (Kd.V_apart_nil (vK HO_274004)) hg hat);replace BK271:=Aside0.mk (blk_grown (bK BK271) hg (by simp [Value.ownBlock]));replace BK272:=Aside0.mk (blk_grown (bK BK272) hg (by simp [Value.ownBlock]));replace BK273:=Aside0.mk (blk_grown (bK BK273) hg (by simp [Value.ownBlock]));replace BK274:=Aside0.mk (blk_grown (bK BK274) hg (by simp [Value.ownBlock]));replace HL277_0:=Aside0.mk (Kd.V_afterv (Kd.V_apart_nil (vK HL277_0)) hg hat);replace HB:=Aside0.mk (hb);have HO280:=Aside0.mk (ho);clear ho hb hg hat;obtain ⟨Ao76,co76,eo76⟩:=Kd.N_slice HO280.out;subst eo76)|((with_reducible refine gate_builtin (b := .append) (xs:=#[.tmp 50, .tmp 52]) rfl ?_);(try (refine gate_guard (by rfl) ?_;dsimp only));at_builtin;refine Kd.N_append k82 (w0:=w) w.heap.size rfl (.tmp 50) (.tmp 52) 41 82 (.agg #[(.int .i64 0),(.int .i64 0),(.string ⟨#[]⟩),(.int .i64 0),(.slice none 0 0),(.int .i64 0),(.int .i64 0),(.string ⟨#[]⟩),(.int .i64 0),(.slice none 0 0)]) 128 rfl Try.underlying41 info82 rfl (by decide) (by omega) (.slice Ao76 y278.length co76) y278 (⟨(⟨0,0,(⟨#[]⟩ : ByteArray),0,([] : List (S35))⟩ : S35),(⟨0,0,(⟨#[]⟩ : ByteArray),0,([] : List (S35))⟩ : S35)⟩ : S82) [.int .i64 0, .int .i64 0, .string (⟨#[]⟩ : ByteArray), .int .i64 0, .slice none 0 0, .int .i64 0, .int .i64 0, .string (⟨#[]⟩ : ByteArray), .int .i64 0, .slice none 0 0] (fun k_ => ((P0_0_ k_ ∨ P2_4_ k_ ∨ P3_4_ k_) ∨ w.heap.size ≤ k_) ∧ k_ ≠ gb271 ∧ k_ ≠ gb272 ∧ k_ ≠ gb273 ∧ k_ ≠ gb274) (fun k_ => ((fun k_ => ((P0_0_ k_ ∨ P2_4_ k_ ∨ P3_4_ k_) ∨ w.heap.size ≤ k_) ∧ k_ ≠ gb271 ∧ k_ ≠ gb272 ∧ k_ ≠ gb273 ∧ k_ ≠ gb274)) k_ ∧ some k_ ≠ (.slice Ao76 y278.length co76 : Value).ownBlock) rfl rfl ?aP (fun _ hk => hk) ?aF ?aO ?aB ?aS ?aL ?_;(case aP => exact (k82_mkF _ _ (⟨(⟨0,0,(⟨#[]⟩ : ByteArray),0,([] : List (S35))⟩ : S35),(⟨0,0,(⟨#[]⟩ : ByteArray),0,([] : List (S35))⟩ : S35)⟩ : S82) (Nat.le_refl _) (Kd.F_nil _ _ _) (Nat.le_refl _) (Kd.F_nil _ _ _)));(case aB => exact (bL4 HB GE271 GE272 GE273 GE274));(case aF => exact (fun k_ hk => ⟨(.inr (Nat.le_trans (below_size (bL4 HB GE271 GE272 GE273 GE274)) hk)),Kd.freshB (bK BK271) k_ hk,Kd.freshB (bK BK272) k_ hk,Kd.freshB (bK BK273) k_ hk,Kd.freshB (bK BK274) k_ hk⟩));(case aO => exact (nK HO280));(case aS => exact (below_size (bL4 HB GE271 GE272 GE273 GE274)));(case aL => have:=LMc61.out;omega);intro v286 w77a ho hb hg hat;rw [← Ny285a.out] at ho;have n0_:=Aside0.mk (Kd.V_afterv (ok:=(fun k_ => ((P0_0_ k_ ∨ P2_4_ k_ ∨ P3_4_ k_) ∨ w.heap.size ≤ k_) ∧ k_ ≠ gb271 ∧ k_ ≠ gb272 ∧ k_ ≠ gb273 ∧ k_ ≠ gb274)) (vK HO_272000) hg hat);have n1_:=Aside0.mk (Kd.V_afterv (ok:=(fun k_ => ((P0_0_ k_ ∨ P2_4_ k_ ∨ P3_4_ k_) ∨ w.heap.size ≤ k_) ∧ k_ ≠ gb271 ∧ k_ ≠ gb272 ∧ k_ ≠ gb273 ∧ k_ ≠ gb274)) (vK HO_273004) hg hat);have n2_:=Aside0.mk (Kd.V_afterv (ok:=(fun k_ => ((P0_0_ k_ ∨ P2_4_ k_ ∨ P3_4_ k_) ∨ w.heap.size ≤ k_) ∧ k_ ≠ gb271 ∧ k_ ≠ gb272 ∧ k_ ≠ gb273 ∧ k_ ≠ gb274)) (vK HO_274004) hg hat);have n3_:=Aside0.mk (blk_grown (bK BK271) hg (Kd.N_ne HO280.out BK271.out (by decide)));have n4_:=Aside0.mk (blk_grown (bK BK272) hg (Kd.N_ne HO280.out BK272.out (by decide)));have n5_:=Aside0.mk (blk_grown (bK BK273) hg (Kd.N_ne HO280.out BK273.out (by decide)));have n6_:=Aside0.mk (blk_grown (bK BK274) hg (Kd.N_ne HO280.out BK274.out (by decide)));have n7_:=Aside0.mk (Kd.V_afterv (ok:=(fun k_ => ((P0_0_ k_ ∨ P2_4_ k_ ∨ P3_4_ k_) ∨ w.heap.size ≤ k_) ∧ k_ ≠ gb271 ∧ k_ ≠ gb272 ∧ k_ ≠ gb273 ∧ k_ ≠ gb274)) (vK HL277_0) hg hat);have n8_:=Aside0.mk (hb);have n9_:=Aside0.mk (ho);clear HO_272000;clear HO_273004;clear HO_274004;clear BK271;clear BK272;clear BK273;clear BK274;clear HL277_0;clear HB;clear HO280;have HO_272000:=n0_;have HO_273004:=n1_;have HO_274004:=n2_;have BK271:=n3_;have BK272:=n4_;have BK273:=n5_;have BK274:=n6_;have HL277_0:=n7_;have HB:=n8_;have HO287:=n9_;clear n0_ n1_ n2_ n3_ n4_ n5_ n6_ n7_ n8_ n9_;clear ho hb hg hat;obtain ⟨go64,co64,eo64,gb64,gl64,cl64,HG64⟩:=Kd.N_form HO287.out (by have h_:=LENb.out;omega);rw [LEN.out] at eo64;(first|cases eo64|(injection eo64 with ea_ en_ ec_;(first|subst ea_|(injection ea_ with ea_;subst ea_));subst ec_;clear en_));have GB64:=Aside0.mk gb64;have GG64:=Aside0.mk HG64;clear gb64 gl64 HG64;have HL77:=Aside0.mk (Kd.N_reads' HO287.out).2.1;have p64:=eq_true (of_decide_eq_true c62b0);have q64:=eq_false (show ¬ co64 = t275.toNat by have h1_:=of_decide_eq_true c63b0;have h2_:=of_decide_eq_true c62b0;have h3_:=HL77.out;omega)))
         refine start_ (n:=8) (S:=fun w' => True) (ds:=[]) #[fF,fF,fF,fF,fF,fF,fF,fF] (by kernel_rfl) rfl rfl trivial (fun hHeld => ?_)
         refine with_tabW rput.tab11 rput.bits11 (fun HT_ HW_ => ?_)
         have n_:=Aside0.mk (Kd.V_drew HO_272000.out)
         clear HO_272000
         have HO_272000:=n_
         clear n_
         have n_:=Aside0.mk (Kd.V_drew HO_273004.out)
         clear HO_273004
         have HO_273004:=n_
         clear n_
         have n_:=Aside0.mk (Kd.V_drew HO_274004.out)
         clear HO_274004
         have HO_274004:=n_
         clear n_
         have n_:=Aside0.mk (Kd.V_drew HL277_0.out)
         clear HL277_0
         have HL277_0:=n_
         clear n_
         have n_:=Aside0.mk (Kd.N_drew HO287.out)
         clear HO287
         have HO287:=n_
         clear n_
         have n_:=Aside0.mk (blk_drew BK271.out)
         clear BK271
         have BK271:=n_
         clear n_
         have n_:=Aside0.mk (blk_drew BK272.out)
         clear BK272
         have BK272:=n_
         clear n_
         have n_:=Aside0.mk (blk_drew BK273.out)
         clear BK273
         have BK273:=n_
         clear n_
         have n_:=Aside0.mk (blk_drew BK274.out)
         clear BK274
         have BK274:=n_
         clear n_
         have n_:=Aside0.mk (below_drew1 HB.out)
         clear HB
         have HB:=n_
         clear n_
         clear GG64
         generalize w77a.drew = w77b at HO_272000 HO_273004 HO_274004 HL277_0 HO287 BK271 BK272 BK273 BK274 HB hHeld ⊢
         refine pU 0 (some 54) HT_ rfl ?_
         refine pU 1 (some 55) HT_ rfl ?_
         refine pU 2 (some 56) HT_ rfl ?_
         refine pU 3 (some 57) HT_ rfl ?_
         refine pU 4 (some 58) HT_ rfl ?_
         refine pU 5 (some 59) HT_ rfl ?_
         refine pU 6 (some 60) HT_ rfl ?_
         refine oN 7 (some 61) HT_ rfl (fun K hK => ?_)
         refine Bx.copy_step (base:=w.heap.size) (w0:=w) rfl (.tmp 57) (.tmp 60) 41 41 rfl HO287.out t275.toNat ji.toNat (y285.length - ji.toNat) ?s1 ?s2 Try.underlying41 (by kernel_rfl) rfl ?s3 rfl ?s5 HB.out GB64.out ?_
         case s1 => have h0_:=HJI.out;have h1_:=of_decide_eq_true c63b0;have h2_:=of_decide_eq_true c62b0;omega
         case s2 => have h1_:=of_decide_eq_true hji1;omega
         case s3 => exact (Decidable.em (co64 = ji.toNat)).elim (fun hc_ => Or.inr ⟨by have h1_:=HL77.out;have h2_:=of_decide_eq_true hji1;omega,if_pos hc_⟩) (fun hc_ => Or.inl (if_neg hc_))
         case s5 => have h0_:=HJI.out;exact (Nat.min_eq_right (by omega)).symm
         intro w77 hN77 hg hb77
         rw [show ji.toNat = t275.toNat + 1 by have h0_:=HJI.out;have h2_:=of_decide_eq_true c62b0;omega] at hN77
         rw [← LEN.out] at hN77
         replace hN77 : Kd.N k82 82 w77 w.heap.size _ _ (shiftRow y285a t275):=hN77
         rw [← Ny285.out,LEN.out] at hN77
         replace HO_272000:=Aside0.mk (Kd.V_afterv (v:=(.slice (some ⟨go64,0,none⟩) y285.length co64)) (v1:=(.slice (some ⟨go64,0,none⟩) y285.length co64)) (ok:=(fun k_ => ((P0_0_ k_ ∨ P2_4_ k_ ∨ P3_4_ k_) ∨ w.heap.size ≤ k_) ∧ k_ ≠ gb271 ∧ k_ ≠ gb272 ∧ k_ ≠ gb273 ∧ k_ ≠ gb274)) (vK HO_272000) hg (.inl rfl))
         replace HO_273004:=Aside0.mk (Kd.V_afterv (v:=(.slice (some ⟨go64,0,none⟩) y285.length co64)) (v1:=(.slice (some ⟨go64,0,none⟩) y285.length co64)) (ok:=(fun k_ => ((P0_0_ k_ ∨ P2_4_ k_ ∨ P3_4_ k_) ∨ w.heap.size ≤ k_) ∧ k_ ≠ gb271 ∧ k_ ≠ gb272 ∧ k_ ≠ gb273 ∧ k_ ≠ gb274)) (vK HO_273004) hg (.inl rfl))
         replace HO_274004:=Aside0.mk (Kd.V_afterv (v:=(.slice (some ⟨go64,0,none⟩) y285.length co64)) (v1:=(.slice (some ⟨go64,0,none⟩) y285.length co64)) (ok:=(fun k_ => ((P0_0_ k_ ∨ P2_4_ k_ ∨ P3_4_ k_) ∨ w.heap.size ≤ k_) ∧ k_ ≠ gb271 ∧ k_ ≠ gb272 ∧ k_ ≠ gb273 ∧ k_ ≠ gb274)) (vK HO_274004) hg (.inl rfl))
         replace BK271:=Aside0.mk (blk_grown (bK BK271) hg (Kd.N_ne HO287.out BK271.out (by decide)))
         replace BK272:=Aside0.mk (blk_grown (bK BK272) hg (Kd.N_ne HO287.out BK272.out (by decide)))
         replace BK273:=Aside0.mk (blk_grown (bK BK273) hg (Kd.N_ne HO287.out BK273.out (by decide)))
         replace BK274:=Aside0.mk (blk_grown (bK BK274) hg (Kd.N_ne HO287.out BK274.out (by decide)))
         replace HL277_0:=Aside0.mk (Kd.V_afterv (v:=(.slice (some ⟨go64,0,none⟩) y285.length co64)) (v1:=(.slice (some ⟨go64,0,none⟩) y285.length co64)) (ok:=(fun k_ => ((P0_0_ k_ ∨ P2_4_ k_ ∨ P3_4_ k_) ∨ w.heap.size ≤ k_) ∧ k_ ≠ gb271 ∧ k_ ≠ gb272 ∧ k_ ≠ gb273 ∧ k_ ≠ gb274)) (vK HL277_0) hg (.inl rfl))
         replace HO287:=Aside0.mk (hN77)
         replace HB:=Aside0.mk hb77
         clear hg hN77 hb77
         refine hK.out _ _ trivial (fun hHeld => ?_)
         clear hK K
         refine nO ?_
         refine done_ (done_of HT_.out (by kernel_rfl)) ?_
            
         have hcz78_0 : w77.cell? ⟨gb272,0,none⟩ = some (.int .i64 a2_0):=(blk_cell BK272.out 0).trans rfl
         have hcz78_1 : w77.cell? ⟨gb272,1,none⟩ = some (.int .i64 a2_1):=(blk_cell BK272.out 1).trans rfl
         have hcz78_2 : w77.cell? ⟨gb272,2,none⟩ = some (.string a2_2):=(blk_cell BK272.out 2).trans rfl
         have hcz78_3 : w77.cell? ⟨gb272,3,none⟩ = some (.int .i64 a2_3):=(blk_cell BK272.out 3).trans rfl
         have hcz78_4 : w77.cell? ⟨gb272,4,none⟩ = some (.slice A2_4 l2_4.length c2_4):=(blk_cell BK272.out 4).trans rfl
         have hfz78_0:=blk_frozen BK272.out 0
         have hfz78_1:=blk_frozen BK272.out 1
         have hfz78_2:=blk_frozen BK272.out 2
         have hfz78_3:=blk_frozen BK272.out 3
         have hfz78_4:=blk_frozen BK272.out 4
         have hnb79:=NB273_274.out
         have hnc79:=NB274_273.out
         have hcz80_0 : w77.cell? ⟨gb273,0,none⟩ = some (.int .i64 a3_0):=(blk_cell BK273.out 0).trans rfl
         have hcz80_1 : w77.cell? ⟨gb273,1,none⟩ = some (.int .i64 a3_1):=(blk_cell BK273.out 1).trans rfl
         have hcz80_2 : w77.cell? ⟨gb273,2,none⟩ = some (.string a3_2):=(blk_cell BK273.out 2).trans rfl
         have hcz80_3 : w77.cell? ⟨gb273,3,none⟩ = some (.int .i64 a3_3):=(blk_cell BK273.out 3).trans rfl
         have hcz80_4 : w77.cell? ⟨gb273,4,none⟩ = some (.slice A3_4 l3_4.length c3_4):=(blk_cell BK273.out 4).trans rfl
         have hfz80_0:=blk_frozen BK273.out 0
         have hfz80_1:=blk_frozen BK273.out 1
         have hfz80_2:=blk_frozen BK273.out 2
         have hfz80_3:=blk_frozen BK273.out 3
         have hfz80_4:=blk_frozen BK273.out 4
         have p64 : 0 ≤ (t275 : Int):=of_decide_eq_true aX
         have q64 : (t275 : Int) < ((y285.length : Int) : Int):=of_decide_eq_true aX
         obtain ⟨ce64,hcl64,hM64,hcc64,hfr64⟩:=Kd.N_elem HO287.out z82 (t275 : Int) p64 q64
         obtain ⟨ua64_4,uc64_4,ua64_9,uc64_9,rfl,ul64_4,ge64_4,ul64_9,ge64_9⟩:=k82_openF hM64
         have hx64_0 : w77.cell? ⟨go64,(t275 : Int).toNat * 10,none⟩ = some (.int .i64 ((rd_T82 y285 t275).f0.f0)):=hcc64 0 _ rfl
         have hx64_1 : w77.cell? ⟨go64,(t275 : Int).toNat * 10 + 1,none⟩ = some (.int .i64 ((rd_T82 y285 t275).f0.f1)):=hcc64 1 _ rfl
         have hx64_2 : w77.cell? ⟨go64,(t275 : Int).toNat * 10 + 2,none⟩ = some (.string ((rd_T82 y285 t275).f0.f2)):=hcc64 2 _ rfl
         have hx64_3 : w77.cell? ⟨go64,(t275 : Int).toNat * 10 + 3,none⟩ = some (.int .i64 ((rd_T82 y285 t275).f0.f3)):=hcc64 3 _ rfl
         have hx64_4 : w77.cell? ⟨go64,(t275 : Int).toNat * 10 + 4,none⟩ = some (.slice ua64_4 ((rd_T82 y285 t275).f0.f4).length uc64_4):=hcc64 4 _ rfl
         have hx64_5 : w77.cell? ⟨go64,(t275 : Int).toNat * 10 + 5,none⟩ = some (.int .i64 ((rd_T82 y285 t275).f1.f0)):=hcc64 5 _ rfl
         have hx64_6 : w77.cell? ⟨go64,(t275 : Int).toNat * 10 + 6,none⟩ = some (.int .i64 ((rd_T82 y285 t275).f1.f1)):=hcc64 6 _ rfl
         have hx64_7 : w77.cell? ⟨go64,(t275 : Int).toNat * 10 + 7,none⟩ = some (.string ((rd_T82 y285 t275).f1.f2)):=hcc64 7 _ rfl
         have hx64_8 : w77.cell? ⟨go64,(t275 : Int).toNat * 10 + 8,none⟩ = some (.int .i64 ((rd_T82 y285 t275).f1.f3)):=hcc64 8 _ rfl
         have hx64_9 : w77.cell? ⟨go64,(t275 : Int).toNat * 10 + 9,none⟩ = some (.slice ua64_9 ((rd_T82 y285 t275).f1.f4).length uc64_9):=hcc64 9 _ rfl
         have hf64_0 : w77.frozen? ⟨go64,(t275 : Int).toNat * 10,none⟩ = false:=hfr64 0
         have hf64_1 : w77.frozen? ⟨go64,(t275 : Int).toNat * 10 + 1,none⟩ = false:=hfr64 1
         have hf64_2 : w77.frozen? ⟨go64,(t275 : Int).toNat * 10 + 2,none⟩ = false:=hfr64 2
         have hf64_3 : w77.frozen? ⟨go64,(t275 : Int).toNat * 10 + 3,none⟩ = false:=hfr64 3
         have hf64_4 : w77.frozen? ⟨go64,(t275 : Int).toNat * 10 + 4,none⟩ = false:=hfr64 4
         have hf64_5 : w77.frozen? ⟨go64,(t275 : Int).toNat * 10 + 5,none⟩ = false:=hfr64 5
         have hf64_6 : w77.frozen? ⟨go64,(t275 : Int).toNat * 10 + 6,none⟩ = false:=hfr64 6
         have hf64_7 : w77.frozen? ⟨go64,(t275 : Int).toNat * 10 + 7,none⟩ = false:=hfr64 7
         have hf64_8 : w77.frozen? ⟨go64,(t275 : Int).toNat * 10 + 8,none⟩ = false:=hfr64 8
         have hf64_9 : w77.frozen? ⟨go64,(t275 : Int).toNat * 10 + 9,none⟩ = false:=hfr64 9
         clear hcl64 hcc64 hfr64 hM64
         replace p64:=eq_true p64
         replace q64:=eq_true q64
         have HX81:=Aside0.mk (show Kd.N k82 82 w77 w.heap.size (fun k_ => ((P0_0_ k_ ∨ P2_4_ k_ ∨ P3_4_ k_) ∨ w.heap.size ≤ k_) ∧ k_ ≠ gb271 ∧ k_ ≠ gb272 ∧ k_ ≠ gb273 ∧ k_ ≠ gb274) (.slice (some ⟨go64,0,none⟩) y285.length co64) y285 from (nK HO287))
         obtain ⟨ce81,hcl81,hM81,hcc81,hfr81⟩:=Kd.N_elem HX81.out z82 (t275 : Int) (of_decide_eq_true aX) (by have h_ : (t275 : Int) < ((y285.length : Int) : Int):=of_decide_eq_true aX;first|exact h_|(have e_:=(Kd.N_reads' HO287.out).1;omega)|simpa using h_)
         obtain ⟨ua81_4,uc81_4,ua81_9,uc81_9,rfl,ul81_4,ge81_4,ul81_9,ge81_9⟩:=k82_openF hM81
         have HP81:=Kd.N_seg HX81.out (t275 : Int) (of_decide_eq_true aX) (by have h_ : (t275 : Int) < ((y285.length : Int) : Int):=of_decide_eq_true aX;first|exact h_|(have e_:=(Kd.N_reads' HO287.out).1;omega)|simpa using h_) (seg:=[.int .i64 a2_0, .int .i64 a2_1, .string a2_2, .int .i64 a2_3, .slice A2_4 l2_4.length c2_4, .int .i64 a3_0, .int .i64 a3_1, .string a3_2, .int .i64 a3_3, .slice A3_4 l3_4.length c3_4]) (j:=0) hcl81 hcc81 (show 10 ≤ 10 from by decide) (x':=(⟨(⟨a2_0,a2_1,a2_2,a2_3,l2_4⟩ : S35),(⟨a3_0,a3_1,a3_2,a3_3,l3_4⟩ : S35)⟩ : S82)) (k82_mkF _ _ (⟨(⟨a2_0,a2_1,a2_2,a2_3,l2_4⟩ : S35),(⟨a3_0,a3_1,a3_2,a3_3,l3_4⟩ : S35)⟩ : S82) (Kd.V_reads' (Kd.V_mono (ok':=(fun k_ => ((fun k_ => ((P0_0_ k_ ∨ P2_4_ k_ ∨ P3_4_ k_) ∨ w.heap.size ≤ k_) ∧ k_ ≠ gb271 ∧ k_ ≠ gb272 ∧ k_ ≠ gb273 ∧ k_ ≠ gb274)) k_ ∧ k_ ≠ go64)) (HO_273004.out) (fun k_ hk => ⟨⟨hk.1.1,⟨hk.1.2.1,⟨hk.1.2.2.1,⟨hk.1.2.2.2.1,hk.1.2.2.2.2⟩⟩⟩⟩,fun e_ => (hk.2) (by rw [e_];rfl)⟩))).2.1 (Kd.V_F (Kd.V_mono (ok':=(fun k_ => ((fun k_ => ((P0_0_ k_ ∨ P2_4_ k_ ∨ P3_4_ k_) ∨ w.heap.size ≤ k_) ∧ k_ ≠ gb271 ∧ k_ ≠ gb272 ∧ k_ ≠ gb273 ∧ k_ ≠ gb274)) k_ ∧ k_ ≠ go64)) (HO_273004.out) (fun k_ hk => ⟨⟨hk.1.1,⟨hk.1.2.1,⟨hk.1.2.2.1,⟨hk.1.2.2.2.1,hk.1.2.2.2.2⟩⟩⟩⟩,fun e_ => (hk.2) (by rw [e_];rfl)⟩))) (Kd.V_reads' (Kd.V_mono (ok':=(fun k_ => ((fun k_ => ((P0_0_ k_ ∨ P2_4_ k_ ∨ P3_4_ k_) ∨ w.heap.size ≤ k_) ∧ k_ ≠ gb271 ∧ k_ ≠ gb272 ∧ k_ ≠ gb273 ∧ k_ ≠ gb274)) k_ ∧ k_ ≠ go64)) (HO_274004.out) (fun k_ hk => ⟨⟨hk.1.1,⟨hk.1.2.1,⟨hk.1.2.2.1,⟨hk.1.2.2.2.1,hk.1.2.2.2.2⟩⟩⟩⟩,fun e_ => (hk.2) (by rw [e_];rfl)⟩))).2.1 (Kd.V_F (Kd.V_mono (ok':=(fun k_ => ((fun k_ => ((P0_0_ k_ ∨ P2_4_ k_ ∨ P3_4_ k_) ∨ w.heap.size ≤ k_) ∧ k_ ≠ gb271 ∧ k_ ≠ gb272 ∧ k_ ≠ gb273 ∧ k_ ≠ gb274)) k_ ∧ k_ ≠ go64)) (HO_274004.out) (fun k_ hk => ⟨⟨hk.1.1,⟨hk.1.2.1,⟨hk.1.2.2.1,⟨hk.1.2.2.2.1,hk.1.2.2.2.2⟩⟩⟩⟩,fun e_ => (hk.2) (by rw [e_];rfl)⟩)))) (fun _ hk => hk)
         have hx81_0:=hcc81 0 _ rfl
         (try simp only [show (k82).sz = 10 from rfl,Nat.mul_one,Nat.add_zero] at hx81_0)
         have hf81_0:=hfr81 0
         (try simp only [show (k82).sz = 10 from rfl,Nat.mul_one,Nat.add_zero] at hf81_0)
         have hx81_1:=hcc81 1 _ rfl
         (try simp only [show (k82).sz = 10 from rfl,Nat.mul_one,Nat.add_zero] at hx81_1)
         have hf81_1:=hfr81 1
         (try simp only [show (k82).sz = 10 from rfl,Nat.mul_one,Nat.add_zero] at hf81_1)
         have hx81_2:=hcc81 2 _ rfl
         (try simp only [show (k82).sz = 10 from rfl,Nat.mul_one,Nat.add_zero] at hx81_2)
         have hf81_2:=hfr81 2
         (try simp only [show (k82).sz = 10 from rfl,Nat.mul_one,Nat.add_zero] at hf81_2)
         have hx81_3:=hcc81 3 _ rfl
         (try simp only [show (k82).sz = 10 from rfl,Nat.mul_one,Nat.add_zero] at hx81_3)
         have hf81_3:=hfr81 3
         (try simp only [show (k82).sz = 10 from rfl,Nat.mul_one,Nat.add_zero] at hf81_3)
         have hx81_4:=hcc81 4 _ rfl
         (try simp only [show (k82).sz = 10 from rfl,Nat.mul_one,Nat.add_zero] at hx81_4)
         have hf81_4:=hfr81 4
         (try simp only [show (k82).sz = 10 from rfl,Nat.mul_one,Nat.add_zero] at hf81_4)
         have hx81_5:=hcc81 5 _ rfl
         (try simp only [show (k82).sz = 10 from rfl,Nat.mul_one,Nat.add_zero] at hx81_5)
         have hf81_5:=hfr81 5
         (try simp only [show (k82).sz = 10 from rfl,Nat.mul_one,Nat.add_zero] at hf81_5)
         have hx81_6:=hcc81 6 _ rfl
         (try simp only [show (k82).sz = 10 from rfl,Nat.mul_one,Nat.add_zero] at hx81_6)
         have hf81_6:=hfr81 6
         (try simp only [show (k82).sz = 10 from rfl,Nat.mul_one,Nat.add_zero] at hf81_6)
         have hx81_7:=hcc81 7 _ rfl
         (try simp only [show (k82).sz = 10 from rfl,Nat.mul_one,Nat.add_zero] at hx81_7)
         have hf81_7:=hfr81 7
         (try simp only [show (k82).sz = 10 from rfl,Nat.mul_one,Nat.add_zero] at hf81_7)
         have hx81_8:=hcc81 8 _ rfl
         (try simp only [show (k82).sz = 10 from rfl,Nat.mul_one,Nat.add_zero] at hx81_8)
         have hf81_8:=hfr81 8
         (try simp only [show (k82).sz = 10 from rfl,Nat.mul_one,Nat.add_zero] at hf81_8)
         have hx81_9:=hcc81 9 _ rfl
         (try simp only [show (k82).sz = 10 from rfl,Nat.mul_one,Nat.add_zero] at hx81_9)
         have hf81_9:=hfr81 9
         (try simp only [show (k82).sz = 10 from rfl,Nat.mul_one,Nat.add_zero] at hf81_9)
         clear hcl81 hcc81 hfr81 hM81
         go_wp2_with (first|((with_reducible refine gate_store (t:=82) (p:=67) rfl ?_);refine store_event (t:=82) (p:=67) (v:=?vo_w82) (w1:=((((((((((w77.setCell ⟨go64,(t275 : Int).toNat * 10,none⟩ (.int .i64 a2_0)).setCell ⟨go64,(t275 : Int).toNat * 10 + 1,none⟩ (.int .i64 a2_1)).setCell ⟨go64,(t275 : Int).toNat * 10 + 2,none⟩ (.string a2_2)).setCell ⟨go64,(t275 : Int).toNat * 10 + 3,none⟩ (.int .i64 a2_3)).setCell ⟨go64,(t275 : Int).toNat * 10 + 4,none⟩ (.slice A2_4 l2_4.length c2_4)).setCell ⟨go64,(t275 : Int).toNat * 10 + 5,none⟩ (.int .i64 a3_0)).setCell ⟨go64,(t275 : Int).toNat * 10 + 6,none⟩ (.int .i64 a3_1)).setCell ⟨go64,(t275 : Int).toNat * 10 + 7,none⟩ (.string a3_2)).setCell ⟨go64,(t275 : Int).toNat * 10 + 8,none⟩ (.int .i64 a3_3)).setCell ⟨go64,(t275 : Int).toNat * 10 + 9,none⟩ (.slice A3_4 l3_4.length c3_4))) ?hg ?ho ?hn ?hr ?_;(case ho => rfl);(case hg => rfl);(case hn => rfl);(case hr => first|(go_simp;done)|(go_simp;rfl));intro w82 hw;have hg : w77.grownBy w82 (some go64):=(by rw [hw];exact HP81.2);have hp_ : Kd.N k82 82 w82 w.heap.size (fun k_ => ((P0_0_ k_ ∨ P2_4_ k_ ∨ P3_4_ k_) ∨ w.heap.size ≤ k_) ∧ k_ ≠ gb271 ∧ k_ ≠ gb272 ∧ k_ ≠ gb273 ∧ k_ ≠ gb274) (.slice (some ⟨go64,0,none⟩) y285.length co64) y288:=(by rw [hw,Ny288.out];exact HP81.1);clear HP81;replace HO_272000:=Aside0.mk (Kd.V_afterv (v:=(.slice (some ⟨go64,0,none⟩) y285.length co64)) (v1:=(.slice (some ⟨go64,0,none⟩) y285.length co64)) (ok:=(fun k_ => ((P0_0_ k_ ∨ P2_4_ k_ ∨ P3_4_ k_) ∨ w.heap.size ≤ k_) ∧ k_ ≠ gb271 ∧ k_ ≠ gb272 ∧ k_ ≠ gb273 ∧ k_ ≠ gb274)) (vK HO_272000) hg (.inl rfl));replace HO_273004:=Aside0.mk (Kd.V_afterv (v:=(.slice (some ⟨go64,0,none⟩) y285.length co64)) (v1:=(.slice (some ⟨go64,0,none⟩) y285.length co64)) (ok:=(fun k_ => ((P0_0_ k_ ∨ P2_4_ k_ ∨ P3_4_ k_) ∨ w.heap.size ≤ k_) ∧ k_ ≠ gb271 ∧ k_ ≠ gb272 ∧ k_ ≠ gb273 ∧ k_ ≠ gb274)) (vK HO_273004) hg (.inl rfl));replace HO_274004:=Aside0.mk (Kd.V_afterv (v:=(.slice (some ⟨go64,0,none⟩) y285.length co64)) (v1:=(.slice (some ⟨go64,0,none⟩) y285.length co64)) (ok:=(fun k_ => ((P0_0_ k_ ∨ P2_4_ k_ ∨ P3_4_ k_) ∨ w.heap.size ≤ k_) ∧ k_ ≠ gb271 ∧ k_ ≠ gb272 ∧ k_ ≠ gb273 ∧ k_ ≠ gb274)) (vK HO_274004) hg (.inl rfl));replace BK271:=Aside0.mk (blk_grown (bK BK271) hg (Kd.N_ne HO287.out BK271.out (by decide)));replace BK272:=Aside0.mk (blk_grown (bK BK272) hg (Kd.N_ne HO287.out BK272.out (by decide)));replace BK273:=Aside0.mk (blk_grown (bK BK273) hg (Kd.N_ne HO287.out BK273.out (by decide)));replace BK274:=Aside0.mk (blk_grown (bK BK274) hg (Kd.N_ne HO287.out BK274.out (by decide)));replace HL277_0:=Aside0.mk (Kd.V_afterv (v:=(.slice (some ⟨go64,0,none⟩) y285.length co64)) (v1:=(.slice (some ⟨go64,0,none⟩) y285.length co64)) (ok:=(fun k_ => ((P0_0_ k_ ∨ P2_4_ k_ ∨ P3_4_ k_) ∨ w.heap.size ≤ k_) ∧ k_ ≠ gb271 ∧ k_ ≠ gb272 ∧ k_ ≠ gb273 ∧ k_ ≠ gb274)) (vK HL277_0) hg (.inl rfl));replace HO287:=Aside0.mk (hp_);replace HB:=Aside0.mk ((by rw [hw];exact below_set (below_set (below_set (below_set (below_set (below_set (below_set (below_set (below_set (below_set (HB.out) GB64.out) GB64.out) GB64.out) GB64.out) GB64.out) GB64.out) GB64.out) GB64.out) GB64.out) GB64.out : Below w.heap.size w w82));clear hg hw hp_;have hcz83_0 : w82.cell? ⟨gb271,0,none⟩ = some (.slice (some ad277) l0_0.length c0_0):=(blk_cell BK271.out 0).trans rfl;have hfz83_0:=blk_frozen BK271.out 0)|((with_reducible refine gate_callee (f:=44) rfl ?_);refine goesL_ (some 71) rfl rfl Try.func44 (by kernel_rfl) rfl #[.agg #[.slice (some ad277) l0_0.length c0_0], .int .i64 a1, .slice (some ⟨go64,0,none⟩) y288.length co64] rfl (by (try simp only [List.map_toArray,List.map_cons,List.map_nil]);first|done|(rw [show y288.length = y285.length from (Kd.N_reads' HO287.out).1.symm] <;> rfl)|rfl|(simp only [List.length_drop,List.length_take];rfl)|(go_simp;done)|(go_simp;simp;done)) ?_;(with_reducible refine (windlassref4_with.calls (fun k_ => ((((P0_0_ k_ ∨ P2_4_ k_ ∨ P3_4_ k_) ∨ w.heap.size ≤ k_) ∧ (k_ ≠ gb271 ∧ (k_ ≠ gb272 ∧ (k_ ≠ gb273 ∧ k_ ≠ gb274)))) ∧ some k_ ≠ (.slice (some ⟨go64,0,none⟩) y285.length co64 : Value).ownBlock)) _ _ l0_0 a1 (fun k_ => (((P0_0_ k_ ∨ P2_4_ k_ ∨ P3_4_ k_) ∨ w.heap.size ≤ k_) ∧ (k_ ≠ gb271 ∧ (k_ ≠ gb272 ∧ (k_ ≠ gb273 ∧ k_ ≠ gb274))))) _ _ y288 t289 _ ?side1 ?side2 A65.out).mono ?_);(case side1 => exact HO_272000.out);(case side2 => rw [show y288.length = y285.length from (Kd.N_reads' HO287.out).1.symm];exact Kd.N_V (HO287.out));rintro e w84 ⟨v290,rfl,ho0,hb⟩;refine ⟨_,rfl,?_⟩;replace HO_272000:=Aside0.mk (Kd.V_elder' (vK HO_272000) (Kd.N_base ho0) hb);replace HO_273004:=Aside0.mk (Kd.V_elder' (vK HO_273004) (Kd.N_base ho0) hb);replace HO_274004:=Aside0.mk (Kd.V_elder' (vK HO_274004) (Kd.N_base ho0) hb);replace HL277_0:=Aside0.mk (Kd.V_elder' (vK HL277_0) (Kd.N_base ho0) hb);replace HO287:=Aside0.mk (Kd.N_elder' (nK HO287) (Kd.N_base ho0) hb);have HO291:=Aside0.mk (Kd.N_lower (Kd.N_mono (ok':=fun k_ => ((P0_0_ k_ ∨ P2_4_ k_ ∨ P3_4_ k_) ∨ w.heap.size ≤ k_) ∧ k_ ≠ gb271 ∧ k_ ≠ gb272 ∧ k_ ≠ gb273 ∧ k_ ≠ gb274) ho0 (fun k_ hk_ => ⟨Or.elim hk_ (fun hs_ => Or.elim hs_ (fun hs_ => hs_.1.1) (fun hs_ => hs_.1)) (fun hn_ => (.inr (Nat.le_trans (below_size (bL4 HB GE271 GE272 GE273 GE274)) hn_))),Or.elim hk_ (fun hs_ => Or.elim hs_ (fun hs_ => hs_.1.2.1) (fun hs_ => hs_.2.1)) (fun hn_ => (Kd.freshB (bK BK271) k_ hn_)),Or.elim hk_ (fun hs_ => Or.elim hs_ (fun hs_ => hs_.1.2.2.1) (fun hs_ => hs_.2.2.1)) (fun hn_ => (Kd.freshB (bK BK272) k_ hn_)),Or.elim hk_ (fun hs_ => Or.elim hs_ (fun hs_ => hs_.1.2.2.2.1) (fun hs_ => hs_.2.2.2.1)) (fun hn_ => (Kd.freshB (bK BK273) k_ hn_)),Or.elim hk_ (fun hs_ => Or.elim hs_ (fun hs_ => hs_.1.2.2.2.2) (fun hs_ => hs_.2.2.2.2)) (fun hn_ => (Kd.freshB (bK BK274) k_ hn_))⟩)) (below_size (bL4 HB GE271 GE272 GE273 GE274)));replace BK271:=bB BK271 hb;replace BK272:=bB BK272 hb;replace BK273:=bB BK273 hb;replace BK274:=bB BK274 hb;replace HB:=Aside0.mk (below_step (bL4 HB GE271 GE272 GE273 GE274) hb);(try clear hb);(try clear hb2);(try clear hk);(try clear hi);(try clear ho0);obtain ⟨Ao85,co85,eo85⟩:=Kd.N_slice HO291.out;subst eo85;have hcz86_0 : w84.cell? ⟨gb274,0,none⟩ = some (.slice none 0 0):=(blk_cell BK274.out 0).trans rfl;have hfz86_0:=blk_frozen BK274.out 0))
         all_goals refine bodyPost_ret (results_ct rfl _ _ gb274 27 #[.slice Ao85 t289.length co85] (0,0) _ rfl (by (with_reducible repeat (first|refine blk_drewN ?_ _|refine blk_drew ?_|refine blk_alloc ?_ _));refine blk_put (cs:=#[.slice none 0 0]) ?_ 0 _ rfl;(with_reducible repeat (first|refine blk_drewN ?_ _|refine blk_drew ?_|refine blk_alloc ?_ _));exact BK274.out) Try.underlying27 rfl (by kernel_rfl)) rfl ?_
         all_goals exact ⟨_,by first|rfl|(simp [errW_none,errW_some] <;> rfl)|(simp [*,errW_none,errW_some] <;> rfl),by (with_reducible repeat (first|apply Kd.N_alloc|apply Kd.N_drewN|apply Kd.N_drew));exact Kd.N_mono (Kd.N_far (p:=⟨gb274,0,none⟩) (Kd.N_mono HO291.out (fun k_ hk => (⟨hk,hk.2.2.2.2⟩ : _ ∧ k_ ≠ gb274))) (fun _ hk => hk.2) (.slice Ao85 t289.length co85)) (fun _ hk => hk.1.1),by repeat (first|(with_reducible first|exact HB.out|apply below_alloc|apply pw_below_drewN|apply below_drew1|refine below_set ?_ GE271.out|refine below_set ?_ GE272.out|refine below_set ?_ GE273.out|refine below_set ?_ GE274.out)|exact HB.out)⟩
        rw [if_neg c63] at H
        exact absurd H (by simp)
       rw [if_neg c62] at H
       exact absurd H (by simp)
      rw [if_neg c61] at H
      exact absurd H (by simp)
     rw [if_neg c23] at H
     exact absurd H (by simp)
    rw [if_neg c22] at H
    exact absurd H (by simp)
   rw [if_neg c21] at H
   exact absurd H (by simp)

end Go.Proofs.Ytnokieaebnmljaa.PAll
