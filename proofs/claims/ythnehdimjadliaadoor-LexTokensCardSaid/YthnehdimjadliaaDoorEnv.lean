import Derived.RangeFuncNested
import Derived.RangeFuncLeaves
import Derived.RangeFuncFrom
import Derived.OwnWalkIn
import Derived.Deep.MidRow
import Derived.Laws.CopyOwn
import Derived.Test.YthnehdimjadliaaDoorWMore
/- The boxes of a call, all in one word; marks of ranges over functions. -/
namespace Go.Proofs.YthnehdimjadliaaDoor.Bx
open Go Go.Proofs Go.RowKit Go.Proofs.YthnehdimjadliaaDoorW.PrintWords Go.Proofs.YthnehdimjadliaaDoorW.PrintLast Go.Proofs.YthnehdimjadliaaDoorW.PrintMore
set_option linter.unusedVariables false
set_option linter.unusedSimpArgs false
abbrev Bx := Nat × Array Value × TypeId
/-- What a call has made since w: these boxes; all else is as it was. -/
structure Env (w W : World) (bs : List Bx) : Prop where
  below : Below w.heap.size w W
  blk : ∀ b ∈ bs, w.heap.size ≤ b.1 ∧ W.heap[b.1]? = some (.cells b.2.1 b.2.2 (0, 0))
  nd : (bs.map (·.1)).Nodup
section
variable {w W W1 : World} {bs : List Bx} {g j i : Nat} {cs : Array Value} {t : TypeId} {v : Value}
theorem Env.start (w : World) : Env w w [] := ⟨Below.refl _ _, by simp, by simp⟩
theorem Env.size (h : Env w W bs) : w.heap.size ≤ W.heap.size := h.below.size
theorem Env.at (h : Env w W bs) (i : Nat) (hi : bs[i]? = some (g, cs, t)) : w.heap.size ≤ g ∧ W.heap[g]? = some (.cells cs t (0, 0)) := h.blk (g, cs, t) (List.mem_of_getElem? hi)
theorem Env.lt (h : Env w W bs) (i : Nat) (hi : bs[i]? = some (g, cs, t)) : g < W.heap.size := (Array.getElem?_eq_some_iff.1 (h.at i hi).2).1
theorem Env.cell (h : Env w W bs) (i j : Nat) (hi : bs[i]? = some (g, cs, t)) (hj : cs[j]? = some v) : W.cell? ⟨g, j, none⟩ = some v := (blk_cell (h.at i hi).2 j).trans hj
theorem Env.frz (h : Env w W bs) (i j : Nat) (hi : bs[i]? = some (g, cs, t)) : W.frozen? ⟨g, j, none⟩ = false := blk_frozen (h.at i hi).2 j
theorem Env.mem (h : Env w W bs) {b : Bx} (hb : b ∈ bs) : b.1 < W.heap.size := (Array.getElem?_eq_some_iff.1 (h.blk b hb).2).1
theorem Env.old (h : Env w W bs) {a : Addr} (hc : w.cell? a = some v) : W.cell? a = some v := (h.below.cell (World.block_lt_of_cell? w _ hc)).trans hc
theorem Env.call (h : Env w W bs) (hb : Below W.heap.size W W1) : Env w W1 bs :=
  ⟨h.below.trans (hb.mono h.size), fun b hm => ⟨(h.blk b hm).1, (hb.block b.1 (h.mem hm)).trans (h.blk b hm).2⟩, h.nd⟩
theorem Env.box (h : Env w W bs) (hg : g = W.heap.size) (hx : W1.heap[g]? = some (.cells cs t (0, 0))) (hb : Below W.heap.size W W1) : Env w W1 ((g, cs, t) :: bs) := by
  have h' := h.call hb
  refine ⟨h'.below, fun b hm => ?_, ?_⟩
  · rcases List.mem_cons.1 hm with rfl | hm
    · exact ⟨by rw [hg]; exact h.size, hx⟩
    · exact h'.blk b hm
  · simp only [List.map_cons, List.nodup_cons]
    refine ⟨fun hm => ?_, h.nd⟩
    obtain ⟨b, hb', e⟩ := List.mem_map.1 hm
    have := h.mem hb'
    omega
theorem Env.alloc (h : Env w W bs) (cs : Array Value) (t : TypeId) : Env w (W.alloc (.cells cs t)) ((W.heap.size, cs, t) :: bs) :=
  h.box rfl (World.alloc_heap_new W _) (below_alloc (Below.refl _ _) _)
theorem Env.set (h : Env w W bs) (i : Nat) (hi : bs[i]? = some (g, cs, t)) (j : Nat) (v : Value) : Env w (W.setCell ⟨g, j, none⟩ v) (bs.set i (g, cs.setIfInBounds j v, t)) := by
  have hg := h.at i hi
  obtain ⟨hil, hie⟩ := List.getElem?_eq_some_iff.1 hi
  refine ⟨h.below.setCell (p := ⟨g, j, none⟩) hg.1 v, fun b hm => ?_, ?_⟩
  · obtain ⟨q, hq, hqe⟩ := List.mem_iff_getElem.1 hm
    rw [List.getElem_set] at hqe
    split at hqe
    · subst hqe
      exact ⟨hg.1, blk_put hg.2 j v rfl⟩
    · rename_i hne
      rw [List.length_set] at hq
      have hbm : b ∈ bs := by rw [← hqe]; exact List.getElem_mem _
      refine ⟨(h.blk b hbm).1, (Below.heap_setCell W ⟨g, j, none⟩ v b.1 (fun e => hne ?_)).trans (h.blk b hbm).2⟩
      have h1 : (bs.map (·.1))[i]'(by simpa using hil) = g := by simp [hie]
      have h2 : (bs.map (·.1))[q]'(by simpa using hq) = g := by simp [hqe, e]
      exact (List.getElem_inj h.nd).1 (h1.trans h2.symm)
  · have : (bs.set i (g, cs.setIfInBounds j v, t)).map (·.1) = bs.map (·.1) := by
      rw [List.map_set]
      apply List.ext_getElem
      · simp
      · intro q h1 h2
        rw [List.getElem_set]
        split
        · rename_i hiq
          subst hiq
          simp [hie]
        · rfl
    rw [this]
    exact h.nd
theorem Env.ne (h : Env w W bs) (i j : Nat) {g' : Nat} {cs' : Array Value} {t' : TypeId} (hi : bs[i]? = some (g, cs, t)) (hj : bs[j]? = some (g', cs', t')) (hij : i ≠ j) : g ≠ g' := by
  intro e
  obtain ⟨hil, hie⟩ := List.getElem?_eq_some_iff.1 hi
  obtain ⟨hjl, hje⟩ := List.getElem?_eq_some_iff.1 hj
  exact hij ((List.getElem_inj h.nd (h₀ := by simpa using hil) (h₁ := by simpa using hjl)).1 (by simp [hie, hje, e]))
theorem set_fst {α β : Type} [DecidableEq α] : ∀ (l : List (α × β)) (i : Nat) (a : α) (b b' : β), l[i]? = some (a, b) → (l.set i (a, b')).map (·.1) = l.map (·.1)
  | [], _, _, _, _, h => by simp at h
  | x :: l, 0, a, b, b', h => by simp at h; subst h; simp
  | x :: l, i + 1, a, b, b', h => by simp only [List.set_cons_succ, List.map_cons]; rw [set_fst l i a b b' (by simpa using h)]
/-- A box is written whole. -/
theorem Env.row (h : Env w W bs) (i : Nat) (hi : bs[i]? = some (g, cs, t)) (cs' : Array Value) : Env w (W.setRow g cs') (bs.set i (g, cs', t)) := by
  have hg := h.at i hi
  have hf := set_fst bs i g (cs, t) (cs', t) hi
  refine ⟨below_setRow h.below hg.1 cs', fun b hm => ?_, hf ▸ h.nd⟩
  obtain ⟨q, hq, hqe⟩ := List.mem_iff_getElem.1 hm
  obtain ⟨hil, hie⟩ := List.getElem?_eq_some_iff.1 hi
  rw [List.getElem_set] at hqe
  split at hqe
  · subst hqe
    exact ⟨hg.1, setRow_heap W g cs cs' t (0, 0) hg.2⟩
  · rename_i hne
    rw [List.length_set] at hq
    have hbm : b ∈ bs := by rw [← hqe]; exact List.getElem_mem _
    refine ⟨(h.blk b hbm).1, (setRow_other W g b.1 cs' (fun e => hne ?_)).trans (h.blk b hbm).2⟩
    have h1 : (bs.map (·.1))[i]'(by simpa using hil) = g := by simp [hie]
    have h2 : (bs.map (·.1))[q]'(by simpa using hq) = g := by simp [hqe, e]
    exact (List.getElem_inj h.nd).1 (h1.trans h2.symm)
/-- A box, or a part of it, is read. -/
theorem Env.load (h : Env w W bs) {P : Program} (i : Nat) (hi : bs[i]? = some (g, cs, t)) (ty off : Nat) {d : TypeDesc} (hu : P.underlying ty = some d) (hd : d.isRow = true) (vs : List Value) (hn : (P.info? ty).map (·.size) = some vs.length) (hv : (cs.toList.drop off).take vs.length = vs) :
    (Instr.loadAt ty (.pointer (some ⟨g, off, none⟩))).run P W = .ok (.agg vs.toArray) W := by
  refine run_loadAt_mid W g off ty vs d (fun j v hj => ?_) hu hd hn
  refine (blk_cell (h.at i hi).2 (off + j)).trans ?_
  rw [← hv] at hj
  rw [List.getElem?_take] at hj
  split at hj
  · rw [List.getElem?_drop] at hj
    simpa using hj
  · cases hj
/-- Some boxes are forgotten. -/
theorem Env.sub (h : Env w W bs) {bs' : List Bx} (hs : bs'.Sublist bs) : Env w W bs' := ⟨h.below, fun b hm => h.blk b (hs.subset hm), h.nd.sublist (hs.map _)⟩
theorem Env.drop {b : Bx} (h : Env w W (b :: bs)) : Env w W bs := h.sub (List.sublist_cons_self _ _)
/-- What an iterator does beside: blocks that are no cells turn. -/
theorem Env.from (h : Env w W bs) {B : Nat} (hB : w.heap.size ≤ B) {row : Option Nat} (hg : W.grownBy W1 row) (hr : ∀ r, row = some r → B ≤ r ∧ ∃ o : Obj, W.heap[r]? = some o ∧ o.isCells = false) : Env w W1 bs :=
  ⟨ownFrom_below (β := Unit) (Nat.le_refl _) hB () W W1 row h.below hg hr, fun b hm => ⟨(h.blk b hm).1, (hg.block b.1 (h.mem hm) (fun e => by
    obtain ⟨_, o, ho, hc⟩ := hr b.1 e.symm
    rw [(h.blk b hm).2] at ho
    cases ho
    cases hc)).trans (h.blk b hm).2⟩, h.nd⟩
theorem env_own {β : Type} {B : Nat} (hB : w.heap.size ≤ B) (f : β → List Bx) : OwnFrom B (fun s W => Env w W (f s)) := fun s X Y row hs hg hr => hs.from hB hg hr
theorem Env.obj (h : Env w W bs) {D : Nat} (hD : w.heap.size ≤ D) {o : Obj} (ho : W.heap[D]? = some o) (hc : o.isCells = false) (o' : Obj) : Env w (W.putObj D o') bs :=
  h.from (B := w.heap.size) (Nat.le_refl _) (grownBy_putObj' _ D o') (fun r e => by cases e; exact ⟨hD, _, ho, hc⟩)
end
/-- The marks of ranges over functions that a call has been through. -/
def cmark (D : Nat) : Deferred := { target := .collected D, args := #[] }
structure Marks (w W : World) (Ds : List Nat) : Prop where
  nd : Ds.Nodup
  at_ : ∀ D ∈ Ds, w.heap.size ≤ D ∧ W.heap[D]? = some (.deferred (some []))
section
variable {w W W1 : World} {Ds : List Nat} {bs : List Bx} {D : Nat}
theorem Marks.nil (w W : World) : Marks w W [] := ⟨by simp, by simp⟩
theorem Marks.call (h : Marks w W Ds) (hb : Below W.heap.size W W1) : Marks w W1 Ds := ⟨h.nd, fun D hD => ⟨(h.at_ D hD).1, (hb.block D (Array.getElem?_eq_some_iff.1 (h.at_ D hD).2).1).trans (h.at_ D hD).2⟩⟩
theorem Marks.set (h : Marks w W Ds) {g : Nat} {cs : Array Value} {t : TypeId} (hg : W.heap[g]? = some (.cells cs t (0, 0))) (j : Nat) (v : Value) : Marks w (W.setCell ⟨g, j, none⟩ v) Ds :=
  ⟨h.nd, fun D hD => ⟨(h.at_ D hD).1, (Below.heap_setCell W ⟨g, j, none⟩ v D (fun e => by
    have h1 := (h.at_ D hD).2
    simp only at e
    rw [e, hg] at h1
    cases h1)).trans (h.at_ D hD).2⟩⟩
theorem Marks.row (h : Marks w W Ds) {g : Nat} {cs : Array Value} {t : TypeId} (hg : W.heap[g]? = some (.cells cs t (0, 0))) (cs' : Array Value) : Marks w (W.setRow g cs') Ds :=
  ⟨h.nd, fun D hD => ⟨(h.at_ D hD).1, (setRow_other W g D cs' (fun e => by
    have h1 := (h.at_ D hD).2
    rw [e, hg] at h1
    cases h1)).trans (h.at_ D hD).2⟩⟩
theorem Marks.lt (h : Marks w W Ds) : ∀ D ∈ Ds, D < W.heap.size := fun D hD => (Array.getElem?_eq_some_iff.1 (h.at_ D hD).2).1
theorem Marks.from (h : Marks w W Ds) {B : Nat} (hB : ∀ D ∈ Ds, D < B) {row : Option Nat} (hg : W.grownBy W1 row) (hr : ∀ r, row = some r → B ≤ r ∧ ∃ o : Obj, W.heap[r]? = some o ∧ o.isCells = false) : Marks w W1 Ds :=
  ⟨h.nd, fun D hD => ⟨(h.at_ D hD).1, (hg.block D (h.lt D hD) (fun e => by have := (hr D e.symm).1; have := hB D hD; omega)).trans (h.at_ D hD).2⟩⟩
theorem Marks.cons (h : Marks w W Ds) (hD : w.heap.size ≤ D) (hn : ∀ E ∈ Ds, E < D) (hK : W.heap[D]? = some (.deferred (some []))) : Marks w W (D :: Ds) :=
  ⟨List.nodup_cons.2 ⟨fun hm => Nat.lt_irrefl _ (hn D hm), h.nd⟩, fun E hE => by
    rcases List.mem_cons.1 hE with rfl | hE
    · exact ⟨hD, hK⟩
    · exact h.at_ E hE⟩
def shut (W : World) : List Nat → World
  | [] => W
  | D :: Ds => shut (W.putObj D (.deferred none)) Ds
theorem Marks.tail (h : Marks w W (D :: Ds)) : Marks w (W.putObj D (.deferred none)) Ds := by
  obtain ⟨hn, hnd⟩ := List.nodup_cons.1 h.nd
  refine ⟨hnd, fun E hE => ⟨(h.at_ E (by simp [hE])).1, ?_⟩⟩
  have h1 := (h.at_ E (by simp [hE])).2
  exact ((grownBy_putObj' W D (.deferred none)).block E (Array.getElem?_eq_some_iff.1 h1).1 (fun e => by injection e with e; subst e; exact hn hE)).trans h1
theorem Env.shut (h : Env w W bs) : ∀ {Ds : List Nat}, Marks w W Ds → Env w (shut W Ds) bs := by
  intro Ds
  induction Ds generalizing W with
  | nil => intro _; exact h
  | cons D Ds ih => intro hm; exact ih (h.obj (hm.at_ D (by simp)).1 (hm.at_ D (by simp)).2 rfl _) hm.tail
theorem leaves_marks {F : Fence} {n : Nat} {P : Program} {fn : Func} {tmps : Array Value} {R : Ending → World → Prop} : ∀ {Ds : List Nat} {W : World}, Marks w W Ds →
    (∃ v, (results fn tmps).run P (Bx.shut W Ds) = .ok v (Bx.shut W Ds) ∧ R (.returned v) (Bx.shut W Ds)) → LeavesInM F n P fn tmps R (Ds.map cmark) .returning W
  | [], W, _, h => h
  | D :: Ds, W, hm, h => ⟨by simp, .inl ⟨D, _, rfl, run_takeDeferred (hm.at_ D (by simp)).2, leaves_marks hm.tail h⟩⟩
end
theorem run_row {P : Program} {o : Oper} {a : Act} {W : World} {ty : TypeId} {p x : Operand} (ho : o.op = .store ty p x) {g : Nat} {cs old : Array Value} {t : TypeId} (hp : a.eval p = .pointer (some ⟨g, 0, none⟩)) (hx : a.eval x = .agg cs)
    (hg : W.heap[g]? = some (.cells old t (0, 0))) (hi : (P.info? ty).map (·.size) = some cs.size) (hs : old.size = cs.size) (h1 : cs.all (·.oneCell') = true) : (execOp a.eval o).run P W = .ok .skip (W.setRow g cs) := by
  unfold execOp
  simp only [ho, hp, hx, Instr.storeAt, Instr.sureAddr, Sem.run_bind, Sem.run_pure, Result.andThen_ok, run_storeVar_row W g t ty old cs hg hi hs h1]
/-! Events in a round. -/
section
variable {F : Fence} {n : Nat} {P : Program} {ops : Array Oper} {rest : List Oper} {o : Oper} {a : Act} {Q : Exit → Act → World → Prop} {W : World}
theorem gatei_dst {N : Tmp} (_hN : o.dst = some N) (h : wpListIn F n P ops Q (o :: rest) a W) : wpListIn F n P ops Q (o :: rest) a W := h
theorem gatei_store {t : TypeId} {p : Tmp} {v : Operand} (_ho : o.op = .store t (.tmp p) v) (h : wpListIn F n P ops Q (o :: rest) a W) : wpListIn F n P ops Q (o :: rest) a W := h
theorem boxi_event (hgd : o.guard = none) {N : Tmp} (_hd : o.dst = some N) {e : TypeId} (ho : o.op = .alloc e ∨ ∃ x, o.op = .box e x) {cs : Array Value} {t : TypeId}
    (hrun : (execOp a.eval o).run P W = .ok (.value (.pointer (some ⟨W.heap.size, 0, none⟩))) (W.alloc (.cells cs t (0, 0))))
    (h : ∀ g, g = W.heap.size → ∀ w1, w1.heap[g]? = some (.cells cs t (0, 0)) → Below W.heap.size W w1 → wpListIn F n P ops Q rest (a.put o.dst (.pointer (some ⟨g, 0, none⟩))) w1) : wpListIn F n P ops Q (o :: rest) a W := by
  refine wpListIn_plain hgd fun K hK => ?_
  unfold Oper.wpIn
  refine ⟨fun f hf => ?_, ?_⟩
  · rcases ho with ho | ⟨x, ho⟩ <;> simp [Oper.about, ho] at hf
  · rw [Oper.semAt_plain F _ _ (by intro c hc; rcases ho with ho | ⟨x, ho⟩ <;> (rw [ho] at hc; cases hc)), hrun]
    exact hK _ _ (h _ rfl _ (World.alloc_heap_new W _) (below_alloc (Below.refl _ _) _))
theorem storei_event {w1 : World} (hgd : o.guard = none) {t : TypeId} {p : Tmp} {v : Operand} (ho : o.op = .store t (.tmp p) v) (hN : o.dst = none)
    (hrun : (execOp a.eval o).run P W = .ok .skip w1) (h : ∀ w', w' = w1 → wpListIn F n P ops Q rest a w') : wpListIn F n P ops Q (o :: rest) a W := by
  refine wpListIn_plain hgd fun K hK => ?_
  unfold Oper.wpIn
  refine ⟨fun f hf => ?_, ?_⟩
  · simp [Oper.about, ho] at hf
  · rw [Oper.semAt_plain F _ _ (by intro c hc; rw [ho] at hc; cases hc), hrun]
    show K (a.put o.dst undef) w1
    rw [hN]
    exact hK _ _ (h _ rfl)
end
end Go.Proofs.YthnehdimjadliaaDoor.Bx
