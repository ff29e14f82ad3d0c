import Derived.Test.YtnekehlghkfbdaaDoorEnv
import Derived.Test.YtnekehlghkfbdaaDoorHAns
import Derived.MapKept
import Derived.Laws.Entries
import Derived.DeepKeys3
/- A map of two whole numbers to texts that a call makes. -/
namespace Go.Proofs.YtnekehlghkfbdaaDoor.PAll
open Go Go.Proofs Go.RowKit Go.Shelf Go.Proofs.YtnekehlghkfbdaaDoorW.PrintWords Go.Proofs.YtnekehlghkfbdaaDoorW.PrintLast Go.Proofs.YtnekehlghkfbdaaDoorW.PrintMore Go.Proofs.YtnekehlghkfbdaaDoor.Bx
set_option linter.unusedVariables false
set_option linter.unusedSimpArgs false
abbrev KL := List ((Int × Int) × ByteArray)
def kv (p : Int × Int) : Value := .agg #[.int .i64 p.1, .int .i64 p.2]
def look (k : Int × Int) : KL → Option ByteArray
  | [] => none
  | p :: l => if (k.1 == p.1.1 && k.2 == p.1.2) = true then some p.2 else look k l
structure MapC (W : World) (B : Nat) (L : KL) : Prop where
  out : ∃ es n, W.heap[B]? = some (.map es n) ∧ es.toList.map (fun e => (e.key, e.val)) = L.map (fun p => (kv p.1, Value.string p.2))
theorem eqA46 (d : Nat) (w : World) (x0 y0 : Int) (x1 y1 : Int) :
    (Op.equalIn (d + 2) 46 (.agg #[.int .i64 x0, .int .i64 x1]) (.agg #[.int .i64 y0, .int .i64 y1])).run Tryd.prog w = .ok (x0 == y0 && x1 == y1) w := by
  refine eqA_of Tryd.underlying46 (by kernel_rfl) ?_
  refine eqf_cons (by rfl) (by go_simp; rfl) (by go_simp; rfl) (by go_simp) ?_
  exact eqf_last (by rfl) (by go_simp; rfl) (by go_simp; rfl) (by go_simp)
theorem eq46 (w : World) (k p : Int × Int) : (Op.equal 46 (kv k) (kv p)).run Tryd.prog w = .ok (k.1 == p.1 && k.2 == p.2) w := eqA46 9998 w k.1 p.1 k.2 p.2
theorem asking (w : World) (k : Int × Int) : ∀ (es : List MapEntry) (i : Nat) (L : KL), es.map (fun e => (e.key, e.val)) = L.map (fun p => (kv p.1, Value.string p.2)) →
    ∃ j, (Instr.findAsking 46 (kv k) es i).run Tryd.prog w = .ok ((look k L).map (fun s => (j, .string s))) w
  | [], i, L, h => by
    cases L with
    | nil => exact ⟨0, by simp [Instr.findAsking, look]⟩
    | cons p l => simp at h
  | e :: es, i, L, h => by
    cases L with
    | nil => simp at h
    | cons p l =>
      simp only [List.map_cons, List.cons.injEq, Prod.mk.injEq] at h
      obtain ⟨j, hj⟩ := asking w k es (i + 1) l h.2
      cases hb : (k.1 == p.1.1 && k.2 == p.1.2) with
      | true => exact ⟨i, by simp only [Instr.findAsking, h.1.1, h.1.2, Sem.run_bind, eq46, Result.andThen_ok, hb, look, if_true, Sem.run_pure, Option.map_some]⟩
      | false => exact ⟨j, by simp only [Instr.findAsking, h.1.1, h.1.2, Sem.run_bind, eq46, Result.andThen_ok, hb, look, Bool.false_eq_true, if_false, hj]⟩
theorem now_none (d : TypeDesc) (k : Int × Int) : ∀ (es : List MapEntry) (L : KL), es.map (fun e => (e.key, e.val)) = L.map (fun p => (kv p.1, Value.string p.2)) → Instr.findNow d (kv k) es 0 = if L = [] then some none else none
  | [], L, h => by
    cases L with
    | nil => simp [Instr.findNow]
    | cons p l => simp at h
  | e :: es, L, h => by
    cases L with
    | nil => simp at h
    | cons p l =>
      simp only [List.map_cons, List.cons.injEq, Prod.mk.injEq] at h
      cases d <;> simp [Instr.findNow, h.1.1, kv, Instr.sameNow]
theorem findKey_run (w : World) (k : Int × Int) (es : List MapEntry) (L : KL) (h : es.map (fun e => (e.key, e.val)) = L.map (fun p => (kv p.1, Value.string p.2))) :
    ∃ j, (Instr.findKey 46 (kv k) es).run Tryd.prog w = .ok ((look k L).map (fun s => (j, .string s))) w := by
  obtain ⟨j, hj⟩ := asking w k es 0 L h
  refine ⟨j, ?_⟩
  unfold Instr.findKey
  simp only [Sem.run_bind, run_underlying Tryd.underlying46, Result.andThen_ok, now_none _ k es L h]
  by_cases hL : L = []
  · subst hL
    simp [look]
  · rw [if_neg hL]
    exact hj
theorem checkKey_run (e : Bool) (w : World) (k : Int × Int) : (Instr.checkKey e 10000 46 (kv k)).run Tryd.prog w = .ok () w := by kernel_rfl
section
variable {W : World} {B : Nat} {L : KL}
theorem MapC.look (h : MapC W B L) (k : Int × Int) :
    (Instr.lookup 42 (.map (some B)) (kv k) true).run Tryd.prog W = .ok (.tuple #[.string ((PAll.look k L).getD ⟨#[]⟩), .bool (PAll.look k L).isSome]) W := by
  obtain ⟨es, n, hb, hes⟩ := h.out
  obtain ⟨j, hj⟩ := findKey_run W k es.toList L hes
  have hz : (zeroValue 9).run Tryd.prog W = .ok (.string ⟨#[]⟩) W := by kernel_rfl
  unfold Instr.lookup
  simp only [Sem.run_bind, run_underlying Tryd.underlying42, Result.andThen_ok, Go.MapKept.run_getObj_map hb, checkKey_run, Sem.run_pure, hj]
  cases hs : PAll.look k L
  · simp [Result.andThen, Sem.run_pure, Sem.run_bind, hz]
  · simp [Result.andThen, Sem.run_pure, Sem.run_bind]
theorem MapC.put (h : MapC W B L) (k : Int × Int) (s : ByteArray) (hs : PAll.look k L = none) :
    ∃ o, (Instr.mapUpdate 42 (.map (some B)) (kv k) (.string s)).run Tryd.prog W = .ok () (W.putObj B o) ∧ o.isCells = false ∧ MapC (W.putObj B o) B (L ++ [(k, s)]) := by
  obtain ⟨es, n, hb, hes⟩ := h.out
  obtain ⟨j, hj⟩ := findKey_run W k es.toList L hes
  refine ⟨.map (es.push { key := kv k, val := .string s, born := n }) (n + 1), ?_, rfl, ⟨⟨es.push { key := kv k, val := .string s, born := n }, n + 1, ?_, ?_⟩⟩⟩
  · unfold Instr.mapUpdate
    simp only [Sem.run_bind, run_underlying Tryd.underlying42, Result.andThen_ok, Go.MapKept.run_getObj_map hb, checkKey_run, Sem.run_pure, hj]
    simp [hs, Result.andThen, Sem.run_pure, Sem.run_bind, Go.MapKept.run_setObj_map _ hb, World.putObj]
  · unfold World.putObj
    have hl := (Array.getElem?_eq_some_iff.1 hb).1
    simp [hl]
  · simp [hes]
theorem MapC.block {W1 : World} (h : MapC W B L) (hb : W1.heap[B]? = W.heap[B]?) : MapC W1 B L := by
  obtain ⟨es, n, h1, h2⟩ := h.out
  exact ⟨es, n, hb.trans h1, h2⟩
theorem MapC.lt (h : MapC W B L) : B < W.heap.size := by
  obtain ⟨es, n, h1, h2⟩ := h.out
  exact (Array.getElem?_eq_some_iff.1 h1).1
theorem MapC.ne (h : MapC W B L) {g : Nat} {cs : Array Value} {t : TypeId} {q : Nat × Nat} (hg : W.heap[g]? = some (.cells cs t q)) : B ≠ g := by
  obtain ⟨es, n, h1, h2⟩ := h.out
  intro e
  rw [e, hg] at h1
  cases h1
theorem MapC.obj (h : MapC W B L) : ∃ o : Obj, W.heap[B]? = some o ∧ o.isCells = false := by
  obtain ⟨es, n, h1, h2⟩ := h.out
  exact ⟨_, h1, rfl⟩
theorem MapC.make (W : World) : MapC (W.alloc (.map #[] 0)) W.heap.size [] := ⟨#[], 0, World.alloc_heap_new W _, by simp⟩
end
end Go.Proofs.YtnekehlghkfbdaaDoor.PAll
