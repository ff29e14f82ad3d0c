-- Laid by a program of this seat (wip/merge.py): HKnownP.
import Derived.Test.YtnokieaebnmljaaMHeapOrders3
import Derived.Test.YtnokieaebnmljaaMHeapOrders2
namespace Go.Proofs.Ytnokieaebnmljaa.PAll
open Go Go.Proofs Go.RowKit Go.Shelf Go.Proofs.YtnokieaebnmljaaW.PrintWords Go.Proofs.YtnokieaebnmljaaW.PrintLast Go.Proofs.YtnokieaebnmljaaW.PrintMore
set_option linter.unusedVariables false
set_option linter.unusedSimpArgs false
theorem put_one (L : List (Int × Int)) (k v : Int) (hr : Rises L) (hl : L.length < 24) :
    heap_Put.f 10 [L.map ent] 0 1 k ⟨#[]⟩ 0 [] 1 v ⟨#[]⟩ 0 [] = some ([(putL L k v).map ent], 0) := by
  obtain ⟨ix, ok, e1, e2, e3, e4, e5⟩ := place_num k L 0 hr
  have hm : mapOf [L.map ent] 0 = L.map ent := by simp [mapOf, rd_L5]
  have hp : heap_place.f 10 [L.map ent] 0 1 k ⟨#[]⟩ 0 [] = some ((ix : Int), ok) := by
    unfold heap_place.f
    rw [hm, if_pos (call_num k L), e1]
    simp
  unfold heap_Put.f
  rw [hm, hp]
  simp only [Option.bind_some, Int.toNat_natCast]
  have hb : ([L.map ent] : List (List S82)).length ≤ 11728124029610 ∧ (L.map ent).length ≤ 549755813886 := by simp; omega
  rw [if_pos (by simp), if_pos hb]
  cases ok with
  | true =>
    rw [if_pos rfl]
    simp only [putRow, e4 v]
    simp [ent, numS]
  | false =>
    rw [if_neg (by simp), if_neg (by simp; omega)]
    simp only [putRow, e4 v]
    simp [ent, numS]
theorem known_f : windlasslaw4_known.f 10 = some true := by
  unfold windlasslaw4_known.f windlasslaw4_num.f
  have p1 : heap_Put.f 10 [([] : List (Int × Int)).map ent] 0 1 2 ⟨#[]⟩ 0 [] 1 5 ⟨#[]⟩ 0 [] = _ := put_one [] 2 5 trivial (by decide)
  have p2 : heap_Put.f 10 [([(2, 5)] : List (Int × Int)).map ent] 0 1 1 ⟨#[]⟩ 0 [] 1 6 ⟨#[]⟩ 0 [] = _ := put_one [(2, 5)] 1 6 (by simp [Rises]) (by decide)
  have n1 : heap_Next.f 10 [([(1, 6), (2, 5)] : List (Int × Int)).map ent] 0 1 1 ⟨#[]⟩ 0 [] = some (1, 2, ⟨#[]⟩, 0, [], true) := by
    unfold heap_Next.f
    rw [show mapOf [([(1, 6), (2, 5)] : List (Int × Int)).map ent] 0 = ([(1, 6), (2, 5)] : List (Int × Int)).map ent by simp [mapOf, rd_L5], if_pos (call_num 1 _)]
    simp only [List.map_cons, List.map_nil, nextOf, cval_num]
    simp [sg, ent, numS]
  have f1 : heap_First.f [([(1, 6), (2, 5)] : List (Int × Int)).map ent] 0 = some (1, 1, ⟨#[]⟩, 0, [], true) := by
    unfold heap_First.f
    simp [mapOf, rd_L5, ent, numS]
  simp only [putL] at p1 p2
  simp only [List.map_nil] at p1
  simp only [show ¬ ((2 : Int) < 1) by decide, show ¬ ((2 : Int) = 1) by decide, if_false] at p2
  rw [if_pos (by decide)]
  simp only [Option.bind_some, List.replicate]
  rw [p1]
  simp only [Option.bind_some]
  rw [p2]
  simp only [Option.bind_some]
  rw [f1]
  simp only [Option.bind_some]
  rw [n1]
  simp only [Option.bind_some]
  simp [rd_L5, windlasslaw4_known.j0]
theorem known_h (w : World) : Calls Try.prog 9 #[] w fun e w' => e = .returned (.bool true) ∧ Below w.heap.size w w' := windlasslaw4_known.calls 10 true w known_f
end Go.Proofs.Ytnokieaebnmljaa.PAll
