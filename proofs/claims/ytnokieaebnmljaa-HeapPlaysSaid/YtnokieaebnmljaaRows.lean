/-
  NARROWER THAN 'FOR EVERY INPUT', by the rows' own cells (each row's printed sentence says how): HeapPlays: loops · HeapTells: loops · HeapRestores: loops · HeapTurned: loops.
  DERIVED. THE GIVEN ROWS OF THIS SEAT. 6 by the template 'for every input the law returns true; each argument reads behind the call as it read before'; 0 by the template 'total and deterministic' (their statements: YtnokieaebnmljaaTotals.lean).
  GIVEN WITH THE SEED: the statements are not yours to turn. If you find one false, say at which input.
  Laid BY PROGRAM, IN A SANDBOX (cutbox-rows.mjs): the forced cells as the released guide's own fill.sh prints them over the translation ee1e799b9229b26b… (all of the seat's roots in one cut). By AI agents, Wed Nov 11 2026. No macro, syntax, notation, axiom, sorry.
-/
import Derived.Test.YtnokieaebnmljaaChecked
import GoSem.Claim
import GoSem.ClaimJoined
import GoSem.ClaimMapViews
import Derived.JoinedTies
import Derived.KernelRfl
namespace Go.Proofs.Ytnokieaebnmljaa
/- THE CELL 'sum', in the pinned program and in every row, IS THE sha256 OF THE DUMP (.gsa) THAT YtnokieaebnmljaaProg.lean LOADS. Nothing in Lean hashes anything: it is a label: what it is worth is what the hold of that sum in a sandbox is worth. -/
noncomputable def Try.pinned : Pinned := { name := "ytnokieaebnmljaa", sum := "ee1e799b9229b26b172b01688e661272468bc30f1ef49dd6fa0a7ec82a13dce0", checked := Try.checked }
namespace Rows
def none {H : Type} : Left H := { results := [], args := [] }

/-- 'windlasslaw4.HeapOrders': WHATEVER THE INPUT: true; the input reads as it did. -/
def heapOrdersSpec : ChangeSpec := { name := "heapOrders", fn := fun _ => fun
  | [d1, d2] => { results := [.lit (.bool true)], args := [d1, d2] }
  | _ => none }
def heapOrdersRow : OpenClaim := { program := "ytnokieaebnmljaa", sum := "ee1e799b9229b26b172b01688e661272468bc30f1ef49dd6fa0a7ec82a13dce0", func := "windlass/windlasslaw4.HeapOrders", spec := "heapOrders", unfollowed := true, recurses := true, apart := false }
def HeapOrdersSaid : Prop := heapOrdersRow.holds Try.pinned (OpenSpec.ofChange heapOrdersSpec)

/-- ITS FALSE NEIGHBOUR: 'it returns false'. Refute it at one input. -/
def heapOrdersWrong : ChangeSpec := { name := "heapOrders", fn := fun _ => fun
  | [d1, d2] => { results := [.lit (.bool false)], args := [d1, d2] }
  | _ => none }
def HeapOrdersWrongFalsely : Prop := heapOrdersRow.holds Try.pinned (OpenSpec.ofChange heapOrdersWrong)

/-- 'windlasslaw4.HeapPlays': WHATEVER THE INPUT: true; the input reads as it did. -/
def heapPlaysSpec : ChangeSpec := { name := "heapPlays", fn := fun _ => fun
  | [d1, d2] => { results := [.lit (.bool true)], args := [d1, d2] }
  | _ => none }
def heapPlaysRow : OpenClaim := { program := "ytnokieaebnmljaa", sum := "ee1e799b9229b26b172b01688e661272468bc30f1ef49dd6fa0a7ec82a13dce0", func := "windlass/windlasslaw4.HeapPlays", spec := "heapPlays", unfollowed := true, recurses := true, loops := true, apart := false }
def HeapPlaysSaid : Prop := heapPlaysRow.holds Try.pinned (OpenSpec.ofChange heapPlaysSpec)

/-- ITS FALSE NEIGHBOUR: 'it returns false'. Refute it at one input. -/
def heapPlaysWrong : ChangeSpec := { name := "heapPlays", fn := fun _ => fun
  | [d1, d2] => { results := [.lit (.bool false)], args := [d1, d2] }
  | _ => none }
def HeapPlaysWrongFalsely : Prop := heapPlaysRow.holds Try.pinned (OpenSpec.ofChange heapPlaysWrong)

/-- 'windlasslaw4.HeapTells': WHATEVER THE INPUT: true; the input reads as it did. -/
def heapTellsSpec : ChangeSpec := { name := "heapTells", fn := fun _ => fun
  | [d1, d2, d3] => { results := [.lit (.bool true)], args := [d1, d2, d3] }
  | _ => none }
def heapTellsRow : OpenClaim := { program := "ytnokieaebnmljaa", sum := "ee1e799b9229b26b172b01688e661272468bc30f1ef49dd6fa0a7ec82a13dce0", func := "windlass/windlasslaw4.HeapTells", spec := "heapTells", unfollowed := true, recurses := true, loops := true, apart := false }
def HeapTellsSaid : Prop := heapTellsRow.holds Try.pinned (OpenSpec.ofChange heapTellsSpec)

/-- ITS FALSE NEIGHBOUR: 'it returns false'. Refute it at one input. -/
def heapTellsWrong : ChangeSpec := { name := "heapTells", fn := fun _ => fun
  | [d1, d2, d3] => { results := [.lit (.bool false)], args := [d1, d2, d3] }
  | _ => none }
def HeapTellsWrongFalsely : Prop := heapTellsRow.holds Try.pinned (OpenSpec.ofChange heapTellsWrong)

/-- 'windlasslaw4.HeapOne': WHATEVER THE INPUT: true; the input reads as it did. -/
def heapOneSpec : ChangeSpec := { name := "heapOne", fn := fun _ => fun
  | [d1, d2, d3] => { results := [.lit (.bool true)], args := [d1, d2, d3] }
  | _ => none }
def heapOneRow : OpenClaim := { program := "ytnokieaebnmljaa", sum := "ee1e799b9229b26b172b01688e661272468bc30f1ef49dd6fa0a7ec82a13dce0", func := "windlass/windlasslaw4.HeapOne", spec := "heapOne", unfollowed := true, recurses := true, apart := false }
def HeapOneSaid : Prop := heapOneRow.holds Try.pinned (OpenSpec.ofChange heapOneSpec)

/-- ITS FALSE NEIGHBOUR: 'it returns false'. Refute it at one input. -/
def heapOneWrong : ChangeSpec := { name := "heapOne", fn := fun _ => fun
  | [d1, d2, d3] => { results := [.lit (.bool false)], args := [d1, d2, d3] }
  | _ => none }
def HeapOneWrongFalsely : Prop := heapOneRow.holds Try.pinned (OpenSpec.ofChange heapOneWrong)

/-- 'windlasslaw4.HeapRestores': WHATEVER THE INPUT: true; the input reads as it did. -/
def heapRestoresSpec : ChangeSpec := { name := "heapRestores", fn := fun _ => fun
  | [d1, d2, d3] => { results := [.lit (.bool true)], args := [d1, d2, d3] }
  | _ => none }
def heapRestoresRow : OpenClaim := { program := "ytnokieaebnmljaa", sum := "ee1e799b9229b26b172b01688e661272468bc30f1ef49dd6fa0a7ec82a13dce0", func := "windlass/windlasslaw4.HeapRestores", spec := "heapRestores", unfollowed := true, recurses := true, loops := true, apart := false }
def HeapRestoresSaid : Prop := heapRestoresRow.holds Try.pinned (OpenSpec.ofChange heapRestoresSpec)

/-- ITS FALSE NEIGHBOUR: 'it returns false'. Refute it at one input. -/
def heapRestoresWrong : ChangeSpec := { name := "heapRestores", fn := fun _ => fun
  | [d1, d2, d3] => { results := [.lit (.bool false)], args := [d1, d2, d3] }
  | _ => none }
def HeapRestoresWrongFalsely : Prop := heapRestoresRow.holds Try.pinned (OpenSpec.ofChange heapRestoresWrong)

/-- 'windlasslaw4.HeapTurned': WHATEVER THE INPUT: true; the input reads as it did. -/
def heapTurnedSpec : ChangeSpec := { name := "heapTurned", fn := fun _ => fun
  | [d1, d2, d3, d4, d5, d6] => { results := [.lit (.bool true)], args := [d1, d2, d3, d4, d5, d6] }
  | _ => none }
def heapTurnedRow : OpenClaim := { program := "ytnokieaebnmljaa", sum := "ee1e799b9229b26b172b01688e661272468bc30f1ef49dd6fa0a7ec82a13dce0", func := "windlass/windlasslaw4.HeapTurned", spec := "heapTurned", unfollowed := true, recurses := true, loops := true, apart := false }
def HeapTurnedSaid : Prop := heapTurnedRow.holds Try.pinned (OpenSpec.ofChange heapTurnedSpec)

/-- ITS FALSE NEIGHBOUR: 'it returns false'. Refute it at one input. -/
def heapTurnedWrong : ChangeSpec := { name := "heapTurned", fn := fun _ => fun
  | [d1, d2, d3, d4, d5, d6] => { results := [.lit (.bool false)], args := [d1, d2, d3, d4, d5, d6] }
  | _ => none }
def HeapTurnedWrongFalsely : Prop := heapTurnedRow.holds Try.pinned (OpenSpec.ofChange heapTurnedWrong)

/- THE SECOND FORM. 'bulk': how many values and letters a reading holds, each counted each time it is reached (what is shared counts as often as it is met; a slice's spare places count too). A statement '..UptoSaid' is the law's where the arguments, and the package variables that the reading takes, are together of bulk at most 1048576: NARROWER than '..Said'. Prove '..Said' where nothing that the law and all that it calls make is longer than what came in: it says more and counts as full. Else prove '..UptoSaid'. A law counts once. -/
mutual
def uptoBulk {H : Type} : DataW H → Nat
  | .lit (.string bytes) => bytes.length + 1
  | .lit _ => 1
  | .nil => 1
  | .ptr d => uptoBulk d + 1
  | .slice elems spare => uptoBulkAll elems + uptoBulkAll spare + 1
  | .agg parts => uptoBulkAll parts + 1
  | .iface _ d => uptoBulk d + 1
  | .map entries => uptoBulkEntries entries + 1
  | .held _ => 1
def uptoBulkAll {H : Type} : List (DataW H) → Nat
  | [] => 0
  | d :: r => uptoBulk d + uptoBulkAll r
def uptoBulkEntries {H : Type} : List (Lit × DataW H) → Nat
  | [] => 0
  | x :: r => uptoBulkEntry x + uptoBulkEntries r
def uptoBulkEntry {H : Type} : Lit × DataW H → Nat
  | (.string bytes, d) => bytes.length + uptoBulk d + 1
  | (_, d) => uptoBulk d + 1
 end
def uptoSmall : (H : Type) → List (DataW H) → Bool := fun _ ds => decide (uptoBulkAll ds ≤ 1048576)
def OpenSpec.upto (s : _root_.Go.ChangeSpec) : _root_.Go.OpenSpec := { _root_.Go.OpenSpec.ofChange s with cond := some uptoSmall }

/-- 'windlasslaw4.HeapOrders', WHERE WHAT IT READS IS OF BULK AT MOST 1048576: true; the input reads as it did. -/
def heapOrdersUptoRow : OpenClaim := { program := "ytnokieaebnmljaa", sum := "ee1e799b9229b26b172b01688e661272468bc30f1ef49dd6fa0a7ec82a13dce0", func := "windlass/windlasslaw4.HeapOrders", spec := "heapOrders", unfollowed := true, recurses := true, apart := false, narrowed := true }
def HeapOrdersUptoSaid : Prop := heapOrdersUptoRow.holds Try.pinned (OpenSpec.upto heapOrdersSpec)

/-- 'windlasslaw4.HeapPlays', WHERE WHAT IT READS IS OF BULK AT MOST 1048576: true; the input reads as it did. -/
def heapPlaysUptoRow : OpenClaim := { program := "ytnokieaebnmljaa", sum := "ee1e799b9229b26b172b01688e661272468bc30f1ef49dd6fa0a7ec82a13dce0", func := "windlass/windlasslaw4.HeapPlays", spec := "heapPlays", unfollowed := true, recurses := true, loops := true, apart := false, narrowed := true }
def HeapPlaysUptoSaid : Prop := heapPlaysUptoRow.holds Try.pinned (OpenSpec.upto heapPlaysSpec)

/-- 'windlasslaw4.HeapTells', WHERE WHAT IT READS IS OF BULK AT MOST 1048576: true; the input reads as it did. -/
def heapTellsUptoRow : OpenClaim := { program := "ytnokieaebnmljaa", sum := "ee1e799b9229b26b172b01688e661272468bc30f1ef49dd6fa0a7ec82a13dce0", func := "windlass/windlasslaw4.HeapTells", spec := "heapTells", unfollowed := true, recurses := true, loops := true, apart := false, narrowed := true }
def HeapTellsUptoSaid : Prop := heapTellsUptoRow.holds Try.pinned (OpenSpec.upto heapTellsSpec)

/-- 'windlasslaw4.HeapOne', WHERE WHAT IT READS IS OF BULK AT MOST 1048576: true; the input reads as it did. -/
def heapOneUptoRow : OpenClaim := { program := "ytnokieaebnmljaa", sum := "ee1e799b9229b26b172b01688e661272468bc30f1ef49dd6fa0a7ec82a13dce0", func := "windlass/windlasslaw4.HeapOne", spec := "heapOne", unfollowed := true, recurses := true, apart := false, narrowed := true }
def HeapOneUptoSaid : Prop := heapOneUptoRow.holds Try.pinned (OpenSpec.upto heapOneSpec)

/-- 'windlasslaw4.HeapRestores', WHERE WHAT IT READS IS OF BULK AT MOST 1048576: true; the input reads as it did. -/
def heapRestoresUptoRow : OpenClaim := { program := "ytnokieaebnmljaa", sum := "ee1e799b9229b26b172b01688e661272468bc30f1ef49dd6fa0a7ec82a13dce0", func := "windlass/windlasslaw4.HeapRestores", spec := "heapRestores", unfollowed := true, recurses := true, loops := true, apart := false, narrowed := true }
def HeapRestoresUptoSaid : Prop := heapRestoresUptoRow.holds Try.pinned (OpenSpec.upto heapRestoresSpec)

/-- 'windlasslaw4.HeapTurned', WHERE WHAT IT READS IS OF BULK AT MOST 1048576: true; the input reads as it did. -/
def heapTurnedUptoRow : OpenClaim := { program := "ytnokieaebnmljaa", sum := "ee1e799b9229b26b172b01688e661272468bc30f1ef49dd6fa0a7ec82a13dce0", func := "windlass/windlasslaw4.HeapTurned", spec := "heapTurned", unfollowed := true, recurses := true, loops := true, apart := false, narrowed := true }
def HeapTurnedUptoSaid : Prop := heapTurnedUptoRow.holds Try.pinned (OpenSpec.upto heapTurnedSpec)

end Rows
end Go.Proofs.Ytnokieaebnmljaa
