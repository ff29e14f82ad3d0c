/-
  DERIVED. GIVEN WITH THE SEED: THE CARDS: each row of YtnekehlghkfbdaaDoorRows.lean that lists a variable, with what it lists TIED to the program's text (the seventh form; the later family's looks); each row that meets fmt, with fmt's text TOLD by the authors' own Lean function (tested against real Go, not proved from fmt's source: count such statements apart). THE CARD IS WHAT COUNTS. Prove the row's statement (the work); the ties are given (YtnekehlghkfbdaaDoorTie.lean); close each card by the builder's one call (the guide's Derived/Test/ToyasCard.lean, 'card_holds'). Laid BY PROGRAM, IN A SANDBOX (cutbox-door.mjs). By AI agents, Wed Nov 11 2026. No macro, syntax, notation, axiom, sorry.
-/
import Derived.Test.YtnekehlghkfbdaaDoorRows
import GoSem.ClaimSeven
namespace Go.Proofs.YtnekehlghkfbdaaDoor
namespace Rows

/-- THE TIED CARD OF 'windlasslaw20.PortsPlay'. -/
def portsPlayCard : Claim7 := { stood := { row := portsPlayRow, standIns := [], harness := (true, "553b0ea15205222c780086b75d5252014419e0048898346d298214c3555ab6f0"), looks := false }, kinds := [], alts := [], laidByText := true, laidKinds := [.data, .data, .data], laidTests := true, laidLooks := .later }
def PortsPlayCardSaid : Prop := Claim7.holds Tryd.pinned (.plain (OpenSpec.ofChange portsPlaySpec)) portsPlayCard

/-- THE TIED CARD OF 'windlasslaw20.PortsOnce'. -/
def portsOnceCard : Claim7 := { stood := { row := portsOnceRow, standIns := [], harness := (true, "553b0ea15205222c780086b75d5252014419e0048898346d298214c3555ab6f0"), looks := false }, kinds := [], alts := [], laidByText := true, laidKinds := [.data, .data, .data], laidTests := true, laidLooks := .later }
def PortsOnceCardSaid : Prop := Claim7.holds Tryd.pinned (.plain (OpenSpec.ofChange portsOnceSpec)) portsOnceCard

/-- THE TIED CARD OF 'windlasslaw20.PortsAnswers'. -/
def portsAnswersCard : Claim7 := { stood := { row := portsAnswersRow, standIns := [], harness := (true, "553b0ea15205222c780086b75d5252014419e0048898346d298214c3555ab6f0"), looks := false }, kinds := [], alts := [], laidByText := true, laidKinds := [.data, .data, .data], laidTests := true, laidLooks := .later }
def PortsAnswersCardSaid : Prop := Claim7.holds Tryd.pinned (.plain (OpenSpec.ofChange portsAnswersSpec)) portsAnswersCard

/-- THE SECOND FORM's CARD OF 'windlasslaw20.PortsPlay'. -/
def portsPlayUptoCard : Claim7 := { stood := { row := portsPlayUptoRow, standIns := [], harness := (true, "553b0ea15205222c780086b75d5252014419e0048898346d298214c3555ab6f0"), looks := false }, kinds := [], alts := [], laidByText := true, laidKinds := [.data, .data, .data], laidTests := true, laidLooks := .later }
def PortsPlayUptoCardSaid : Prop := Claim7.holds Tryd.pinned (.plain (OpenSpec.upto portsPlaySpec)) portsPlayUptoCard

/-- THE SECOND FORM's CARD OF 'windlasslaw20.PortsOnce'. -/
def portsOnceUptoCard : Claim7 := { stood := { row := portsOnceUptoRow, standIns := [], harness := (true, "553b0ea15205222c780086b75d5252014419e0048898346d298214c3555ab6f0"), looks := false }, kinds := [], alts := [], laidByText := true, laidKinds := [.data, .data, .data], laidTests := true, laidLooks := .later }
def PortsOnceUptoCardSaid : Prop := Claim7.holds Tryd.pinned (.plain (OpenSpec.upto portsOnceSpec)) portsOnceUptoCard

/-- THE SECOND FORM's CARD OF 'windlasslaw20.PortsAnswers'. -/
def portsAnswersUptoCard : Claim7 := { stood := { row := portsAnswersUptoRow, standIns := [], harness := (true, "553b0ea15205222c780086b75d5252014419e0048898346d298214c3555ab6f0"), looks := false }, kinds := [], alts := [], laidByText := true, laidKinds := [.data, .data, .data], laidTests := true, laidLooks := .later }
def PortsAnswersUptoCardSaid : Prop := Claim7.holds Tryd.pinned (.plain (OpenSpec.upto portsAnswersSpec)) portsAnswersUptoCard
end Rows
end Go.Proofs.YtnekehlghkfbdaaDoor
