/-
  DERIVED. GIVEN WITH THE SEED: THE CARDS: each row of YtfcjboomlfjanaaDoorRows.lean that lists a variable, with what it lists TIED to the program's text (the seventh form; the later family's looks); each row that meets fmt, with fmt's text TOLD by the authors' own Lean function (tested against real Go, not proved from fmt's source: count such statements apart). THE CARD IS WHAT COUNTS. Prove the row's statement (the work); the ties are given (YtfcjboomlfjanaaDoorTie.lean); close each card by the builder's one call (the guide's Derived/Test/ToyasCard.lean, 'card_holds'). Laid BY PROGRAM, IN A SANDBOX (cutbox-door.mjs). By AI agents, Wed Nov 11 2026. No macro, syntax, notation, axiom, sorry.
-/
import Derived.Test.YtfcjboomlfjanaaDoorRows
import GoSem.ClaimSeven
namespace Go.Proofs.YtfcjboomlfjanaaDoor
namespace Rows

/-- THE TIED CARD OF 'casketlaw14.IndexDecodes'. -/
def indexDecodesCard : Claim7 := { stood := { row := indexDecodesRow, standIns := [], harness := (true, "d5ad1733cc7faf51b1d2039bfe8e4316da136e37dc259995b7f462a081aadd2a"), looks := false }, kinds := [], alts := [], laidByText := true, laidKinds := [.data, .pinned], laidTests := true, laidLooks := .later }
def IndexDecodesCardSaid : Prop := Claim7.holds Tryd.pinned (.plain (OpenSpec.ofChange indexDecodesSpec)) indexDecodesCard

/-- THE TIED CARD OF 'casketlaw14.IndexOwn'. -/
def indexOwnCard : Claim7 := { stood := { row := indexOwnRow, standIns := [], harness := (true, "d5ad1733cc7faf51b1d2039bfe8e4316da136e37dc259995b7f462a081aadd2a"), looks := false }, kinds := [], alts := [], laidByText := true, laidKinds := [.data, .pinned], laidTests := true, laidLooks := .later }
def IndexOwnCardSaid : Prop := Claim7.holds Tryd.pinned (.plain (OpenSpec.ofChange indexOwnSpec)) indexOwnCard

/-- THE TIED CARD OF 'casketlaw14.IndexBack'. -/
def indexBackCard : Claim7 := { stood := { row := indexBackRow, standIns := [], harness := (true, "d5ad1733cc7faf51b1d2039bfe8e4316da136e37dc259995b7f462a081aadd2a"), looks := false }, kinds := [], alts := [], laidByText := true, laidKinds := [.data, .pinned], laidTests := true, laidLooks := .later }
def IndexBackCardSaid : Prop := Claim7.holds Tryd.pinned (.plain (OpenSpec.ofChange indexBackSpec)) indexBackCard

/-- THE TIED CARD OF 'casketlaw14.IndexOneWay'. -/
def indexOneWayCard : Claim7 := { stood := { row := indexOneWayRow, standIns := [], harness := (true, "d5ad1733cc7faf51b1d2039bfe8e4316da136e37dc259995b7f462a081aadd2a"), looks := false }, kinds := [], alts := [], laidByText := true, laidKinds := [.data, .pinned], laidTests := true, laidLooks := .later }
def IndexOneWayCardSaid : Prop := Claim7.holds Tryd.pinned (.plain (OpenSpec.ofChange indexOneWaySpec)) indexOneWayCard

/-- THE TIED CARD OF 'casketlaw14.IndexCut'. -/
def indexCutCard : Claim7 := { stood := { row := indexCutRow, standIns := [], harness := (true, "d5ad1733cc7faf51b1d2039bfe8e4316da136e37dc259995b7f462a081aadd2a"), looks := false }, kinds := [], alts := [], laidByText := true, laidKinds := [.data, .pinned], laidTests := true, laidLooks := .later }
def IndexCutCardSaid : Prop := Claim7.holds Tryd.pinned (.plain (OpenSpec.ofChange indexCutSpec)) indexCutCard

/-- THE SECOND FORM's CARD OF 'casketlaw14.IndexDecodes'. -/
def indexDecodesUptoCard : Claim7 := { stood := { row := indexDecodesUptoRow, standIns := [], harness := (true, "d5ad1733cc7faf51b1d2039bfe8e4316da136e37dc259995b7f462a081aadd2a"), looks := false }, kinds := [], alts := [], laidByText := true, laidKinds := [.data, .pinned], laidTests := true, laidLooks := .later }
def IndexDecodesUptoCardSaid : Prop := Claim7.holds Tryd.pinned (.plain (OpenSpec.upto indexDecodesSpec)) indexDecodesUptoCard

/-- THE SECOND FORM's CARD OF 'casketlaw14.IndexOwn'. -/
def indexOwnUptoCard : Claim7 := { stood := { row := indexOwnUptoRow, standIns := [], harness := (true, "d5ad1733cc7faf51b1d2039bfe8e4316da136e37dc259995b7f462a081aadd2a"), looks := false }, kinds := [], alts := [], laidByText := true, laidKinds := [.data, .pinned], laidTests := true, laidLooks := .later }
def IndexOwnUptoCardSaid : Prop := Claim7.holds Tryd.pinned (.plain (OpenSpec.upto indexOwnSpec)) indexOwnUptoCard

/-- THE SECOND FORM's CARD OF 'casketlaw14.IndexBack'. -/
def indexBackUptoCard : Claim7 := { stood := { row := indexBackUptoRow, standIns := [], harness := (true, "d5ad1733cc7faf51b1d2039bfe8e4316da136e37dc259995b7f462a081aadd2a"), looks := false }, kinds := [], alts := [], laidByText := true, laidKinds := [.data, .pinned], laidTests := true, laidLooks := .later }
def IndexBackUptoCardSaid : Prop := Claim7.holds Tryd.pinned (.plain (OpenSpec.upto indexBackSpec)) indexBackUptoCard

/-- THE SECOND FORM's CARD OF 'casketlaw14.IndexOneWay'. -/
def indexOneWayUptoCard : Claim7 := { stood := { row := indexOneWayUptoRow, standIns := [], harness := (true, "d5ad1733cc7faf51b1d2039bfe8e4316da136e37dc259995b7f462a081aadd2a"), looks := false }, kinds := [], alts := [], laidByText := true, laidKinds := [.data, .pinned], laidTests := true, laidLooks := .later }
def IndexOneWayUptoCardSaid : Prop := Claim7.holds Tryd.pinned (.plain (OpenSpec.upto indexOneWaySpec)) indexOneWayUptoCard

/-- THE SECOND FORM's CARD OF 'casketlaw14.IndexCut'. -/
def indexCutUptoCard : Claim7 := { stood := { row := indexCutUptoRow, standIns := [], harness := (true, "d5ad1733cc7faf51b1d2039bfe8e4316da136e37dc259995b7f462a081aadd2a"), looks := false }, kinds := [], alts := [], laidByText := true, laidKinds := [.data, .pinned], laidTests := true, laidLooks := .later }
def IndexCutUptoCardSaid : Prop := Claim7.holds Tryd.pinned (.plain (OpenSpec.upto indexCutSpec)) indexCutUptoCard
end Rows
end Go.Proofs.YtfcjboomlfjanaaDoor
