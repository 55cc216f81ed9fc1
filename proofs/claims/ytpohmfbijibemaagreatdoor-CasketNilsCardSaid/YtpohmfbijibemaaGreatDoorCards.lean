/-
  DERIVED. GIVEN WITH THE SEED: THE CARDS: each row of YtpohmfbijibemaaGreatDoorRows.lean that lists a variable, with what it lists TIED to the program's text (the seventh form; the later family's looks); each row that meets fmt, with fmt's text TOLD by the authors' own Lean function (tested against real Go, not proved from fmt's source: count such statements apart). THE CARD IS WHAT COUNTS. Prove the row's statement (the work); the ties are given (YtpohmfbijibemaaGreatDoorTie.lean); close each card by the builder's one call (the guide's Derived/Test/ToyasCard.lean, 'card_holds'). Laid BY PROGRAM, IN A SANDBOX (cutbox-door.mjs). By AI agents, Wed Nov 11 2026. No macro, syntax, notation, axiom, sorry.
-/
import Derived.Test.YtpohmfbijibemaaGreatDoorRows
import GoSem.ClaimSeven
namespace Go.Proofs.YtpohmfbijibemaaGreatDoor
namespace Rows

/-- THE TIED CARD OF 'casketlaw18.VaultNils'. -/
def vaultNilsCard : Claim7 := { stood := { row := vaultNilsRow, standIns := [], harness := (true, "ca2e7f002f971f73246dfe6fa7a1e85b790773da008806d71801462474937e3e"), looks := true }, kinds := [], alts := [], goes := true, laidByText := true, laidKinds := [.data, .pinned], laidTests := true, laidLooks := .later }
def VaultNilsCardSaid : Prop := Claim7.holds Tryz.pinned (.plain (OpenSpec.ofChange vaultNilsSpec)) vaultNilsCard

/-- THE TIED CARD OF 'casketlaw23.CasketNils'. -/
def casketNilsCard : Claim7 := { stood := { row := casketNilsRow, standIns := [], harness := (true, "ca2e7f002f971f73246dfe6fa7a1e85b790773da008806d71801462474937e3e"), looks := true }, kinds := [], alts := [], goes := true, laidByText := true, laidKinds := [.data, .data, .data, .pinned], laidTests := true, laidLooks := .later }
def CasketNilsCardSaid : Prop := Claim7.holds Tryz.pinned (.plain (OpenSpec.ofChange casketNilsSpec)) casketNilsCard

/-- THE SECOND FORM's CARD OF 'casketlaw18.VaultNils'. -/
def vaultNilsUptoCard : Claim7 := { stood := { row := vaultNilsUptoRow, standIns := [], harness := (true, "ca2e7f002f971f73246dfe6fa7a1e85b790773da008806d71801462474937e3e"), looks := true }, kinds := [], alts := [], goes := true, laidByText := true, laidKinds := [.data, .pinned], laidTests := true, laidLooks := .later }
def VaultNilsUptoCardSaid : Prop := Claim7.holds Tryz.pinned (.plain (OpenSpec.upto vaultNilsSpec)) vaultNilsUptoCard

/-- THE SECOND FORM's CARD OF 'casketlaw23.CasketNils'. -/
def casketNilsUptoCard : Claim7 := { stood := { row := casketNilsUptoRow, standIns := [], harness := (true, "ca2e7f002f971f73246dfe6fa7a1e85b790773da008806d71801462474937e3e"), looks := true }, kinds := [], alts := [], goes := true, laidByText := true, laidKinds := [.data, .data, .data, .pinned], laidTests := true, laidLooks := .later }
def CasketNilsUptoCardSaid : Prop := Claim7.holds Tryz.pinned (.plain (OpenSpec.upto casketNilsSpec)) casketNilsUptoCard
end Rows
end Go.Proofs.YtpohmfbijibemaaGreatDoor
