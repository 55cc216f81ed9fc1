/-
  No cell of these rows narrows 'for every input' (looked for: loops, veiled, ifaces, maps, wideKeys, modest, calm, conditions, laid).
  DERIVED. THE GIVEN ROWS OF THIS SEAT. 8 by the template 'for every input the law returns true; each argument reads behind the call as it read before'; 0 by the template 'total and deterministic' (their statements: YtnkdnnaelcgenaaTotals.lean).
  GIVEN WITH THE SEED: the statements are not yours to turn. If you find one false, say at which input.
  Laid BY PROGRAM, IN A SANDBOX (cutbox-rows.mjs): the forced cells as the released guide's own fill.sh prints them over the translation b97d16f853eb65f7… (all of the seat's roots in one cut). By AI agents, Wed Nov 11 2026. No macro, syntax, notation, axiom, sorry.
-/
import Derived.Test.YtnkdnnaelcgenaaChecked
import GoSem.Claim
import GoSem.ClaimJoined
import GoSem.ClaimMapViews
import Derived.JoinedTies
import Derived.KernelRfl
namespace Go.Proofs.Ytnkdnnaelcgenaa
/- THE CELL 'sum', in the pinned program and in every row, IS THE sha256 OF THE DUMP (.gsa) THAT YtnkdnnaelcgenaaProg.lean LOADS. Nothing in Lean hashes anything: it is a label: what it is worth is what the hold of that sum in a sandbox is worth. -/
noncomputable def Try.pinned : Pinned := { name := "ytnkdnnaelcgenaa", sum := "b97d16f853eb65f701bfd1e4ef874bf437c93d1f4b37e7636512d377954678f6", checked := Try.checked }
namespace Rows
def none {H : Type} : Left H := { results := [], args := [] }

/-- 'casketlaw5.PolyEquals': WHATEVER THE INPUT: true; the input reads as it did. -/
def polyEqualsSpec : ChangeSpec := { name := "polyEquals", fn := fun _ => fun
  | [d1, d2, d3, d4] => { results := [.lit (.bool true)], args := [d1, d2, d3, d4] }
  | _ => none }
def polyEqualsRow : OpenClaim := { program := "ytnkdnnaelcgenaa", sum := "b97d16f853eb65f701bfd1e4ef874bf437c93d1f4b37e7636512d377954678f6", func := "casket/casketlaw5.PolyEquals", spec := "polyEquals", apart := false }
def PolyEqualsSaid : Prop := polyEqualsRow.holds Try.pinned (OpenSpec.ofChange polyEqualsSpec)

/-- ITS FALSE NEIGHBOUR: 'it returns false'. Refute it at one input. -/
def polyEqualsWrong : ChangeSpec := { name := "polyEquals", fn := fun _ => fun
  | [d1, d2, d3, d4] => { results := [.lit (.bool false)], args := [d1, d2, d3, d4] }
  | _ => none }
def PolyEqualsWrongFalsely : Prop := polyEqualsRow.holds Try.pinned (OpenSpec.ofChange polyEqualsWrong)

/-- 'casketlaw5.PolyRuns': WHATEVER THE INPUT: true; the input reads as it did. -/
def polyRunsSpec : ChangeSpec := { name := "polyRuns", fn := fun _ => fun
  | [d1, d2, d3] => { results := [.lit (.bool true)], args := [d1, d2, d3] }
  | _ => none }
def polyRunsRow : OpenClaim := { program := "ytnkdnnaelcgenaa", sum := "b97d16f853eb65f701bfd1e4ef874bf437c93d1f4b37e7636512d377954678f6", func := "casket/casketlaw5.PolyRuns", spec := "polyRuns", apart := false }
def PolyRunsSaid : Prop := polyRunsRow.holds Try.pinned (OpenSpec.ofChange polyRunsSpec)

/-- ITS FALSE NEIGHBOUR: 'it returns false'. Refute it at one input. -/
def polyRunsWrong : ChangeSpec := { name := "polyRuns", fn := fun _ => fun
  | [d1, d2, d3] => { results := [.lit (.bool false)], args := [d1, d2, d3] }
  | _ => none }
def PolyRunsWrongFalsely : Prop := polyRunsRow.holds Try.pinned (OpenSpec.ofChange polyRunsWrong)

/-- 'casketlaw5.PolyTags': WHATEVER THE INPUT: true; the input reads as it did. -/
def polyTagsSpec : ChangeSpec := { name := "polyTags", fn := fun _ => fun
  | [d1, d2] => { results := [.lit (.bool true)], args := [d1, d2] }
  | _ => none }
def polyTagsRow : OpenClaim := { program := "ytnkdnnaelcgenaa", sum := "b97d16f853eb65f701bfd1e4ef874bf437c93d1f4b37e7636512d377954678f6", func := "casket/casketlaw5.PolyTags", spec := "polyTags", apart := false }
def PolyTagsSaid : Prop := polyTagsRow.holds Try.pinned (OpenSpec.ofChange polyTagsSpec)

/-- ITS FALSE NEIGHBOUR: 'it returns false'. Refute it at one input. -/
def polyTagsWrong : ChangeSpec := { name := "polyTags", fn := fun _ => fun
  | [d1, d2] => { results := [.lit (.bool false)], args := [d1, d2] }
  | _ => none }
def PolyTagsWrongFalsely : Prop := polyTagsRow.holds Try.pinned (OpenSpec.ofChange polyTagsWrong)

/-- 'casketlaw5.PolyKnown': WHATEVER THE INPUT: true; the input reads as it did. -/
def polyKnownSpec : ChangeSpec := { name := "polyKnown", fn := fun _ => fun
  | [] => { results := [.lit (.bool true)], args := [] }
  | _ => none }
def polyKnownRow : OpenClaim := { program := "ytnkdnnaelcgenaa", sum := "b97d16f853eb65f701bfd1e4ef874bf437c93d1f4b37e7636512d377954678f6", func := "casket/casketlaw5.PolyKnown", spec := "polyKnown", apart := false }
def PolyKnownSaid : Prop := polyKnownRow.holds Try.pinned (OpenSpec.ofChange polyKnownSpec)

/-- ITS FALSE NEIGHBOUR: 'it returns false'. Refute it at one input. -/
def polyKnownWrong : ChangeSpec := { name := "polyKnown", fn := fun _ => fun
  | [] => { results := [.lit (.bool false)], args := [] }
  | _ => none }
def PolyKnownWrongFalsely : Prop := polyKnownRow.holds Try.pinned (OpenSpec.ofChange polyKnownWrong)

/-- 'casketlaw5.PolyPieces': WHATEVER THE INPUT: true; the input reads as it did. -/
def polyPiecesSpec : ChangeSpec := { name := "polyPieces", fn := fun _ => fun
  | [d1, d2, d3] => { results := [.lit (.bool true)], args := [d1, d2, d3] }
  | _ => none }
def polyPiecesRow : OpenClaim := { program := "ytnkdnnaelcgenaa", sum := "b97d16f853eb65f701bfd1e4ef874bf437c93d1f4b37e7636512d377954678f6", func := "casket/casketlaw5.PolyPieces", spec := "polyPieces", apart := false }
def PolyPiecesSaid : Prop := polyPiecesRow.holds Try.pinned (OpenSpec.ofChange polyPiecesSpec)

/-- ITS FALSE NEIGHBOUR: 'it returns false'. Refute it at one input. -/
def polyPiecesWrong : ChangeSpec := { name := "polyPieces", fn := fun _ => fun
  | [d1, d2, d3] => { results := [.lit (.bool false)], args := [d1, d2, d3] }
  | _ => none }
def PolyPiecesWrongFalsely : Prop := polyPiecesRow.holds Try.pinned (OpenSpec.ofChange polyPiecesWrong)

/-- 'casketlaw5.PolyAdds': WHATEVER THE INPUT: true; the input reads as it did. -/
def polyAddsSpec : ChangeSpec := { name := "polyAdds", fn := fun _ => fun
  | [d1, d2] => { results := [.lit (.bool true)], args := [d1, d2] }
  | _ => none }
def polyAddsRow : OpenClaim := { program := "ytnkdnnaelcgenaa", sum := "b97d16f853eb65f701bfd1e4ef874bf437c93d1f4b37e7636512d377954678f6", func := "casket/casketlaw5.PolyAdds", spec := "polyAdds", apart := false }
def PolyAddsSaid : Prop := polyAddsRow.holds Try.pinned (OpenSpec.ofChange polyAddsSpec)

/-- ITS FALSE NEIGHBOUR: 'it returns false'. Refute it at one input. -/
def polyAddsWrong : ChangeSpec := { name := "polyAdds", fn := fun _ => fun
  | [d1, d2] => { results := [.lit (.bool false)], args := [d1, d2] }
  | _ => none }
def PolyAddsWrongFalsely : Prop := polyAddsRow.holds Try.pinned (OpenSpec.ofChange polyAddsWrong)

/-- 'casketlaw5.PolyOne': WHATEVER THE INPUT: true; the input reads as it did. -/
def polyOneSpec : ChangeSpec := { name := "polyOne", fn := fun _ => fun
  | [d1, d2] => { results := [.lit (.bool true)], args := [d1, d2] }
  | _ => none }
def polyOneRow : OpenClaim := { program := "ytnkdnnaelcgenaa", sum := "b97d16f853eb65f701bfd1e4ef874bf437c93d1f4b37e7636512d377954678f6", func := "casket/casketlaw5.PolyOne", spec := "polyOne", apart := false }
def PolyOneSaid : Prop := polyOneRow.holds Try.pinned (OpenSpec.ofChange polyOneSpec)

/-- ITS FALSE NEIGHBOUR: 'it returns false'. Refute it at one input. -/
def polyOneWrong : ChangeSpec := { name := "polyOne", fn := fun _ => fun
  | [d1, d2] => { results := [.lit (.bool false)], args := [d1, d2] }
  | _ => none }
def PolyOneWrongFalsely : Prop := polyOneRow.holds Try.pinned (OpenSpec.ofChange polyOneWrong)

/-- 'casketlaw5.PolyClamps': WHATEVER THE INPUT: true; the input reads as it did. -/
def polyClampsSpec : ChangeSpec := { name := "polyClamps", fn := fun _ => fun
  | [d1, d2, d3] => { results := [.lit (.bool true)], args := [d1, d2, d3] }
  | _ => none }
def polyClampsRow : OpenClaim := { program := "ytnkdnnaelcgenaa", sum := "b97d16f853eb65f701bfd1e4ef874bf437c93d1f4b37e7636512d377954678f6", func := "casket/casketlaw5.PolyClamps", spec := "polyClamps", apart := false }
def PolyClampsSaid : Prop := polyClampsRow.holds Try.pinned (OpenSpec.ofChange polyClampsSpec)

/-- ITS FALSE NEIGHBOUR: 'it returns false'. Refute it at one input. -/
def polyClampsWrong : ChangeSpec := { name := "polyClamps", fn := fun _ => fun
  | [d1, d2, d3] => { results := [.lit (.bool false)], args := [d1, d2, d3] }
  | _ => none }
def PolyClampsWrongFalsely : Prop := polyClampsRow.holds Try.pinned (OpenSpec.ofChange polyClampsWrong)

/- THE SECOND FORM. 'bulk': how many values and letters a reading holds, each counted each time it is reached (what is shared counts as often as it is met; a slice's spare places count too). A statement '..UptoSaid' is the law's where the arguments, and the package variables that the reading takes, are together of bulk at most 1048576: NARROWER than '..Said'. Prove '..Said' where nothing that the law and all that it calls make is longer than what came in: it says more and counts as full. Else prove '..UptoSaid'. A law counts once. -/
mutual
def uptoBulk {H : Type} : DataW H → Nat
  | .lit (.string bytes) => bytes.length + 1
  | .lit _ => 1
  | .nil => 1
  | .ptr d => uptoBulk d + 1
  | .slice elems spare => uptoBulkAll elems + uptoBulkAll spare + 1
  | .agg parts => uptoBulkAll parts + 1
  | .iface _ d => uptoBulk d + 1
  | .map entries => uptoBulkEntries entries + 1
  | .held _ => 1
def uptoBulkAll {H : Type} : List (DataW H) → Nat
  | [] => 0
  | d :: r => uptoBulk d + uptoBulkAll r
def uptoBulkEntries {H : Type} : List (Lit × DataW H) → Nat
  | [] => 0
  | x :: r => uptoBulkEntry x + uptoBulkEntries r
def uptoBulkEntry {H : Type} : Lit × DataW H → Nat
  | (.string bytes, d) => bytes.length + uptoBulk d + 1
  | (_, d) => uptoBulk d + 1
 end
def uptoSmall : (H : Type) → List (DataW H) → Bool := fun _ ds => decide (uptoBulkAll ds ≤ 1048576)
def OpenSpec.upto (s : _root_.Go.ChangeSpec) : _root_.Go.OpenSpec := { _root_.Go.OpenSpec.ofChange s with cond := some uptoSmall }

/-- 'casketlaw5.PolyEquals', WHERE WHAT IT READS IS OF BULK AT MOST 1048576: true; the input reads as it did. -/
def polyEqualsUptoRow : OpenClaim := { program := "ytnkdnnaelcgenaa", sum := "b97d16f853eb65f701bfd1e4ef874bf437c93d1f4b37e7636512d377954678f6", func := "casket/casketlaw5.PolyEquals", spec := "polyEquals", apart := false, narrowed := true }
def PolyEqualsUptoSaid : Prop := polyEqualsUptoRow.holds Try.pinned (OpenSpec.upto polyEqualsSpec)

/-- 'casketlaw5.PolyRuns', WHERE WHAT IT READS IS OF BULK AT MOST 1048576: true; the input reads as it did. -/
def polyRunsUptoRow : OpenClaim := { program := "ytnkdnnaelcgenaa", sum := "b97d16f853eb65f701bfd1e4ef874bf437c93d1f4b37e7636512d377954678f6", func := "casket/casketlaw5.PolyRuns", spec := "polyRuns", apart := false, narrowed := true }
def PolyRunsUptoSaid : Prop := polyRunsUptoRow.holds Try.pinned (OpenSpec.upto polyRunsSpec)

/-- 'casketlaw5.PolyTags', WHERE WHAT IT READS IS OF BULK AT MOST 1048576: true; the input reads as it did. -/
def polyTagsUptoRow : OpenClaim := { program := "ytnkdnnaelcgenaa", sum := "b97d16f853eb65f701bfd1e4ef874bf437c93d1f4b37e7636512d377954678f6", func := "casket/casketlaw5.PolyTags", spec := "polyTags", apart := false, narrowed := true }
def PolyTagsUptoSaid : Prop := polyTagsUptoRow.holds Try.pinned (OpenSpec.upto polyTagsSpec)

/-- 'casketlaw5.PolyKnown', WHERE WHAT IT READS IS OF BULK AT MOST 1048576: true; the input reads as it did. -/
def polyKnownUptoRow : OpenClaim := { program := "ytnkdnnaelcgenaa", sum := "b97d16f853eb65f701bfd1e4ef874bf437c93d1f4b37e7636512d377954678f6", func := "casket/casketlaw5.PolyKnown", spec := "polyKnown", apart := false, narrowed := true }
def PolyKnownUptoSaid : Prop := polyKnownUptoRow.holds Try.pinned (OpenSpec.upto polyKnownSpec)

/-- 'casketlaw5.PolyPieces', WHERE WHAT IT READS IS OF BULK AT MOST 1048576: true; the input reads as it did. -/
def polyPiecesUptoRow : OpenClaim := { program := "ytnkdnnaelcgenaa", sum := "b97d16f853eb65f701bfd1e4ef874bf437c93d1f4b37e7636512d377954678f6", func := "casket/casketlaw5.PolyPieces", spec := "polyPieces", apart := false, narrowed := true }
def PolyPiecesUptoSaid : Prop := polyPiecesUptoRow.holds Try.pinned (OpenSpec.upto polyPiecesSpec)

/-- 'casketlaw5.PolyAdds', WHERE WHAT IT READS IS OF BULK AT MOST 1048576: true; the input reads as it did. -/
def polyAddsUptoRow : OpenClaim := { program := "ytnkdnnaelcgenaa", sum := "b97d16f853eb65f701bfd1e4ef874bf437c93d1f4b37e7636512d377954678f6", func := "casket/casketlaw5.PolyAdds", spec := "polyAdds", apart := false, narrowed := true }
def PolyAddsUptoSaid : Prop := polyAddsUptoRow.holds Try.pinned (OpenSpec.upto polyAddsSpec)

/-- 'casketlaw5.PolyOne', WHERE WHAT IT READS IS OF BULK AT MOST 1048576: true; the input reads as it did. -/
def polyOneUptoRow : OpenClaim := { program := "ytnkdnnaelcgenaa", sum := "b97d16f853eb65f701bfd1e4ef874bf437c93d1f4b37e7636512d377954678f6", func := "casket/casketlaw5.PolyOne", spec := "polyOne", apart := false, narrowed := true }
def PolyOneUptoSaid : Prop := polyOneUptoRow.holds Try.pinned (OpenSpec.upto polyOneSpec)

/-- 'casketlaw5.PolyClamps', WHERE WHAT IT READS IS OF BULK AT MOST 1048576: true; the input reads as it did. -/
def polyClampsUptoRow : OpenClaim := { program := "ytnkdnnaelcgenaa", sum := "b97d16f853eb65f701bfd1e4ef874bf437c93d1f4b37e7636512d377954678f6", func := "casket/casketlaw5.PolyClamps", spec := "polyClamps", apart := false, narrowed := true }
def PolyClampsUptoSaid : Prop := polyClampsUptoRow.holds Try.pinned (OpenSpec.upto polyClampsSpec)

end Rows
end Go.Proofs.Ytnkdnnaelcgenaa
