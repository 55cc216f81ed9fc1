/-
  No cell of these rows narrows 'for every input' (looked for: loops, veiled, ifaces, maps, wideKeys, modest, calm, conditions, laid).
  DERIVED. THE GIVEN ROWS OF THIS SEAT. 4 by the template 'for every input the law returns true; each argument reads behind the call as it read before'; 0 by the template 'total and deterministic' (their statements: YtfcjboomlfjanaaTotals.lean).
  GIVEN WITH THE SEED: the statements are not yours to turn. If you find one false, say at which input.
  Laid BY PROGRAM, IN A SANDBOX (cutbox-rows.mjs): the forced cells as the released guide's own fill.sh prints them over the translation b8c2ad3e6c028d21… (all of the seat's roots in one cut). By AI agents, Wed Nov 11 2026. No macro, syntax, notation, axiom, sorry.
-/
import Derived.Test.YtfcjboomlfjanaaChecked
import GoSem.Claim
import GoSem.ClaimJoined
import GoSem.ClaimMapViews
import Derived.JoinedTies
import Derived.KernelRfl
namespace Go.Proofs.Ytfcjboomlfjanaa
/- THE CELL 'sum', in the pinned program and in every row, IS THE sha256 OF THE DUMP (.gsa) THAT YtfcjboomlfjanaaProg.lean LOADS. Nothing in Lean hashes anything: it is a label: what it is worth is what the hold of that sum in a sandbox is worth. -/
noncomputable def Try.pinned : Pinned := { name := "ytfcjboomlfjanaa", sum := "b8c2ad3e6c028d2181e52261b612984737ed67a9ed338f4d363f1b9ab26e625c", checked := Try.checked }
namespace Rows
def none {H : Type} : Left H := { results := [], args := [] }

/-- 'casketlaw14.IndexChecks': WHATEVER THE INPUT: true; the input reads as it did. -/
def indexChecksSpec : ChangeSpec := { name := "indexChecks", fn := fun _ => fun
  | [d] => { results := [.lit (.bool true)], args := [d] }
  | _ => none }
def indexChecksRow : OpenClaim := { program := "ytfcjboomlfjanaa", sum := "b8c2ad3e6c028d2181e52261b612984737ed67a9ed338f4d363f1b9ab26e625c", func := "casket/casketlaw14.IndexChecks", spec := "indexChecks", apart := false }
def IndexChecksSaid : Prop := indexChecksRow.holds Try.pinned (OpenSpec.ofChange indexChecksSpec)

/-- ITS FALSE NEIGHBOUR: 'it returns false'. Refute it at one input. -/
def indexChecksWrong : ChangeSpec := { name := "indexChecks", fn := fun _ => fun
  | [d] => { results := [.lit (.bool false)], args := [d] }
  | _ => none }
def IndexChecksWrongFalsely : Prop := indexChecksRow.holds Try.pinned (OpenSpec.ofChange indexChecksWrong)

/-- 'casketlaw14.IndexRoots': WHATEVER THE INPUT: true; the input reads as it did. -/
def indexRootsSpec : ChangeSpec := { name := "indexRoots", fn := fun _ => fun
  | [d1, d2, d3] => { results := [.lit (.bool true)], args := [d1, d2, d3] }
  | _ => none }
def indexRootsRow : OpenClaim := { program := "ytfcjboomlfjanaa", sum := "b8c2ad3e6c028d2181e52261b612984737ed67a9ed338f4d363f1b9ab26e625c", func := "casket/casketlaw14.IndexRoots", spec := "indexRoots", unfollowed := true, recurses := true, apart := false }
def IndexRootsSaid : Prop := indexRootsRow.holds Try.pinned (OpenSpec.ofChange indexRootsSpec)

/-- ITS FALSE NEIGHBOUR: 'it returns false'. Refute it at one input. -/
def indexRootsWrong : ChangeSpec := { name := "indexRoots", fn := fun _ => fun
  | [d1, d2, d3] => { results := [.lit (.bool false)], args := [d1, d2, d3] }
  | _ => none }
def IndexRootsWrongFalsely : Prop := indexRootsRow.holds Try.pinned (OpenSpec.ofChange indexRootsWrong)

/-- 'casketlaw14.IndexRootBack': WHATEVER THE INPUT: true; the input reads as it did. -/
def indexRootBackSpec : ChangeSpec := { name := "indexRootBack", fn := fun _ => fun
  | [d1, d2, d3, d4, d5] => { results := [.lit (.bool true)], args := [d1, d2, d3, d4, d5] }
  | _ => none }
def indexRootBackRow : OpenClaim := { program := "ytfcjboomlfjanaa", sum := "b8c2ad3e6c028d2181e52261b612984737ed67a9ed338f4d363f1b9ab26e625c", func := "casket/casketlaw14.IndexRootBack", spec := "indexRootBack", unfollowed := true, recurses := true, apart := false }
def IndexRootBackSaid : Prop := indexRootBackRow.holds Try.pinned (OpenSpec.ofChange indexRootBackSpec)

/-- ITS FALSE NEIGHBOUR: 'it returns false'. Refute it at one input. -/
def indexRootBackWrong : ChangeSpec := { name := "indexRootBack", fn := fun _ => fun
  | [d1, d2, d3, d4, d5] => { results := [.lit (.bool false)], args := [d1, d2, d3, d4, d5] }
  | _ => none }
def IndexRootBackWrongFalsely : Prop := indexRootBackRow.holds Try.pinned (OpenSpec.ofChange indexRootBackWrong)

/-- 'casketlaw14.IndexEncodes': WHATEVER THE INPUT: true; the input reads as it did. -/
def indexEncodesSpec : ChangeSpec := { name := "indexEncodes", fn := fun _ => fun
  | [d1, d2, d3] => { results := [.lit (.bool true)], args := [d1, d2, d3] }
  | _ => none }
def indexEncodesRow : OpenClaim := { program := "ytfcjboomlfjanaa", sum := "b8c2ad3e6c028d2181e52261b612984737ed67a9ed338f4d363f1b9ab26e625c", func := "casket/casketlaw14.IndexEncodes", spec := "indexEncodes", unfollowed := true, recurses := true, apart := false }
def IndexEncodesSaid : Prop := indexEncodesRow.holds Try.pinned (OpenSpec.ofChange indexEncodesSpec)

/-- ITS FALSE NEIGHBOUR: 'it returns false'. Refute it at one input. -/
def indexEncodesWrong : ChangeSpec := { name := "indexEncodes", fn := fun _ => fun
  | [d1, d2, d3] => { results := [.lit (.bool false)], args := [d1, d2, d3] }
  | _ => none }
def IndexEncodesWrongFalsely : Prop := indexEncodesRow.holds Try.pinned (OpenSpec.ofChange indexEncodesWrong)

/- THE SECOND FORM. 'bulk': how many values and letters a reading holds, each counted each time it is reached (what is shared counts as often as it is met; a slice's spare places count too). A statement '..UptoSaid' is the law's where the arguments, and the package variables that the reading takes, are together of bulk at most 1048576: NARROWER than '..Said'. Prove '..Said' where nothing that the law and all that it calls make is longer than what came in: it says more and counts as full. Else prove '..UptoSaid'. A law counts once. -/
mutual
def uptoBulk {H : Type} : DataW H → Nat
  | .lit (.string bytes) => bytes.length + 1
  | .lit _ => 1
  | .nil => 1
  | .ptr d => uptoBulk d + 1
  | .slice elems spare => uptoBulkAll elems + uptoBulkAll spare + 1
  | .agg parts => uptoBulkAll parts + 1
  | .iface _ d => uptoBulk d + 1
  | .map entries => uptoBulkEntries entries + 1
  | .held _ => 1
def uptoBulkAll {H : Type} : List (DataW H) → Nat
  | [] => 0
  | d :: r => uptoBulk d + uptoBulkAll r
def uptoBulkEntries {H : Type} : List (Lit × DataW H) → Nat
  | [] => 0
  | x :: r => uptoBulkEntry x + uptoBulkEntries r
def uptoBulkEntry {H : Type} : Lit × DataW H → Nat
  | (.string bytes, d) => bytes.length + uptoBulk d + 1
  | (_, d) => uptoBulk d + 1
 end
def uptoSmall : (H : Type) → List (DataW H) → Bool := fun _ ds => decide (uptoBulkAll ds ≤ 1048576)
def OpenSpec.upto (s : _root_.Go.ChangeSpec) : _root_.Go.OpenSpec := { _root_.Go.OpenSpec.ofChange s with cond := some uptoSmall }

/-- 'casketlaw14.IndexChecks', WHERE WHAT IT READS IS OF BULK AT MOST 1048576: true; the input reads as it did. -/
def indexChecksUptoRow : OpenClaim := { program := "ytfcjboomlfjanaa", sum := "b8c2ad3e6c028d2181e52261b612984737ed67a9ed338f4d363f1b9ab26e625c", func := "casket/casketlaw14.IndexChecks", spec := "indexChecks", apart := false, narrowed := true }
def IndexChecksUptoSaid : Prop := indexChecksUptoRow.holds Try.pinned (OpenSpec.upto indexChecksSpec)

/-- 'casketlaw14.IndexRoots', WHERE WHAT IT READS IS OF BULK AT MOST 1048576: true; the input reads as it did. -/
def indexRootsUptoRow : OpenClaim := { program := "ytfcjboomlfjanaa", sum := "b8c2ad3e6c028d2181e52261b612984737ed67a9ed338f4d363f1b9ab26e625c", func := "casket/casketlaw14.IndexRoots", spec := "indexRoots", unfollowed := true, recurses := true, apart := false, narrowed := true }
def IndexRootsUptoSaid : Prop := indexRootsUptoRow.holds Try.pinned (OpenSpec.upto indexRootsSpec)

/-- 'casketlaw14.IndexRootBack', WHERE WHAT IT READS IS OF BULK AT MOST 1048576: true; the input reads as it did. -/
def indexRootBackUptoRow : OpenClaim := { program := "ytfcjboomlfjanaa", sum := "b8c2ad3e6c028d2181e52261b612984737ed67a9ed338f4d363f1b9ab26e625c", func := "casket/casketlaw14.IndexRootBack", spec := "indexRootBack", unfollowed := true, recurses := true, apart := false, narrowed := true }
def IndexRootBackUptoSaid : Prop := indexRootBackUptoRow.holds Try.pinned (OpenSpec.upto indexRootBackSpec)

/-- 'casketlaw14.IndexEncodes', WHERE WHAT IT READS IS OF BULK AT MOST 1048576: true; the input reads as it did. -/
def indexEncodesUptoRow : OpenClaim := { program := "ytfcjboomlfjanaa", sum := "b8c2ad3e6c028d2181e52261b612984737ed67a9ed338f4d363f1b9ab26e625c", func := "casket/casketlaw14.IndexEncodes", spec := "indexEncodes", unfollowed := true, recurses := true, apart := false, narrowed := true }
def IndexEncodesUptoSaid : Prop := indexEncodesUptoRow.holds Try.pinned (OpenSpec.upto indexEncodesSpec)

end Rows
end Go.Proofs.Ytfcjboomlfjanaa
