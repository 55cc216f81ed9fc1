/- Poly: PolyRuns holds its contracts. -/
import Derived.Test.YtnkdnnaelcgenaaPolyG
import Derived.Test.YtnkdnnaelcgenaaPolyE
set_option linter.unusedVariables false
set_option linter.unusedSimpArgs false

/- Poly: PolyRuns: the contract. -/
namespace Go.PL
def sumLen : List (List UInt8) → Nat
  | [] => 0
  | s :: l => s.length + sumLen l
structure RunOK (k : List UInt8) (m : MacS) (t : List UInt8) : Prop where
  key : IsKey k
  ok : MacOK (rOf k) t m
  s0 : m.s0 = leI (ints ((k.drop 16).take 8))
  s1 : m.s1 = leI (ints (k.drop 24))
structure RunsPre (a b : List UInt8) (ats : List Int) (asks : List Bool) (texts : List (List UInt8)) (cap : Int) : Prop where
  ha : StrOK a
  hb : StrOK b
  la : asks.length = ats.length
  lt : texts.length = ats.length
  sum : sumLen texts ≤ 1048576
  n : ats.length ≤ 1048576
  ints : IntsOK ats
  hcap : ats.length ≤ cap
structure AtOK (texts : List (List UInt8)) (i len : Nat) : Prop where
  hi : i ≤ texts.length
  le : len ≤ sumLen (texts.take i)
end Go.PL
namespace Go.Eng
variable [CW : CWorld]
open Go.Proofs
open Go.PL (L5 MacS)
set_option maxRecDepth 100000

noncomputable def nSpecs : Specs := fun f xs _ => match f, xs with
  | 12, _ => some newSpec
  | 19, _ => some refTagSpec
  | 16, .ptr _ _ :: _ => some sumSpec
  | 24, .ptr _ _ :: _ => some writeSpec
  | _, _ => none

def runsSpec : Spec where
  X := (List UInt8 × List UInt8) × List Int × List Bool × List (List UInt8) × Int
  A x := [.str x.1.1, .str x.1.2, .cs [.ints .i64 x.2.1, .bools x.2.2.1, .strs x.2.2.2.1] (.x (x.2.1.length : Int)) (.x x.2.2.2.2)]
  H _ := []
  pre x := PL.RunsPre x.1.1 x.1.2 x.2.1 x.2.2.1 x.2.2.2.1 x.2.2.2.2
  outs := [lawOut _]
def runsNilSpec : Spec where
  X := List UInt8 × List UInt8
  A x := [.str x.1, .str x.2, .nslc]
  H _ := []
  pre x := PL.TwoStr x.1 x.2
  outs := [lawOut _]

def refMac (k t : List UInt8) : Blk := .mk 65 [.one (.str k), .one (.str t)]
def runsInv (k1 k2 : List UInt8) (texts : List (List UInt8)) : Code → List SV → List Blk → List Inv := fun b fr hp =>
  match hp with
  | [_, _, _, _] => [
    { ι := Nat × (MacS × List UInt8) × (MacS × List UInt8), fr := fun i => upd (havoc b fr) [(15, .int .i64 (.x (i.1 : Int)))],
      hp := fun i => [.mk 62 (macSegs i.2.1.1), .mk 62 (macSegs i.2.2.1), refMac k1 i.2.1.2, refMac k2 i.2.2.2],
      μ := fun i => texts.length - i.1, ok := fun i => PL.AtOK texts i.1 (i.2.1.2.length + i.2.2.2.length) ∧ PL.RunOK k1 i.2.1.1 i.2.1.2 ∧ PL.RunOK k2 i.2.2.1 i.2.2.2 }]
  | [_, _] =>
    match fr[7]? with
    | some SV.nptr => [
      { ι := Nat × (MacS × List UInt8), fr := fun i => upd (havoc b fr) [(15, .int .i64 (.x (i.1 : Int)))],
        hp := fun i => [.mk 62 (macSegs i.2.1), refMac k2 i.2.2],
        μ := fun i => texts.length - i.1, ok := fun i => PL.AtOK texts i.1 i.2.2.length ∧ PL.RunOK k2 i.2.1 i.2.2 }]
    | _ => [
      { ι := Nat × (MacS × List UInt8), fr := fun i => upd (havoc b fr) [(15, .int .i64 (.x (i.1 : Int)))],
        hp := fun i => [.mk 62 (macSegs i.2.1), refMac k1 i.2.2],
        μ := fun i => texts.length - i.1, ok := fun i => PL.AtOK texts i.1 i.2.2.length ∧ PL.RunOK k1 i.2.1 i.2.2 }]
  | _ => [
    { ι := Nat, fr := fun i => upd (havoc b fr) [(15, .int .i64 (.x (i : Int)))], hp := fun _ => [], μ := fun i => texts.length - i, ok := fun i => PL.AtOK texts i 0 }]
def runsInvs (k1 k2 : List UInt8) (texts : List (List UInt8)) : Invs := fun f n => match f, n with
  | 4, 8 => some (runsInv k1 k2 texts)
  | _, _ => none
end Go.Eng

/- Poly: walks. -/
set_option linter.unusedVariables false
set_option linter.unusedSectionVars false
namespace Go.Eng
variable [CW : CWorld]
open Go.Proofs
open Go.PL (L5 MacS)
set_option maxRecDepth 100000
theorem vc4 (ar : AR) (x : (List UInt8 × List UInt8) × List Int × List Bool × List (List UInt8) × Int) : (run ar PP nSpecs (runsInvs x.1.1 x.1.2 x.2.2.2.1) 1000 4 0 (Try.f4.body.getD .skip) ([.str x.1.1, .str x.1.2, .cs [.ints .i64 x.2.1, .bools x.2.2.1, .strs x.2.2.2.1] (.x (x.2.1.length : Int)) (.x x.2.2.2.2)] ++ List.replicate (Try.f4.ntmps - 3) .any) [] (endCall ar PP Try.f4.results.toList (runsSpec.fin x))) = (
    ∃ (x_1 : List UInt8), x.fst.fst = x_1 ∧ PL.LenOK x_1 ∧ (∀ (y : Unit), PL.NotKey x_1 → ∃ (x_2 : List UInt8), x.fst.snd = x_2 ∧ PL.LenOK x_2 ∧ (∀ (y : Unit), PL.NotKey x_2 →
    (¬ar.eq (ar.slen x.fst.fst) 32 → (¬ar.eq (ar.slen x.fst.snd) 32 → ((¬(true = true ↔ true = true) → False) → (¬(true = true ↔ true = true) → ∃ (y : Unit), True ∧ False) ∧
    (¬¬(true = true ↔ true = true) → (∃ (i : Nat), PL.AtOK x.snd.snd.snd.fst i 0 ∧ x.fst.fst = x.fst.fst ∧ x.fst.snd = x.fst.snd ∧ x.snd.fst = x.snd.fst ∧ x.snd.snd.fst =
    x.snd.snd.fst ∧ x.snd.snd.snd.fst = x.snd.snd.snd.fst ∧ (↑x.snd.fst.length : Int) = (↑x.snd.fst.length : Int) ∧ x.snd.snd.snd.snd = x.snd.snd.snd.snd ∧ 0 = (↑i : Int) ∧
    x.fst.fst = x.fst.fst ∧ x.fst.snd = x.fst.snd ∧ x.fst.fst = x.fst.fst ∧ x.fst.snd = x.fst.snd ∧ ((true = true ↔ true = true) → False ↔ (true = true ↔ true = true) → False) ∧
    ((true = true ↔ true = true) → False ↔ (true = true ↔ true = true) → False) ∧ ((true = true ↔ true = true) → False ↔ (true = true ↔ true = true) → False) ∧ ((true = true ↔ true
    = true) → False ↔ (true = true ↔ true = true) → False) ∧ True) ∧ ∀ (i : Nat), PL.AtOK x.snd.snd.snd.fst i 0 → (ar.lt (↑i : Int) (↑x.snd.fst.length : Int) → ar.le 0 (↑i : Int) ∧
    ar.lt (↑i : Int) (↑x.snd.fst.length : Int) ∧ ∀ (z : Int), z = ar.rem (ar.iget x.snd.fst (↑i : Int)) 2 → (ar.eq z 0 → ar.le 0 (↑i : Int) ∧ ar.lt (↑i : Int) (↑x.snd.fst.length :
    Int) ∧ (ar.bget x.snd.snd.fst (↑i : Int) → (¬ar.seq [] [] → ∃ (y : Unit), True ∧ False) ∧ (¬¬ar.seq [] [] → ∀ (z : Int), z = ar.wrap IntKind.i64 (ar.add (↑i : Int) 1) → ∃ (j :
    Nat), PL.AtOK x.snd.snd.snd.fst j 0 ∧ (x.snd.snd.snd.fst.length.sub j).lt (x.snd.snd.snd.fst.length.sub i) ∧ x.fst.fst = x.fst.fst ∧ x.fst.snd = x.fst.snd ∧ x.snd.fst =
    x.snd.fst ∧ x.snd.snd.fst = x.snd.snd.fst ∧ x.snd.snd.snd.fst = x.snd.snd.snd.fst ∧ (↑x.snd.fst.length : Int) = (↑x.snd.fst.length : Int) ∧ x.snd.snd.snd.snd =
    x.snd.snd.snd.snd ∧ z = (↑j : Int) ∧ x.fst.fst = x.fst.fst ∧ x.fst.snd = x.fst.snd ∧ x.fst.fst = x.fst.fst ∧ x.fst.snd = x.fst.snd ∧ ((true = true ↔ true = true) → False ↔
    (true = true ↔ true = true) → False) ∧ ((true = true ↔ true = true) → False ↔ (true = true ↔ true = true) → False) ∧ ((true = true ↔ true = true) → False ↔ (true = true ↔ true
    = true) → False) ∧ ((true = true ↔ true = true) → False ↔ (true = true ↔ true = true) → False) ∧ True)) ∧ (¬ar.bget x.snd.snd.fst (↑i : Int) → ∀ (z : Int), z = ar.wrap
    IntKind.i64 (ar.add (↑i : Int) 1) → ∃ (j : Nat), PL.AtOK x.snd.snd.snd.fst j 0 ∧ (x.snd.snd.snd.fst.length.sub j).lt (x.snd.snd.snd.fst.length.sub i) ∧ x.fst.fst = x.fst.fst ∧
    x.fst.snd = x.fst.snd ∧ x.snd.fst = x.snd.fst ∧ x.snd.snd.fst = x.snd.snd.fst ∧ x.snd.snd.snd.fst = x.snd.snd.snd.fst ∧ (↑x.snd.fst.length : Int) = (↑x.snd.fst.length : Int) ∧
    x.snd.snd.snd.snd = x.snd.snd.snd.snd ∧ z = (↑j : Int) ∧ x.fst.fst = x.fst.fst ∧ x.fst.snd = x.fst.snd ∧ x.fst.fst = x.fst.fst ∧ x.fst.snd = x.fst.snd ∧ ((true = true ↔ true =
    true) → False ↔ (true = true ↔ true = true) → False) ∧ ((true = true ↔ true = true) → False ↔ (true = true ↔ true = true) → False) ∧ ((true = true ↔ true = true) → False ↔
    (true = true ↔ true = true) → False) ∧ ((true = true ↔ true = true) → False ↔ (true = true ↔ true = true) → False) ∧ True)) ∧ (¬ar.eq z 0 → ar.le 0 (↑i : Int) ∧ ar.lt (↑i :
    Int) (↑x.snd.fst.length : Int) ∧ (ar.bget x.snd.snd.fst (↑i : Int) → (¬ar.seq [] [] → ∃ (y : Unit), True ∧ False) ∧ (¬¬ar.seq [] [] → ∀ (z : Int), z = ar.wrap IntKind.i64
    (ar.add (↑i : Int) 1) → ∃ (j : Nat), PL.AtOK x.snd.snd.snd.fst j 0 ∧ (x.snd.snd.snd.fst.length.sub j).lt (x.snd.snd.snd.fst.length.sub i) ∧ x.fst.fst = x.fst.fst ∧ x.fst.snd =
    x.fst.snd ∧ x.snd.fst = x.snd.fst ∧ x.snd.snd.fst = x.snd.snd.fst ∧ x.snd.snd.snd.fst = x.snd.snd.snd.fst ∧ (↑x.snd.fst.length : Int) = (↑x.snd.fst.length : Int) ∧
    x.snd.snd.snd.snd = x.snd.snd.snd.snd ∧ z = (↑j : Int) ∧ x.fst.fst = x.fst.fst ∧ x.fst.snd = x.fst.snd ∧ x.fst.fst = x.fst.fst ∧ x.fst.snd = x.fst.snd ∧ ((true = true ↔ true =
    true) → False ↔ (true = true ↔ true = true) → False) ∧ ((true = true ↔ true = true) → False ↔ (true = true ↔ true = true) → False) ∧ ((true = true ↔ true = true) → False ↔
    (true = true ↔ true = true) → False) ∧ ((true = true ↔ true = true) → False ↔ (true = true ↔ true = true) → False) ∧ True)) ∧ (¬ar.bget x.snd.snd.fst (↑i : Int) → ∀ (z : Int),
    z = ar.wrap IntKind.i64 (ar.add (↑i : Int) 1) → ∃ (j : Nat), PL.AtOK x.snd.snd.snd.fst j 0 ∧ (x.snd.snd.snd.fst.length.sub j).lt (x.snd.snd.snd.fst.length.sub i) ∧ x.fst.fst =
    x.fst.fst ∧ x.fst.snd = x.fst.snd ∧ x.snd.fst = x.snd.fst ∧ x.snd.snd.fst = x.snd.snd.fst ∧ x.snd.snd.snd.fst = x.snd.snd.snd.fst ∧ (↑x.snd.fst.length : Int) =
    (↑x.snd.fst.length : Int) ∧ x.snd.snd.snd.snd = x.snd.snd.snd.snd ∧ z = (↑j : Int) ∧ x.fst.fst = x.fst.fst ∧ x.fst.snd = x.fst.snd ∧ x.fst.fst = x.fst.fst ∧ x.fst.snd =
    x.fst.snd ∧ ((true = true ↔ true = true) → False ↔ (true = true ↔ true = true) → False) ∧ ((true = true ↔ true = true) → False ↔ (true = true ↔ true = true) → False) ∧ ((true =
    true ↔ true = true) → False ↔ (true = true ↔ true = true) → False) ∧ ((true = true ↔ true = true) → False ↔ (true = true ↔ true = true) → False) ∧ True))) ∧ (¬ar.lt (↑i : Int)
    (↑x.snd.fst.length : Int) → (ar.seq [] [] → ∃ (y : Unit), True ∧ (ar.seq [] [] ↔ true = true) ∧ True) ∧ (¬ar.seq [] [] → ∃ (y : Unit), True ∧ False)))) ∧ (¬(¬(true = true ↔
    true = true) → False) → ∃ (y : Unit), True ∧ False)) ∧ (¬¬ar.eq (ar.slen x.fst.snd) 32 → ∃ (y : Unit), True ∧ False)) ∧ (¬¬ar.eq (ar.slen x.fst.fst) 32 → (¬ar.eq (ar.slen
    x.fst.snd) 32 → ∃ (y : Unit), True ∧ False) ∧ (¬¬ar.eq (ar.slen x.fst.snd) 32 → ∃ (y : Unit), True ∧ False))) ∧ ∀ (y : MacS), PL.NewOK x_2 y → (¬ar.eq (ar.slen x.fst.fst) 32 →
    (¬ar.eq (ar.slen x.fst.snd) 32 → ∃ (y : Unit), True ∧ False) ∧ (¬¬ar.eq (ar.slen x.fst.snd) 32 → ((¬(true = true ↔ true = true) → False) → (¬(false = true ↔ false = true) → ∃
    (y : Unit), True ∧ False) ∧ (¬¬(false = true ↔ false = true) → (∃ (i : Nat × MacS × List UInt8), (PL.AtOK x.snd.snd.snd.fst i.fst i.2.snd.length ∧ PL.RunOK x.fst.snd i.2.fst
    i.2.snd) ∧ x.fst.fst = x.fst.fst ∧ x.fst.snd = x.fst.snd ∧ x.snd.fst = x.snd.fst ∧ x.snd.snd.fst = x.snd.snd.fst ∧ x.snd.snd.snd.fst = x.snd.snd.snd.fst ∧ (↑x.snd.fst.length :
    Int) = (↑x.snd.fst.length : Int) ∧ x.snd.snd.snd.snd = x.snd.snd.snd.snd ∧ 0 = (↑i.fst : Int) ∧ x.fst.fst = x.fst.fst ∧ x.fst.snd = x.fst.snd ∧ x.fst.fst = x.fst.fst ∧
    x.fst.snd = x.fst.snd ∧ ((true = true ↔ true = true) → False ↔ (true = true ↔ true = true) → False) ∧ ((true = true ↔ true = true) → False ↔ (true = true ↔ true = true) →
    False) ∧ ((false = true ↔ false = true) → False ↔ (false = true ↔ false = true) → False) ∧ ((false = true ↔ false = true) → False ↔ (false = true ↔ false = true) → False) ∧
    y.1.a = i.snd.fst.acc.a ∧ y.1.b = i.snd.fst.acc.b ∧ y.1.c = i.snd.fst.acc.c ∧ y.1.d = i.snd.fst.acc.d ∧ y.1.e = i.snd.fst.acc.e ∧ y.2.a = i.snd.fst.r.a ∧ y.2.b = i.snd.fst.r.b
    ∧ y.2.c = i.snd.fst.r.c ∧ y.2.d = i.snd.fst.r.d ∧ y.2.e = i.snd.fst.r.e ∧ y.s0 = i.snd.fst.s0 ∧ y.s1 = i.snd.fst.s1 ∧ y.rest = i.snd.fst.rest ∧ y.held = i.snd.fst.held ∧
    x.fst.snd = x.fst.snd ∧ [] = i.2.snd ∧ True) ∧ ∀ (i : Nat × MacS × List UInt8), PL.AtOK x.snd.snd.snd.fst i.fst i.2.snd.length ∧ PL.RunOK x.fst.snd i.2.fst i.2.snd → (ar.lt
    (↑i.fst : Int) (↑x.snd.fst.length : Int) → ar.le 0 (↑i.fst : Int) ∧ ar.lt (↑i.fst : Int) (↑x.snd.fst.length : Int) ∧ ∀ (z : Int), z = ar.rem (ar.iget x.snd.fst (↑i.fst : Int))
    2 → (ar.eq z 0 → ar.le 0 (↑i.fst : Int) ∧ ar.lt (↑i.fst : Int) (↑x.snd.fst.length : Int) ∧ (ar.bget x.snd.snd.fst (↑i.fst : Int) → (¬ar.seq [] [] → ∃ (y : Unit), True ∧ False)
    ∧ (¬¬ar.seq [] [] → ∀ (z : Int), z = ar.wrap IntKind.i64 (ar.add (↑i.fst : Int) 1) → ∃ (j : Nat × MacS × List UInt8), (PL.AtOK x.snd.snd.snd.fst j.fst j.2.snd.length ∧ PL.RunOK
    x.fst.snd j.2.fst j.2.snd) ∧ (x.snd.snd.snd.fst.length.sub j.fst).lt (x.snd.snd.snd.fst.length.sub i.fst) ∧ x.fst.fst = x.fst.fst ∧ x.fst.snd = x.fst.snd ∧ x.snd.fst =
    x.snd.fst ∧ x.snd.snd.fst = x.snd.snd.fst ∧ x.snd.snd.snd.fst = x.snd.snd.snd.fst ∧ (↑x.snd.fst.length : Int) = (↑x.snd.fst.length : Int) ∧ x.snd.snd.snd.snd =
    x.snd.snd.snd.snd ∧ z = (↑j.fst : Int) ∧ x.fst.fst = x.fst.fst ∧ x.fst.snd = x.fst.snd ∧ x.fst.fst = x.fst.fst ∧ x.fst.snd = x.fst.snd ∧ ((true = true ↔ true = true) → False ↔
    (true = true ↔ true = true) → False) ∧ ((true = true ↔ true = true) → False ↔ (true = true ↔ true = true) → False) ∧ ((false = true ↔ false = true) → False ↔ (false = true ↔
    false = true) → False) ∧ ((false = true ↔ false = true) → False ↔ (false = true ↔ false = true) → False) ∧ i.snd.fst.acc.a = j.snd.fst.acc.a ∧ i.snd.fst.acc.b = j.snd.fst.acc.b
    ∧ i.snd.fst.acc.c = j.snd.fst.acc.c ∧ i.snd.fst.acc.d = j.snd.fst.acc.d ∧ i.snd.fst.acc.e = j.snd.fst.acc.e ∧ i.snd.fst.r.a = j.snd.fst.r.a ∧ i.snd.fst.r.b = j.snd.fst.r.b ∧
    i.snd.fst.r.c = j.snd.fst.r.c ∧ i.snd.fst.r.d = j.snd.fst.r.d ∧ i.snd.fst.r.e = j.snd.fst.r.e ∧ i.snd.fst.s0 = j.snd.fst.s0 ∧ i.snd.fst.s1 = j.snd.fst.s1 ∧ i.snd.fst.rest =
    j.snd.fst.rest ∧ i.snd.fst.held = j.snd.fst.held ∧ x.fst.snd = x.fst.snd ∧ i.2.snd = j.2.snd ∧ True)) ∧ (¬ar.bget x.snd.snd.fst (↑i.fst : Int) → ∀ (z : Int), z = ar.wrap
    IntKind.i64 (ar.add (↑i.fst : Int) 1) → ∃ (j : Nat × MacS × List UInt8), (PL.AtOK x.snd.snd.snd.fst j.fst j.2.snd.length ∧ PL.RunOK x.fst.snd j.2.fst j.2.snd) ∧
    (x.snd.snd.snd.fst.length.sub j.fst).lt (x.snd.snd.snd.fst.length.sub i.fst) ∧ x.fst.fst = x.fst.fst ∧ x.fst.snd = x.fst.snd ∧ x.snd.fst = x.snd.fst ∧ x.snd.snd.fst =
    x.snd.snd.fst ∧ x.snd.snd.snd.fst = x.snd.snd.snd.fst ∧ (↑x.snd.fst.length : Int) = (↑x.snd.fst.length : Int) ∧ x.snd.snd.snd.snd = x.snd.snd.snd.snd ∧ z = (↑j.fst : Int) ∧
    x.fst.fst = x.fst.fst ∧ x.fst.snd = x.fst.snd ∧ x.fst.fst = x.fst.fst ∧ x.fst.snd = x.fst.snd ∧ ((true = true ↔ true = true) → False ↔ (true = true ↔ true = true) → False) ∧
    ((true = true ↔ true = true) → False ↔ (true = true ↔ true = true) → False) ∧ ((false = true ↔ false = true) → False ↔ (false = true ↔ false = true) → False) ∧ ((false = true ↔
    false = true) → False ↔ (false = true ↔ false = true) → False) ∧ i.snd.fst.acc.a = j.snd.fst.acc.a ∧ i.snd.fst.acc.b = j.snd.fst.acc.b ∧ i.snd.fst.acc.c = j.snd.fst.acc.c ∧
    i.snd.fst.acc.d = j.snd.fst.acc.d ∧ i.snd.fst.acc.e = j.snd.fst.acc.e ∧ i.snd.fst.r.a = j.snd.fst.r.a ∧ i.snd.fst.r.b = j.snd.fst.r.b ∧ i.snd.fst.r.c = j.snd.fst.r.c ∧
    i.snd.fst.r.d = j.snd.fst.r.d ∧ i.snd.fst.r.e = j.snd.fst.r.e ∧ i.snd.fst.s0 = j.snd.fst.s0 ∧ i.snd.fst.s1 = j.snd.fst.s1 ∧ i.snd.fst.rest = j.snd.fst.rest ∧ i.snd.fst.held =
    j.snd.fst.held ∧ x.fst.snd = x.fst.snd ∧ i.2.snd = j.2.snd ∧ True)) ∧ (¬ar.eq z 0 → ar.le 0 (↑i.fst : Int) ∧ ar.lt (↑i.fst : Int) (↑x.snd.fst.length : Int) ∧ (ar.bget
    x.snd.snd.fst (↑i.fst : Int) → ∃ (x_3 : MacS × Int × List UInt8), i.snd.fst.acc.a = x_3.fst.acc.a ∧ i.snd.fst.acc.b = x_3.fst.acc.b ∧ i.snd.fst.acc.c = x_3.fst.acc.c ∧
    i.snd.fst.acc.d = x_3.fst.acc.d ∧ i.snd.fst.acc.e = x_3.fst.acc.e ∧ i.snd.fst.r.a = x_3.fst.r.a ∧ i.snd.fst.r.b = x_3.fst.r.b ∧ i.snd.fst.r.c = x_3.fst.r.c ∧ i.snd.fst.r.d =
    x_3.fst.r.d ∧ i.snd.fst.r.e = x_3.fst.r.e ∧ i.snd.fst.s0 = x_3.1.s0 ∧ i.snd.fst.s1 = x_3.1.s1 ∧ i.snd.fst.rest = x_3.1.rest ∧ i.snd.fst.held = x_3.1.held ∧ PL.SumPre x_3.2.fst
    x_3.2.snd x_3.fst ∧ ∀ (y : Unit), True → ∃ (x_4 : List UInt8 × List UInt8), x.fst.snd = x_4.fst ∧ i.2.snd = x_4.snd ∧ PL.TwoStr x_4.fst x_4.snd ∧ (∀ (y : Unit), PL.NotKey
    x_4.fst → (¬ar.seq (PL.leBytes (((PL.lastN x_3.2.fst x_3.2.snd).add x_3.1.s0).add (x_3.1.s1.mul 18446744073709551616))) [] → ∃ (y : Unit), True ∧ False) ∧ (¬¬ar.seq (PL.leBytes
    (((PL.lastN x_3.2.fst x_3.2.snd).add x_3.1.s0).add (x_3.1.s1.mul 18446744073709551616))) [] → ∀ (z : Int), z = ar.wrap IntKind.i64 (ar.add (↑i.fst : Int) 1) → ∃ (j : Nat × MacS
    × List UInt8), (PL.AtOK x.snd.snd.snd.fst j.fst j.2.snd.length ∧ PL.RunOK x.fst.snd j.2.fst j.2.snd) ∧ (x.snd.snd.snd.fst.length.sub j.fst).lt (x.snd.snd.snd.fst.length.sub
    i.fst) ∧ x.fst.fst = x.fst.fst ∧ x.fst.snd = x.fst.snd ∧ x.snd.fst = x.snd.fst ∧ x.snd.snd.fst = x.snd.snd.fst ∧ x.snd.snd.snd.fst = x.snd.snd.snd.fst ∧ (↑x.snd.fst.length :
    Int) = (↑x.snd.fst.length : Int) ∧ x.snd.snd.snd.snd = x.snd.snd.snd.snd ∧ z = (↑j.fst : Int) ∧ x.fst.fst = x.fst.fst ∧ x.fst.snd = x.fst.snd ∧ x.fst.fst = x.fst.fst ∧
    x.fst.snd = x.fst.snd ∧ ((true = true ↔ true = true) → False ↔ (true = true ↔ true = true) → False) ∧ ((true = true ↔ true = true) → False ↔ (true = true ↔ true = true) →
    False) ∧ ((false = true ↔ false = true) → False ↔ (false = true ↔ false = true) → False) ∧ ((false = true ↔ false = true) → False ↔ (false = true ↔ false = true) → False) ∧
    x_3.fst.acc.a = j.snd.fst.acc.a ∧ x_3.fst.acc.b = j.snd.fst.acc.b ∧ x_3.fst.acc.c = j.snd.fst.acc.c ∧ x_3.fst.acc.d = j.snd.fst.acc.d ∧ x_3.fst.acc.e = j.snd.fst.acc.e ∧
    x_3.fst.r.a = j.snd.fst.r.a ∧ x_3.fst.r.b = j.snd.fst.r.b ∧ x_3.fst.r.c = j.snd.fst.r.c ∧ x_3.fst.r.d = j.snd.fst.r.d ∧ x_3.fst.r.e = j.snd.fst.r.e ∧ x_3.1.s0 = j.snd.fst.s0 ∧
    x_3.1.s1 = j.snd.fst.s1 ∧ x_3.1.rest = j.snd.fst.rest ∧ x_3.1.held = j.snd.fst.held ∧ x.fst.snd = x.fst.snd ∧ i.2.snd = j.2.snd ∧ True)) ∧ ∀ (y : Unit), PL.IsKey x_4.fst →
    (¬ar.seq (PL.leBytes (((PL.lastN x_3.2.fst x_3.2.snd).add x_3.1.s0).add (x_3.1.s1.mul 18446744073709551616))) (PL.tagOf x_4.fst x_4.snd) → ∃ (y : Unit), True ∧ False) ∧
    (¬¬ar.seq (PL.leBytes (((PL.lastN x_3.2.fst x_3.2.snd).add x_3.1.s0).add (x_3.1.s1.mul 18446744073709551616))) (PL.tagOf x_4.fst x_4.snd) → ∀ (z : Int), z = ar.wrap IntKind.i64
    (ar.add (↑i.fst : Int) 1) → ∃ (j : Nat × MacS × List UInt8), (PL.AtOK x.snd.snd.snd.fst j.fst j.2.snd.length ∧ PL.RunOK x.fst.snd j.2.fst j.2.snd) ∧
    (x.snd.snd.snd.fst.length.sub j.fst).lt (x.snd.snd.snd.fst.length.sub i.fst) ∧ x.fst.fst = x.fst.fst ∧ x.fst.snd = x.fst.snd ∧ x.snd.fst = x.snd.fst ∧ x.snd.snd.fst =
    x.snd.snd.fst ∧ x.snd.snd.snd.fst = x.snd.snd.snd.fst ∧ (↑x.snd.fst.length : Int) = (↑x.snd.fst.length : Int) ∧ x.snd.snd.snd.snd = x.snd.snd.snd.snd ∧ z = (↑j.fst : Int) ∧
    x.fst.fst = x.fst.fst ∧ x.fst.snd = x.fst.snd ∧ x.fst.fst = x.fst.fst ∧ x.fst.snd = x.fst.snd ∧ ((true = true ↔ true = true) → False ↔ (true = true ↔ true = true) → False) ∧
    ((true = true ↔ true = true) → False ↔ (true = true ↔ true = true) → False) ∧ ((false = true ↔ false = true) → False ↔ (false = true ↔ false = true) → False) ∧ ((false = true ↔
    false = true) → False ↔ (false = true ↔ false = true) → False) ∧ x_3.fst.acc.a = j.snd.fst.acc.a ∧ x_3.fst.acc.b = j.snd.fst.acc.b ∧ x_3.fst.acc.c = j.snd.fst.acc.c ∧
    x_3.fst.acc.d = j.snd.fst.acc.d ∧ x_3.fst.acc.e = j.snd.fst.acc.e ∧ x_3.fst.r.a = j.snd.fst.r.a ∧ x_3.fst.r.b = j.snd.fst.r.b ∧ x_3.fst.r.c = j.snd.fst.r.c ∧ x_3.fst.r.d =
    j.snd.fst.r.d ∧ x_3.fst.r.e = j.snd.fst.r.e ∧ x_3.1.s0 = j.snd.fst.s0 ∧ x_3.1.s1 = j.snd.fst.s1 ∧ x_3.1.rest = j.snd.fst.rest ∧ x_3.1.held = j.snd.fst.held ∧ x.fst.snd =
    x.fst.snd ∧ i.2.snd = j.2.snd ∧ True)) ∧ (¬ar.bget x.snd.snd.fst (↑i.fst : Int) → ∃ (x_3 : MacS × List UInt8 × Int × List UInt8), ar.tget x.snd.snd.snd.fst (↑i.fst : Int) =
    x_3.2.fst ∧ i.snd.fst.acc.a = x_3.fst.acc.a ∧ i.snd.fst.acc.b = x_3.fst.acc.b ∧ i.snd.fst.acc.c = x_3.fst.acc.c ∧ i.snd.fst.acc.d = x_3.fst.acc.d ∧ i.snd.fst.acc.e =
    x_3.fst.acc.e ∧ i.snd.fst.r.a = x_3.fst.r.a ∧ i.snd.fst.r.b = x_3.fst.r.b ∧ i.snd.fst.r.c = x_3.fst.r.c ∧ i.snd.fst.r.d = x_3.fst.r.d ∧ i.snd.fst.r.e = x_3.fst.r.e ∧
    i.snd.fst.s0 = x_3.1.s0 ∧ i.snd.fst.s1 = x_3.1.s1 ∧ i.snd.fst.rest = x_3.1.rest ∧ i.snd.fst.held = x_3.1.held ∧ PL.WritePre x_3.snd.snd.fst x_3.snd.snd.snd x_3.2.fst x_3.fst ∧
    ∀ (y : MacS), PL.Written x_3.snd.snd.fst x_3.snd.snd.snd x_3.2.fst x_3.fst y → ar.le (ar.add (ar.slen i.2.snd) (ar.slen (ar.tget x.snd.snd.snd.fst (↑i.fst : Int))))
    9223372036854775807 ∧ ∀ (t : List UInt8), t = ar.sapp i.2.snd (ar.tget x.snd.snd.snd.fst (↑i.fst : Int)) → ∀ (z : Int), z = ar.wrap IntKind.i64 (ar.add (↑i.fst : Int) 1) → ∃ (j
    : Nat × MacS × List UInt8), (PL.AtOK x.snd.snd.snd.fst j.fst j.2.snd.length ∧ PL.RunOK x.fst.snd j.2.fst j.2.snd) ∧ (x.snd.snd.snd.fst.length.sub j.fst).lt
    (x.snd.snd.snd.fst.length.sub i.fst) ∧ x.fst.fst = x.fst.fst ∧ x.fst.snd = x.fst.snd ∧ x.snd.fst = x.snd.fst ∧ x.snd.snd.fst = x.snd.snd.fst ∧ x.snd.snd.snd.fst =
    x.snd.snd.snd.fst ∧ (↑x.snd.fst.length : Int) = (↑x.snd.fst.length : Int) ∧ x.snd.snd.snd.snd = x.snd.snd.snd.snd ∧ z = (↑j.fst : Int) ∧ x.fst.fst = x.fst.fst ∧ x.fst.snd =
    x.fst.snd ∧ x.fst.fst = x.fst.fst ∧ x.fst.snd = x.fst.snd ∧ ((true = true ↔ true = true) → False ↔ (true = true ↔ true = true) → False) ∧ ((true = true ↔ true = true) → False ↔
    (true = true ↔ true = true) → False) ∧ ((false = true ↔ false = true) → False ↔ (false = true ↔ false = true) → False) ∧ ((false = true ↔ false = true) → False ↔ (false = true
    ↔ false = true) → False) ∧ y.1.a = j.snd.fst.acc.a ∧ y.1.b = j.snd.fst.acc.b ∧ y.1.c = j.snd.fst.acc.c ∧ y.1.d = j.snd.fst.acc.d ∧ y.1.e = j.snd.fst.acc.e ∧ y.2.a =
    j.snd.fst.r.a ∧ y.2.b = j.snd.fst.r.b ∧ y.2.c = j.snd.fst.r.c ∧ y.2.d = j.snd.fst.r.d ∧ y.2.e = j.snd.fst.r.e ∧ y.s0 = j.snd.fst.s0 ∧ y.s1 = j.snd.fst.s1 ∧ y.rest =
    j.snd.fst.rest ∧ y.held = j.snd.fst.held ∧ x.fst.snd = x.fst.snd ∧ t = j.2.snd ∧ True))) ∧ (¬ar.lt (↑i.fst : Int) (↑x.snd.fst.length : Int) → (ar.seq [] [] → ∃ (x_3 : MacS ×
    Int × List UInt8), i.snd.fst.acc.a = x_3.fst.acc.a ∧ i.snd.fst.acc.b = x_3.fst.acc.b ∧ i.snd.fst.acc.c = x_3.fst.acc.c ∧ i.snd.fst.acc.d = x_3.fst.acc.d ∧ i.snd.fst.acc.e =
    x_3.fst.acc.e ∧ i.snd.fst.r.a = x_3.fst.r.a ∧ i.snd.fst.r.b = x_3.fst.r.b ∧ i.snd.fst.r.c = x_3.fst.r.c ∧ i.snd.fst.r.d = x_3.fst.r.d ∧ i.snd.fst.r.e = x_3.fst.r.e ∧
    i.snd.fst.s0 = x_3.1.s0 ∧ i.snd.fst.s1 = x_3.1.s1 ∧ i.snd.fst.rest = x_3.1.rest ∧ i.snd.fst.held = x_3.1.held ∧ PL.SumPre x_3.2.fst x_3.2.snd x_3.fst ∧ ∀ (y : Unit), True → ∃
    (x_4 : List UInt8 × List UInt8), x.fst.snd = x_4.fst ∧ i.2.snd = x_4.snd ∧ PL.TwoStr x_4.fst x_4.snd ∧ (∀ (y : Unit), PL.NotKey x_4.fst → ∃ (y : Unit), True ∧ (ar.seq
    (PL.leBytes (((PL.lastN x_3.2.fst x_3.2.snd).add x_3.1.s0).add (x_3.1.s1.mul 18446744073709551616))) [] ↔ true = true) ∧ True) ∧ ∀ (y : Unit), PL.IsKey x_4.fst → ∃ (y : Unit),
    True ∧ (ar.seq (PL.leBytes (((PL.lastN x_3.2.fst x_3.2.snd).add x_3.1.s0).add (x_3.1.s1.mul 18446744073709551616))) (PL.tagOf x_4.fst x_4.snd) ↔ true = true) ∧ True) ∧ (¬ar.seq
    [] [] → ∃ (y : Unit), True ∧ False)))) ∧ (¬(¬(true = true ↔ true = true) → False) → ∃ (y : Unit), True ∧ False))) ∧ (¬¬ar.eq (ar.slen x.fst.fst) 32 → (¬ar.eq (ar.slen
    x.fst.snd) 32 → ∃ (y : Unit), True ∧ False) ∧ (¬¬ar.eq (ar.slen x.fst.snd) 32 → ∃ (y : Unit), True ∧ False))) ∧ ∀ (y : MacS), PL.NewOK x_1 y → ∃ (x_2 : List UInt8), x.fst.snd =
    x_2 ∧ PL.LenOK x_2 ∧ (∀ (y_1 : Unit), PL.NotKey x_2 → (¬ar.eq (ar.slen x.fst.fst) 32 → (¬ar.eq (ar.slen x.fst.snd) 32 → ∃ (y : Unit), True ∧ False) ∧ (¬¬ar.eq (ar.slen
    x.fst.snd) 32 → ∃ (y : Unit), True ∧ False)) ∧ (¬¬ar.eq (ar.slen x.fst.fst) 32 → (¬ar.eq (ar.slen x.fst.snd) 32 → ((¬(false = true ↔ false = true) → False) → (¬(true = true ↔
    true = true) → ∃ (y : Unit), True ∧ False) ∧ (¬¬(true = true ↔ true = true) → (∃ (i : Nat × MacS × List UInt8), (PL.AtOK x.snd.snd.snd.fst i.fst i.2.snd.length ∧ PL.RunOK
    x.fst.fst i.2.fst i.2.snd) ∧ x.fst.fst = x.fst.fst ∧ x.fst.snd = x.fst.snd ∧ x.snd.fst = x.snd.fst ∧ x.snd.snd.fst = x.snd.snd.fst ∧ x.snd.snd.snd.fst = x.snd.snd.snd.fst ∧
    (↑x.snd.fst.length : Int) = (↑x.snd.fst.length : Int) ∧ x.snd.snd.snd.snd = x.snd.snd.snd.snd ∧ 0 = (↑i.fst : Int) ∧ x.fst.fst = x.fst.fst ∧ x.fst.snd = x.fst.snd ∧ x.fst.fst =
    x.fst.fst ∧ x.fst.snd = x.fst.snd ∧ ((false = true ↔ false = true) → False ↔ (false = true ↔ false = true) → False) ∧ ((false = true ↔ false = true) → False ↔ (false = true ↔
    false = true) → False) ∧ ((true = true ↔ true = true) → False ↔ (true = true ↔ true = true) → False) ∧ ((true = true ↔ true = true) → False ↔ (true = true ↔ true = true) →
    False) ∧ y.1.a = i.snd.fst.acc.a ∧ y.1.b = i.snd.fst.acc.b ∧ y.1.c = i.snd.fst.acc.c ∧ y.1.d = i.snd.fst.acc.d ∧ y.1.e = i.snd.fst.acc.e ∧ y.2.a = i.snd.fst.r.a ∧ y.2.b =
    i.snd.fst.r.b ∧ y.2.c = i.snd.fst.r.c ∧ y.2.d = i.snd.fst.r.d ∧ y.2.e = i.snd.fst.r.e ∧ y.s0 = i.snd.fst.s0 ∧ y.s1 = i.snd.fst.s1 ∧ y.rest = i.snd.fst.rest ∧ y.held =
    i.snd.fst.held ∧ x.fst.fst = x.fst.fst ∧ [] = i.2.snd ∧ True) ∧ ∀ (i : Nat × MacS × List UInt8), PL.AtOK x.snd.snd.snd.fst i.fst i.2.snd.length ∧ PL.RunOK x.fst.fst i.2.fst
    i.2.snd → (ar.lt (↑i.fst : Int) (↑x.snd.fst.length : Int) → ar.le 0 (↑i.fst : Int) ∧ ar.lt (↑i.fst : Int) (↑x.snd.fst.length : Int) ∧ ∀ (z : Int), z = ar.rem (ar.iget x.snd.fst
    (↑i.fst : Int)) 2 → (ar.eq z 0 → ar.le 0 (↑i.fst : Int) ∧ ar.lt (↑i.fst : Int) (↑x.snd.fst.length : Int) ∧ (ar.bget x.snd.snd.fst (↑i.fst : Int) → ∃ (x_3 : MacS × Int × List
    UInt8), i.snd.fst.acc.a = x_3.fst.acc.a ∧ i.snd.fst.acc.b = x_3.fst.acc.b ∧ i.snd.fst.acc.c = x_3.fst.acc.c ∧ i.snd.fst.acc.d = x_3.fst.acc.d ∧ i.snd.fst.acc.e = x_3.fst.acc.e
    ∧ i.snd.fst.r.a = x_3.fst.r.a ∧ i.snd.fst.r.b = x_3.fst.r.b ∧ i.snd.fst.r.c = x_3.fst.r.c ∧ i.snd.fst.r.d = x_3.fst.r.d ∧ i.snd.fst.r.e = x_3.fst.r.e ∧ i.snd.fst.s0 = x_3.1.s0
    ∧ i.snd.fst.s1 = x_3.1.s1 ∧ i.snd.fst.rest = x_3.1.rest ∧ i.snd.fst.held = x_3.1.held ∧ PL.SumPre x_3.2.fst x_3.2.snd x_3.fst ∧ ∀ (y : Unit), True → ∃ (x_4 : List UInt8 × List
    UInt8), x.fst.fst = x_4.fst ∧ i.2.snd = x_4.snd ∧ PL.TwoStr x_4.fst x_4.snd ∧ (∀ (y : Unit), PL.NotKey x_4.fst → (¬ar.seq (PL.leBytes (((PL.lastN x_3.2.fst x_3.2.snd).add
    x_3.1.s0).add (x_3.1.s1.mul 18446744073709551616))) [] → ∃ (y : Unit), True ∧ False) ∧ (¬¬ar.seq (PL.leBytes (((PL.lastN x_3.2.fst x_3.2.snd).add x_3.1.s0).add (x_3.1.s1.mul
    18446744073709551616))) [] → ∀ (z : Int), z = ar.wrap IntKind.i64 (ar.add (↑i.fst : Int) 1) → ∃ (j : Nat × MacS × List UInt8), (PL.AtOK x.snd.snd.snd.fst j.fst j.2.snd.length ∧
    PL.RunOK x.fst.fst j.2.fst j.2.snd) ∧ (x.snd.snd.snd.fst.length.sub j.fst).lt (x.snd.snd.snd.fst.length.sub i.fst) ∧ x.fst.fst = x.fst.fst ∧ x.fst.snd = x.fst.snd ∧ x.snd.fst =
    x.snd.fst ∧ x.snd.snd.fst = x.snd.snd.fst ∧ x.snd.snd.snd.fst = x.snd.snd.snd.fst ∧ (↑x.snd.fst.length : Int) = (↑x.snd.fst.length : Int) ∧ x.snd.snd.snd.snd =
    x.snd.snd.snd.snd ∧ z = (↑j.fst : Int) ∧ x.fst.fst = x.fst.fst ∧ x.fst.snd = x.fst.snd ∧ x.fst.fst = x.fst.fst ∧ x.fst.snd = x.fst.snd ∧ ((false = true ↔ false = true) → False
    ↔ (false = true ↔ false = true) → False) ∧ ((false = true ↔ false = true) → False ↔ (false = true ↔ false = true) → False) ∧ ((true = true ↔ true = true) → False ↔ (true = true
    ↔ true = true) → False) ∧ ((true = true ↔ true = true) → False ↔ (true = true ↔ true = true) → False) ∧ x_3.fst.acc.a = j.snd.fst.acc.a ∧ x_3.fst.acc.b = j.snd.fst.acc.b ∧
    x_3.fst.acc.c = j.snd.fst.acc.c ∧ x_3.fst.acc.d = j.snd.fst.acc.d ∧ x_3.fst.acc.e = j.snd.fst.acc.e ∧ x_3.fst.r.a = j.snd.fst.r.a ∧ x_3.fst.r.b = j.snd.fst.r.b ∧ x_3.fst.r.c =
    j.snd.fst.r.c ∧ x_3.fst.r.d = j.snd.fst.r.d ∧ x_3.fst.r.e = j.snd.fst.r.e ∧ x_3.1.s0 = j.snd.fst.s0 ∧ x_3.1.s1 = j.snd.fst.s1 ∧ x_3.1.rest = j.snd.fst.rest ∧ x_3.1.held =
    j.snd.fst.held ∧ x.fst.fst = x.fst.fst ∧ i.2.snd = j.2.snd ∧ True)) ∧ ∀ (y : Unit), PL.IsKey x_4.fst → (¬ar.seq (PL.leBytes (((PL.lastN x_3.2.fst x_3.2.snd).add x_3.1.s0).add
    (x_3.1.s1.mul 18446744073709551616))) (PL.tagOf x_4.fst x_4.snd) → ∃ (y : Unit), True ∧ False) ∧ (¬¬ar.seq (PL.leBytes (((PL.lastN x_3.2.fst x_3.2.snd).add x_3.1.s0).add
    (x_3.1.s1.mul 18446744073709551616))) (PL.tagOf x_4.fst x_4.snd) → ∀ (z : Int), z = ar.wrap IntKind.i64 (ar.add (↑i.fst : Int) 1) → ∃ (j : Nat × MacS × List UInt8), (PL.AtOK
    x.snd.snd.snd.fst j.fst j.2.snd.length ∧ PL.RunOK x.fst.fst j.2.fst j.2.snd) ∧ (x.snd.snd.snd.fst.length.sub j.fst).lt (x.snd.snd.snd.fst.length.sub i.fst) ∧ x.fst.fst =
    x.fst.fst ∧ x.fst.snd = x.fst.snd ∧ x.snd.fst = x.snd.fst ∧ x.snd.snd.fst = x.snd.snd.fst ∧ x.snd.snd.snd.fst = x.snd.snd.snd.fst ∧ (↑x.snd.fst.length : Int) =
    (↑x.snd.fst.length : Int) ∧ x.snd.snd.snd.snd = x.snd.snd.snd.snd ∧ z = (↑j.fst : Int) ∧ x.fst.fst = x.fst.fst ∧ x.fst.snd = x.fst.snd ∧ x.fst.fst = x.fst.fst ∧ x.fst.snd =
    x.fst.snd ∧ ((false = true ↔ false = true) → False ↔ (false = true ↔ false = true) → False) ∧ ((false = true ↔ false = true) → False ↔ (false = true ↔ false = true) → False) ∧
    ((true = true ↔ true = true) → False ↔ (true = true ↔ true = true) → False) ∧ ((true = true ↔ true = true) → False ↔ (true = true ↔ true = true) → False) ∧ x_3.fst.acc.a =
    j.snd.fst.acc.a ∧ x_3.fst.acc.b = j.snd.fst.acc.b ∧ x_3.fst.acc.c = j.snd.fst.acc.c ∧ x_3.fst.acc.d = j.snd.fst.acc.d ∧ x_3.fst.acc.e = j.snd.fst.acc.e ∧ x_3.fst.r.a =
    j.snd.fst.r.a ∧ x_3.fst.r.b = j.snd.fst.r.b ∧ x_3.fst.r.c = j.snd.fst.r.c ∧ x_3.fst.r.d = j.snd.fst.r.d ∧ x_3.fst.r.e = j.snd.fst.r.e ∧ x_3.1.s0 = j.snd.fst.s0 ∧ x_3.1.s1 =
    j.snd.fst.s1 ∧ x_3.1.rest = j.snd.fst.rest ∧ x_3.1.held = j.snd.fst.held ∧ x.fst.fst = x.fst.fst ∧ i.2.snd = j.2.snd ∧ True)) ∧ (¬ar.bget x.snd.snd.fst (↑i.fst : Int) → ∃ (x_3
    : MacS × List UInt8 × Int × List UInt8), ar.tget x.snd.snd.snd.fst (↑i.fst : Int) = x_3.2.fst ∧ i.snd.fst.acc.a = x_3.fst.acc.a ∧ i.snd.fst.acc.b = x_3.fst.acc.b ∧
    i.snd.fst.acc.c = x_3.fst.acc.c ∧ i.snd.fst.acc.d = x_3.fst.acc.d ∧ i.snd.fst.acc.e = x_3.fst.acc.e ∧ i.snd.fst.r.a = x_3.fst.r.a ∧ i.snd.fst.r.b = x_3.fst.r.b ∧ i.snd.fst.r.c
    = x_3.fst.r.c ∧ i.snd.fst.r.d = x_3.fst.r.d ∧ i.snd.fst.r.e = x_3.fst.r.e ∧ i.snd.fst.s0 = x_3.1.s0 ∧ i.snd.fst.s1 = x_3.1.s1 ∧ i.snd.fst.rest = x_3.1.rest ∧ i.snd.fst.held =
    x_3.1.held ∧ PL.WritePre x_3.snd.snd.fst x_3.snd.snd.snd x_3.2.fst x_3.fst ∧ ∀ (y : MacS), PL.Written x_3.snd.snd.fst x_3.snd.snd.snd x_3.2.fst x_3.fst y → ar.le (ar.add
    (ar.slen i.2.snd) (ar.slen (ar.tget x.snd.snd.snd.fst (↑i.fst : Int)))) 9223372036854775807 ∧ ∀ (t : List UInt8), t = ar.sapp i.2.snd (ar.tget x.snd.snd.snd.fst (↑i.fst : Int))
    → ∀ (z : Int), z = ar.wrap IntKind.i64 (ar.add (↑i.fst : Int) 1) → ∃ (j : Nat × MacS × List UInt8), (PL.AtOK x.snd.snd.snd.fst j.fst j.2.snd.length ∧ PL.RunOK x.fst.fst j.2.fst
    j.2.snd) ∧ (x.snd.snd.snd.fst.length.sub j.fst).lt (x.snd.snd.snd.fst.length.sub i.fst) ∧ x.fst.fst = x.fst.fst ∧ x.fst.snd = x.fst.snd ∧ x.snd.fst = x.snd.fst ∧ x.snd.snd.fst
    = x.snd.snd.fst ∧ x.snd.snd.snd.fst = x.snd.snd.snd.fst ∧ (↑x.snd.fst.length : Int) = (↑x.snd.fst.length : Int) ∧ x.snd.snd.snd.snd = x.snd.snd.snd.snd ∧ z = (↑j.fst : Int) ∧
    x.fst.fst = x.fst.fst ∧ x.fst.snd = x.fst.snd ∧ x.fst.fst = x.fst.fst ∧ x.fst.snd = x.fst.snd ∧ ((false = true ↔ false = true) → False ↔ (false = true ↔ false = true) → False)
    ∧ ((false = true ↔ false = true) → False ↔ (false = true ↔ false = true) → False) ∧ ((true = true ↔ true = true) → False ↔ (true = true ↔ true = true) → False) ∧ ((true = true
    ↔ true = true) → False ↔ (true = true ↔ true = true) → False) ∧ y.1.a = j.snd.fst.acc.a ∧ y.1.b = j.snd.fst.acc.b ∧ y.1.c = j.snd.fst.acc.c ∧ y.1.d = j.snd.fst.acc.d ∧ y.1.e =
    j.snd.fst.acc.e ∧ y.2.a = j.snd.fst.r.a ∧ y.2.b = j.snd.fst.r.b ∧ y.2.c = j.snd.fst.r.c ∧ y.2.d = j.snd.fst.r.d ∧ y.2.e = j.snd.fst.r.e ∧ y.s0 = j.snd.fst.s0 ∧ y.s1 =
    j.snd.fst.s1 ∧ y.rest = j.snd.fst.rest ∧ y.held = j.snd.fst.held ∧ x.fst.fst = x.fst.fst ∧ t = j.2.snd ∧ True)) ∧ (¬ar.eq z 0 → ar.le 0 (↑i.fst : Int) ∧ ar.lt (↑i.fst : Int)
    (↑x.snd.fst.length : Int) ∧ (ar.bget x.snd.snd.fst (↑i.fst : Int) → (¬ar.seq [] [] → ∃ (y : Unit), True ∧ False) ∧ (¬¬ar.seq [] [] → ∀ (z : Int), z = ar.wrap IntKind.i64
    (ar.add (↑i.fst : Int) 1) → ∃ (j : Nat × MacS × List UInt8), (PL.AtOK x.snd.snd.snd.fst j.fst j.2.snd.length ∧ PL.RunOK x.fst.fst j.2.fst j.2.snd) ∧
    (x.snd.snd.snd.fst.length.sub j.fst).lt (x.snd.snd.snd.fst.length.sub i.fst) ∧ x.fst.fst = x.fst.fst ∧ x.fst.snd = x.fst.snd ∧ x.snd.fst = x.snd.fst ∧ x.snd.snd.fst =
    x.snd.snd.fst ∧ x.snd.snd.snd.fst = x.snd.snd.snd.fst ∧ (↑x.snd.fst.length : Int) = (↑x.snd.fst.length : Int) ∧ x.snd.snd.snd.snd = x.snd.snd.snd.snd ∧ z = (↑j.fst : Int) ∧
    x.fst.fst = x.fst.fst ∧ x.fst.snd = x.fst.snd ∧ x.fst.fst = x.fst.fst ∧ x.fst.snd = x.fst.snd ∧ ((false = true ↔ false = true) → False ↔ (false = true ↔ false = true) → False)
    ∧ ((false = true ↔ false = true) → False ↔ (false = true ↔ false = true) → False) ∧ ((true = true ↔ true = true) → False ↔ (true = true ↔ true = true) → False) ∧ ((true = true
    ↔ true = true) → False ↔ (true = true ↔ true = true) → False) ∧ i.snd.fst.acc.a = j.snd.fst.acc.a ∧ i.snd.fst.acc.b = j.snd.fst.acc.b ∧ i.snd.fst.acc.c = j.snd.fst.acc.c ∧
    i.snd.fst.acc.d = j.snd.fst.acc.d ∧ i.snd.fst.acc.e = j.snd.fst.acc.e ∧ i.snd.fst.r.a = j.snd.fst.r.a ∧ i.snd.fst.r.b = j.snd.fst.r.b ∧ i.snd.fst.r.c = j.snd.fst.r.c ∧
    i.snd.fst.r.d = j.snd.fst.r.d ∧ i.snd.fst.r.e = j.snd.fst.r.e ∧ i.snd.fst.s0 = j.snd.fst.s0 ∧ i.snd.fst.s1 = j.snd.fst.s1 ∧ i.snd.fst.rest = j.snd.fst.rest ∧ i.snd.fst.held =
    j.snd.fst.held ∧ x.fst.fst = x.fst.fst ∧ i.2.snd = j.2.snd ∧ True)) ∧ (¬ar.bget x.snd.snd.fst (↑i.fst : Int) → ∀ (z : Int), z = ar.wrap IntKind.i64 (ar.add (↑i.fst : Int) 1) →
    ∃ (j : Nat × MacS × List UInt8), (PL.AtOK x.snd.snd.snd.fst j.fst j.2.snd.length ∧ PL.RunOK x.fst.fst j.2.fst j.2.snd) ∧ (x.snd.snd.snd.fst.length.sub j.fst).lt
    (x.snd.snd.snd.fst.length.sub i.fst) ∧ x.fst.fst = x.fst.fst ∧ x.fst.snd = x.fst.snd ∧ x.snd.fst = x.snd.fst ∧ x.snd.snd.fst = x.snd.snd.fst ∧ x.snd.snd.snd.fst =
    x.snd.snd.snd.fst ∧ (↑x.snd.fst.length : Int) = (↑x.snd.fst.length : Int) ∧ x.snd.snd.snd.snd = x.snd.snd.snd.snd ∧ z = (↑j.fst : Int) ∧ x.fst.fst = x.fst.fst ∧ x.fst.snd =
    x.fst.snd ∧ x.fst.fst = x.fst.fst ∧ x.fst.snd = x.fst.snd ∧ ((false = true ↔ false = true) → False ↔ (false = true ↔ false = true) → False) ∧ ((false = true ↔ false = true) →
    False ↔ (false = true ↔ false = true) → False) ∧ ((true = true ↔ true = true) → False ↔ (true = true ↔ true = true) → False) ∧ ((true = true ↔ true = true) → False ↔ (true =
    true ↔ true = true) → False) ∧ i.snd.fst.acc.a = j.snd.fst.acc.a ∧ i.snd.fst.acc.b = j.snd.fst.acc.b ∧ i.snd.fst.acc.c = j.snd.fst.acc.c ∧ i.snd.fst.acc.d = j.snd.fst.acc.d ∧
    i.snd.fst.acc.e = j.snd.fst.acc.e ∧ i.snd.fst.r.a = j.snd.fst.r.a ∧ i.snd.fst.r.b = j.snd.fst.r.b ∧ i.snd.fst.r.c = j.snd.fst.r.c ∧ i.snd.fst.r.d = j.snd.fst.r.d ∧
    i.snd.fst.r.e = j.snd.fst.r.e ∧ i.snd.fst.s0 = j.snd.fst.s0 ∧ i.snd.fst.s1 = j.snd.fst.s1 ∧ i.snd.fst.rest = j.snd.fst.rest ∧ i.snd.fst.held = j.snd.fst.held ∧ x.fst.fst =
    x.fst.fst ∧ i.2.snd = j.2.snd ∧ True))) ∧ (¬ar.lt (↑i.fst : Int) (↑x.snd.fst.length : Int) → ∃ (x_3 : MacS × Int × List UInt8), i.snd.fst.acc.a = x_3.fst.acc.a ∧
    i.snd.fst.acc.b = x_3.fst.acc.b ∧ i.snd.fst.acc.c = x_3.fst.acc.c ∧ i.snd.fst.acc.d = x_3.fst.acc.d ∧ i.snd.fst.acc.e = x_3.fst.acc.e ∧ i.snd.fst.r.a = x_3.fst.r.a ∧
    i.snd.fst.r.b = x_3.fst.r.b ∧ i.snd.fst.r.c = x_3.fst.r.c ∧ i.snd.fst.r.d = x_3.fst.r.d ∧ i.snd.fst.r.e = x_3.fst.r.e ∧ i.snd.fst.s0 = x_3.1.s0 ∧ i.snd.fst.s1 = x_3.1.s1 ∧
    i.snd.fst.rest = x_3.1.rest ∧ i.snd.fst.held = x_3.1.held ∧ PL.SumPre x_3.2.fst x_3.2.snd x_3.fst ∧ ∀ (y : Unit), True → ∃ (x_4 : List UInt8 × List UInt8), x.fst.fst = x_4.fst
    ∧ i.2.snd = x_4.snd ∧ PL.TwoStr x_4.fst x_4.snd ∧ (∀ (y : Unit), PL.NotKey x_4.fst → (ar.seq (PL.leBytes (((PL.lastN x_3.2.fst x_3.2.snd).add x_3.1.s0).add (x_3.1.s1.mul
    18446744073709551616))) [] → ∃ (y : Unit), True ∧ (ar.seq [] [] ↔ true = true) ∧ True) ∧ (¬ar.seq (PL.leBytes (((PL.lastN x_3.2.fst x_3.2.snd).add x_3.1.s0).add (x_3.1.s1.mul
    18446744073709551616))) [] → ∃ (y : Unit), True ∧ False)) ∧ ∀ (y : Unit), PL.IsKey x_4.fst → (ar.seq (PL.leBytes (((PL.lastN x_3.2.fst x_3.2.snd).add x_3.1.s0).add
    (x_3.1.s1.mul 18446744073709551616))) (PL.tagOf x_4.fst x_4.snd) → ∃ (y : Unit), True ∧ (ar.seq [] [] ↔ true = true) ∧ True) ∧ (¬ar.seq (PL.leBytes (((PL.lastN x_3.2.fst
    x_3.2.snd).add x_3.1.s0).add (x_3.1.s1.mul 18446744073709551616))) (PL.tagOf x_4.fst x_4.snd) → ∃ (y : Unit), True ∧ False)))) ∧ (¬(¬(false = true ↔ false = true) → False) → ∃
    (y : Unit), True ∧ False)) ∧ (¬¬ar.eq (ar.slen x.fst.snd) 32 → ∃ (y : Unit), True ∧ False))) ∧ ∀ (y_1 : MacS), PL.NewOK x_2 y_1 → (¬ar.eq (ar.slen x.fst.fst) 32 → (¬ar.eq
    (ar.slen x.fst.snd) 32 → ∃ (y : Unit), True ∧ False) ∧ (¬¬ar.eq (ar.slen x.fst.snd) 32 → ∃ (y : Unit), True ∧ False)) ∧ (¬¬ar.eq (ar.slen x.fst.fst) 32 → (¬ar.eq (ar.slen
    x.fst.snd) 32 → ∃ (y : Unit), True ∧ False) ∧ (¬¬ar.eq (ar.slen x.fst.snd) 32 → ((¬(false = true ↔ false = true) → False) → (¬(false = true ↔ false = true) → ∃ (y : Unit), True
    ∧ False) ∧ (¬¬(false = true ↔ false = true) → (∃ (i : Nat × (MacS × List UInt8) × MacS × List UInt8), (PL.AtOK x.snd.snd.snd.fst i.fst (i.snd.fst.snd.length.add
    i.snd.snd.snd.length) ∧ PL.RunOK x.fst.fst i.snd.fst.fst i.snd.fst.snd ∧ PL.RunOK x.fst.snd i.snd.snd.fst i.snd.snd.snd) ∧ x.fst.fst = x.fst.fst ∧ x.fst.snd = x.fst.snd ∧
    x.snd.fst = x.snd.fst ∧ x.snd.snd.fst = x.snd.snd.fst ∧ x.snd.snd.snd.fst = x.snd.snd.snd.fst ∧ (↑x.snd.fst.length : Int) = (↑x.snd.fst.length : Int) ∧ x.snd.snd.snd.snd =
    x.snd.snd.snd.snd ∧ 0 = (↑i.fst : Int) ∧ x.fst.fst = x.fst.fst ∧ x.fst.snd = x.fst.snd ∧ x.fst.fst = x.fst.fst ∧ x.fst.snd = x.fst.snd ∧ ((false = true ↔ false = true) → False
    ↔ (false = true ↔ false = true) → False) ∧ ((false = true ↔ false = true) → False ↔ (false = true ↔ false = true) → False) ∧ ((false = true ↔ false = true) → False ↔ (false =
    true ↔ false = true) → False) ∧ ((false = true ↔ false = true) → False ↔ (false = true ↔ false = true) → False) ∧ y.1.a = i.snd.fst.fst.acc.a ∧ y.1.b = i.snd.fst.fst.acc.b ∧
    y.1.c = i.snd.fst.fst.acc.c ∧ y.1.d = i.snd.fst.fst.acc.d ∧ y.1.e = i.snd.fst.fst.acc.e ∧ y.2.a = i.snd.fst.fst.r.a ∧ y.2.b = i.snd.fst.fst.r.b ∧ y.2.c = i.snd.fst.fst.r.c ∧
    y.2.d = i.snd.fst.fst.r.d ∧ y.2.e = i.snd.fst.fst.r.e ∧ y.s0 = i.snd.fst.fst.s0 ∧ y.s1 = i.snd.fst.fst.s1 ∧ y.rest = i.snd.fst.fst.rest ∧ y.held = i.snd.fst.fst.held ∧ y_1.1.a
    = i.snd.snd.fst.acc.a ∧ y_1.1.b = i.snd.snd.fst.acc.b ∧ y_1.1.c = i.snd.snd.fst.acc.c ∧ y_1.1.d = i.snd.snd.fst.acc.d ∧ y_1.1.e = i.snd.snd.fst.acc.e ∧ y_1.2.a =
    i.snd.snd.fst.r.a ∧ y_1.2.b = i.snd.snd.fst.r.b ∧ y_1.2.c = i.snd.snd.fst.r.c ∧ y_1.2.d = i.snd.snd.fst.r.d ∧ y_1.2.e = i.snd.snd.fst.r.e ∧ y_1.s0 = i.snd.snd.fst.s0 ∧ y_1.s1 =
    i.snd.snd.fst.s1 ∧ y_1.rest = i.snd.snd.fst.rest ∧ y_1.held = i.snd.snd.fst.held ∧ x.fst.fst = x.fst.fst ∧ [] = i.snd.fst.snd ∧ x.fst.snd = x.fst.snd ∧ [] = i.snd.snd.snd ∧
    True) ∧ ∀ (i : Nat × (MacS × List UInt8) × MacS × List UInt8), PL.AtOK x.snd.snd.snd.fst i.fst (i.snd.fst.snd.length.add i.snd.snd.snd.length) ∧ PL.RunOK x.fst.fst
    i.snd.fst.fst i.snd.fst.snd ∧ PL.RunOK x.fst.snd i.snd.snd.fst i.snd.snd.snd → (ar.lt (↑i.fst : Int) (↑x.snd.fst.length : Int) → ar.le 0 (↑i.fst : Int) ∧ ar.lt (↑i.fst : Int)
    (↑x.snd.fst.length : Int) ∧ ∀ (z : Int), z = ar.rem (ar.iget x.snd.fst (↑i.fst : Int)) 2 → (ar.eq z 0 → ar.le 0 (↑i.fst : Int) ∧ ar.lt (↑i.fst : Int) (↑x.snd.fst.length : Int)
    ∧ (ar.bget x.snd.snd.fst (↑i.fst : Int) → ∃ (x_3 : MacS × Int × List UInt8), i.snd.fst.fst.acc.a = x_3.fst.acc.a ∧ i.snd.fst.fst.acc.b = x_3.fst.acc.b ∧ i.snd.fst.fst.acc.c =
    x_3.fst.acc.c ∧ i.snd.fst.fst.acc.d = x_3.fst.acc.d ∧ i.snd.fst.fst.acc.e = x_3.fst.acc.e ∧ i.snd.fst.fst.r.a = x_3.fst.r.a ∧ i.snd.fst.fst.r.b = x_3.fst.r.b ∧
    i.snd.fst.fst.r.c = x_3.fst.r.c ∧ i.snd.fst.fst.r.d = x_3.fst.r.d ∧ i.snd.fst.fst.r.e = x_3.fst.r.e ∧ i.snd.fst.fst.s0 = x_3.1.s0 ∧ i.snd.fst.fst.s1 = x_3.1.s1 ∧
    i.snd.fst.fst.rest = x_3.1.rest ∧ i.snd.fst.fst.held = x_3.1.held ∧ PL.SumPre x_3.2.fst x_3.2.snd x_3.fst ∧ ∀ (y : Unit), True → ∃ (x_4 : List UInt8 × List UInt8), x.fst.fst =
    x_4.fst ∧ i.snd.fst.snd = x_4.snd ∧ PL.TwoStr x_4.fst x_4.snd ∧ (∀ (y : Unit), PL.NotKey x_4.fst → (¬ar.seq (PL.leBytes (((PL.lastN x_3.2.fst x_3.2.snd).add x_3.1.s0).add
    (x_3.1.s1.mul 18446744073709551616))) [] → ∃ (y : Unit), True ∧ False) ∧ (¬¬ar.seq (PL.leBytes (((PL.lastN x_3.2.fst x_3.2.snd).add x_3.1.s0).add (x_3.1.s1.mul
    18446744073709551616))) [] → ∀ (z : Int), z = ar.wrap IntKind.i64 (ar.add (↑i.fst : Int) 1) → ∃ (j : Nat × (MacS × List UInt8) × MacS × List UInt8), (PL.AtOK x.snd.snd.snd.fst
    j.fst (j.snd.fst.snd.length.add j.snd.snd.snd.length) ∧ PL.RunOK x.fst.fst j.snd.fst.fst j.snd.fst.snd ∧ PL.RunOK x.fst.snd j.snd.snd.fst j.snd.snd.snd) ∧
    (x.snd.snd.snd.fst.length.sub j.fst).lt (x.snd.snd.snd.fst.length.sub i.fst) ∧ x.fst.fst = x.fst.fst ∧ x.fst.snd = x.fst.snd ∧ x.snd.fst = x.snd.fst ∧ x.snd.snd.fst =
    x.snd.snd.fst ∧ x.snd.snd.snd.fst = x.snd.snd.snd.fst ∧ (↑x.snd.fst.length : Int) = (↑x.snd.fst.length : Int) ∧ x.snd.snd.snd.snd = x.snd.snd.snd.snd ∧ z = (↑j.fst : Int) ∧
    x.fst.fst = x.fst.fst ∧ x.fst.snd = x.fst.snd ∧ x.fst.fst = x.fst.fst ∧ x.fst.snd = x.fst.snd ∧ ((false = true ↔ false = true) → False ↔ (false = true ↔ false = true) → False)
    ∧ ((false = true ↔ false = true) → False ↔ (false = true ↔ false = true) → False) ∧ ((false = true ↔ false = true) → False ↔ (false = true ↔ false = true) → False) ∧ ((false =
    true ↔ false = true) → False ↔ (false = true ↔ false = true) → False) ∧ x_3.fst.acc.a = j.snd.fst.fst.acc.a ∧ x_3.fst.acc.b = j.snd.fst.fst.acc.b ∧ x_3.fst.acc.c =
    j.snd.fst.fst.acc.c ∧ x_3.fst.acc.d = j.snd.fst.fst.acc.d ∧ x_3.fst.acc.e = j.snd.fst.fst.acc.e ∧ x_3.fst.r.a = j.snd.fst.fst.r.a ∧ x_3.fst.r.b = j.snd.fst.fst.r.b ∧
    x_3.fst.r.c = j.snd.fst.fst.r.c ∧ x_3.fst.r.d = j.snd.fst.fst.r.d ∧ x_3.fst.r.e = j.snd.fst.fst.r.e ∧ x_3.1.s0 = j.snd.fst.fst.s0 ∧ x_3.1.s1 = j.snd.fst.fst.s1 ∧ x_3.1.rest =
    j.snd.fst.fst.rest ∧ x_3.1.held = j.snd.fst.fst.held ∧ i.snd.snd.fst.acc.a = j.snd.snd.fst.acc.a ∧ i.snd.snd.fst.acc.b = j.snd.snd.fst.acc.b ∧ i.snd.snd.fst.acc.c =
    j.snd.snd.fst.acc.c ∧ i.snd.snd.fst.acc.d = j.snd.snd.fst.acc.d ∧ i.snd.snd.fst.acc.e = j.snd.snd.fst.acc.e ∧ i.snd.snd.fst.r.a = j.snd.snd.fst.r.a ∧ i.snd.snd.fst.r.b =
    j.snd.snd.fst.r.b ∧ i.snd.snd.fst.r.c = j.snd.snd.fst.r.c ∧ i.snd.snd.fst.r.d = j.snd.snd.fst.r.d ∧ i.snd.snd.fst.r.e = j.snd.snd.fst.r.e ∧ i.snd.snd.fst.s0 = j.snd.snd.fst.s0
    ∧ i.snd.snd.fst.s1 = j.snd.snd.fst.s1 ∧ i.snd.snd.fst.rest = j.snd.snd.fst.rest ∧ i.snd.snd.fst.held = j.snd.snd.fst.held ∧ x.fst.fst = x.fst.fst ∧ i.snd.fst.snd =
    j.snd.fst.snd ∧ x.fst.snd = x.fst.snd ∧ i.snd.snd.snd = j.snd.snd.snd ∧ True)) ∧ ∀ (y : Unit), PL.IsKey x_4.fst → (¬ar.seq (PL.leBytes (((PL.lastN x_3.2.fst x_3.2.snd).add
    x_3.1.s0).add (x_3.1.s1.mul 18446744073709551616))) (PL.tagOf x_4.fst x_4.snd) → ∃ (y : Unit), True ∧ False) ∧ (¬¬ar.seq (PL.leBytes (((PL.lastN x_3.2.fst x_3.2.snd).add
    x_3.1.s0).add (x_3.1.s1.mul 18446744073709551616))) (PL.tagOf x_4.fst x_4.snd) → ∀ (z : Int), z = ar.wrap IntKind.i64 (ar.add (↑i.fst : Int) 1) → ∃ (j : Nat × (MacS × List
    UInt8) × MacS × List UInt8), (PL.AtOK x.snd.snd.snd.fst j.fst (j.snd.fst.snd.length.add j.snd.snd.snd.length) ∧ PL.RunOK x.fst.fst j.snd.fst.fst j.snd.fst.snd ∧ PL.RunOK
    x.fst.snd j.snd.snd.fst j.snd.snd.snd) ∧ (x.snd.snd.snd.fst.length.sub j.fst).lt (x.snd.snd.snd.fst.length.sub i.fst) ∧ x.fst.fst = x.fst.fst ∧ x.fst.snd = x.fst.snd ∧
    x.snd.fst = x.snd.fst ∧ x.snd.snd.fst = x.snd.snd.fst ∧ x.snd.snd.snd.fst = x.snd.snd.snd.fst ∧ (↑x.snd.fst.length : Int) = (↑x.snd.fst.length : Int) ∧ x.snd.snd.snd.snd =
    x.snd.snd.snd.snd ∧ z = (↑j.fst : Int) ∧ x.fst.fst = x.fst.fst ∧ x.fst.snd = x.fst.snd ∧ x.fst.fst = x.fst.fst ∧ x.fst.snd = x.fst.snd ∧ ((false = true ↔ false = true) → False
    ↔ (false = true ↔ false = true) → False) ∧ ((false = true ↔ false = true) → False ↔ (false = true ↔ false = true) → False) ∧ ((false = true ↔ false = true) → False ↔ (false =
    true ↔ false = true) → False) ∧ ((false = true ↔ false = true) → False ↔ (false = true ↔ false = true) → False) ∧ x_3.fst.acc.a = j.snd.fst.fst.acc.a ∧ x_3.fst.acc.b =
    j.snd.fst.fst.acc.b ∧ x_3.fst.acc.c = j.snd.fst.fst.acc.c ∧ x_3.fst.acc.d = j.snd.fst.fst.acc.d ∧ x_3.fst.acc.e = j.snd.fst.fst.acc.e ∧ x_3.fst.r.a = j.snd.fst.fst.r.a ∧
    x_3.fst.r.b = j.snd.fst.fst.r.b ∧ x_3.fst.r.c = j.snd.fst.fst.r.c ∧ x_3.fst.r.d = j.snd.fst.fst.r.d ∧ x_3.fst.r.e = j.snd.fst.fst.r.e ∧ x_3.1.s0 = j.snd.fst.fst.s0 ∧ x_3.1.s1 =
    j.snd.fst.fst.s1 ∧ x_3.1.rest = j.snd.fst.fst.rest ∧ x_3.1.held = j.snd.fst.fst.held ∧ i.snd.snd.fst.acc.a = j.snd.snd.fst.acc.a ∧ i.snd.snd.fst.acc.b = j.snd.snd.fst.acc.b ∧
    i.snd.snd.fst.acc.c = j.snd.snd.fst.acc.c ∧ i.snd.snd.fst.acc.d = j.snd.snd.fst.acc.d ∧ i.snd.snd.fst.acc.e = j.snd.snd.fst.acc.e ∧ i.snd.snd.fst.r.a = j.snd.snd.fst.r.a ∧
    i.snd.snd.fst.r.b = j.snd.snd.fst.r.b ∧ i.snd.snd.fst.r.c = j.snd.snd.fst.r.c ∧ i.snd.snd.fst.r.d = j.snd.snd.fst.r.d ∧ i.snd.snd.fst.r.e = j.snd.snd.fst.r.e ∧ i.snd.snd.fst.s0
    = j.snd.snd.fst.s0 ∧ i.snd.snd.fst.s1 = j.snd.snd.fst.s1 ∧ i.snd.snd.fst.rest = j.snd.snd.fst.rest ∧ i.snd.snd.fst.held = j.snd.snd.fst.held ∧ x.fst.fst = x.fst.fst ∧
    i.snd.fst.snd = j.snd.fst.snd ∧ x.fst.snd = x.fst.snd ∧ i.snd.snd.snd = j.snd.snd.snd ∧ True)) ∧ (¬ar.bget x.snd.snd.fst (↑i.fst : Int) → ∃ (x_3 : MacS × List UInt8 × Int ×
    List UInt8), ar.tget x.snd.snd.snd.fst (↑i.fst : Int) = x_3.2.fst ∧ i.snd.fst.fst.acc.a = x_3.fst.acc.a ∧ i.snd.fst.fst.acc.b = x_3.fst.acc.b ∧ i.snd.fst.fst.acc.c =
    x_3.fst.acc.c ∧ i.snd.fst.fst.acc.d = x_3.fst.acc.d ∧ i.snd.fst.fst.acc.e = x_3.fst.acc.e ∧ i.snd.fst.fst.r.a = x_3.fst.r.a ∧ i.snd.fst.fst.r.b = x_3.fst.r.b ∧
    i.snd.fst.fst.r.c = x_3.fst.r.c ∧ i.snd.fst.fst.r.d = x_3.fst.r.d ∧ i.snd.fst.fst.r.e = x_3.fst.r.e ∧ i.snd.fst.fst.s0 = x_3.1.s0 ∧ i.snd.fst.fst.s1 = x_3.1.s1 ∧
    i.snd.fst.fst.rest = x_3.1.rest ∧ i.snd.fst.fst.held = x_3.1.held ∧ PL.WritePre x_3.snd.snd.fst x_3.snd.snd.snd x_3.2.fst x_3.fst ∧ ∀ (y : MacS), PL.Written x_3.snd.snd.fst
    x_3.snd.snd.snd x_3.2.fst x_3.fst y → ar.le (ar.add (ar.slen i.snd.fst.snd) (ar.slen (ar.tget x.snd.snd.snd.fst (↑i.fst : Int)))) 9223372036854775807 ∧ ∀ (t : List UInt8), t =
    ar.sapp i.snd.fst.snd (ar.tget x.snd.snd.snd.fst (↑i.fst : Int)) → ∀ (z : Int), z = ar.wrap IntKind.i64 (ar.add (↑i.fst : Int) 1) → ∃ (j : Nat × (MacS × List UInt8) × MacS ×
    List UInt8), (PL.AtOK x.snd.snd.snd.fst j.fst (j.snd.fst.snd.length.add j.snd.snd.snd.length) ∧ PL.RunOK x.fst.fst j.snd.fst.fst j.snd.fst.snd ∧ PL.RunOK x.fst.snd
    j.snd.snd.fst j.snd.snd.snd) ∧ (x.snd.snd.snd.fst.length.sub j.fst).lt (x.snd.snd.snd.fst.length.sub i.fst) ∧ x.fst.fst = x.fst.fst ∧ x.fst.snd = x.fst.snd ∧ x.snd.fst =
    x.snd.fst ∧ x.snd.snd.fst = x.snd.snd.fst ∧ x.snd.snd.snd.fst = x.snd.snd.snd.fst ∧ (↑x.snd.fst.length : Int) = (↑x.snd.fst.length : Int) ∧ x.snd.snd.snd.snd =
    x.snd.snd.snd.snd ∧ z = (↑j.fst : Int) ∧ x.fst.fst = x.fst.fst ∧ x.fst.snd = x.fst.snd ∧ x.fst.fst = x.fst.fst ∧ x.fst.snd = x.fst.snd ∧ ((false = true ↔ false = true) → False
    ↔ (false = true ↔ false = true) → False) ∧ ((false = true ↔ false = true) → False ↔ (false = true ↔ false = true) → False) ∧ ((false = true ↔ false = true) → False ↔ (false =
    true ↔ false = true) → False) ∧ ((false = true ↔ false = true) → False ↔ (false = true ↔ false = true) → False) ∧ y.1.a = j.snd.fst.fst.acc.a ∧ y.1.b = j.snd.fst.fst.acc.b ∧
    y.1.c = j.snd.fst.fst.acc.c ∧ y.1.d = j.snd.fst.fst.acc.d ∧ y.1.e = j.snd.fst.fst.acc.e ∧ y.2.a = j.snd.fst.fst.r.a ∧ y.2.b = j.snd.fst.fst.r.b ∧ y.2.c = j.snd.fst.fst.r.c ∧
    y.2.d = j.snd.fst.fst.r.d ∧ y.2.e = j.snd.fst.fst.r.e ∧ y.s0 = j.snd.fst.fst.s0 ∧ y.s1 = j.snd.fst.fst.s1 ∧ y.rest = j.snd.fst.fst.rest ∧ y.held = j.snd.fst.fst.held ∧
    i.snd.snd.fst.acc.a = j.snd.snd.fst.acc.a ∧ i.snd.snd.fst.acc.b = j.snd.snd.fst.acc.b ∧ i.snd.snd.fst.acc.c = j.snd.snd.fst.acc.c ∧ i.snd.snd.fst.acc.d = j.snd.snd.fst.acc.d ∧
    i.snd.snd.fst.acc.e = j.snd.snd.fst.acc.e ∧ i.snd.snd.fst.r.a = j.snd.snd.fst.r.a ∧ i.snd.snd.fst.r.b = j.snd.snd.fst.r.b ∧ i.snd.snd.fst.r.c = j.snd.snd.fst.r.c ∧
    i.snd.snd.fst.r.d = j.snd.snd.fst.r.d ∧ i.snd.snd.fst.r.e = j.snd.snd.fst.r.e ∧ i.snd.snd.fst.s0 = j.snd.snd.fst.s0 ∧ i.snd.snd.fst.s1 = j.snd.snd.fst.s1 ∧ i.snd.snd.fst.rest =
    j.snd.snd.fst.rest ∧ i.snd.snd.fst.held = j.snd.snd.fst.held ∧ x.fst.fst = x.fst.fst ∧ t = j.snd.fst.snd ∧ x.fst.snd = x.fst.snd ∧ i.snd.snd.snd = j.snd.snd.snd ∧ True)) ∧
    (¬ar.eq z 0 → ar.le 0 (↑i.fst : Int) ∧ ar.lt (↑i.fst : Int) (↑x.snd.fst.length : Int) ∧ (ar.bget x.snd.snd.fst (↑i.fst : Int) → ∃ (x_3 : MacS × Int × List UInt8),
    i.snd.snd.fst.acc.a = x_3.fst.acc.a ∧ i.snd.snd.fst.acc.b = x_3.fst.acc.b ∧ i.snd.snd.fst.acc.c = x_3.fst.acc.c ∧ i.snd.snd.fst.acc.d = x_3.fst.acc.d ∧ i.snd.snd.fst.acc.e =
    x_3.fst.acc.e ∧ i.snd.snd.fst.r.a = x_3.fst.r.a ∧ i.snd.snd.fst.r.b = x_3.fst.r.b ∧ i.snd.snd.fst.r.c = x_3.fst.r.c ∧ i.snd.snd.fst.r.d = x_3.fst.r.d ∧ i.snd.snd.fst.r.e =
    x_3.fst.r.e ∧ i.snd.snd.fst.s0 = x_3.1.s0 ∧ i.snd.snd.fst.s1 = x_3.1.s1 ∧ i.snd.snd.fst.rest = x_3.1.rest ∧ i.snd.snd.fst.held = x_3.1.held ∧ PL.SumPre x_3.2.fst x_3.2.snd
    x_3.fst ∧ ∀ (y : Unit), True → ∃ (x_4 : List UInt8 × List UInt8), x.fst.snd = x_4.fst ∧ i.snd.snd.snd = x_4.snd ∧ PL.TwoStr x_4.fst x_4.snd ∧ (∀ (y : Unit), PL.NotKey x_4.fst →
    (¬ar.seq (PL.leBytes (((PL.lastN x_3.2.fst x_3.2.snd).add x_3.1.s0).add (x_3.1.s1.mul 18446744073709551616))) [] → ∃ (y : Unit), True ∧ False) ∧ (¬¬ar.seq (PL.leBytes
    (((PL.lastN x_3.2.fst x_3.2.snd).add x_3.1.s0).add (x_3.1.s1.mul 18446744073709551616))) [] → ∀ (z : Int), z = ar.wrap IntKind.i64 (ar.add (↑i.fst : Int) 1) → ∃ (j : Nat ×
    (MacS × List UInt8) × MacS × List UInt8), (PL.AtOK x.snd.snd.snd.fst j.fst (j.snd.fst.snd.length.add j.snd.snd.snd.length) ∧ PL.RunOK x.fst.fst j.snd.fst.fst j.snd.fst.snd ∧
    PL.RunOK x.fst.snd j.snd.snd.fst j.snd.snd.snd) ∧ (x.snd.snd.snd.fst.length.sub j.fst).lt (x.snd.snd.snd.fst.length.sub i.fst) ∧ x.fst.fst = x.fst.fst ∧ x.fst.snd = x.fst.snd ∧
    x.snd.fst = x.snd.fst ∧ x.snd.snd.fst = x.snd.snd.fst ∧ x.snd.snd.snd.fst = x.snd.snd.snd.fst ∧ (↑x.snd.fst.length : Int) = (↑x.snd.fst.length : Int) ∧ x.snd.snd.snd.snd =
    x.snd.snd.snd.snd ∧ z = (↑j.fst : Int) ∧ x.fst.fst = x.fst.fst ∧ x.fst.snd = x.fst.snd ∧ x.fst.fst = x.fst.fst ∧ x.fst.snd = x.fst.snd ∧ ((false = true ↔ false = true) → False
    ↔ (false = true ↔ false = true) → False) ∧ ((false = true ↔ false = true) → False ↔ (false = true ↔ false = true) → False) ∧ ((false = true ↔ false = true) → False ↔ (false =
    true ↔ false = true) → False) ∧ ((false = true ↔ false = true) → False ↔ (false = true ↔ false = true) → False) ∧ i.snd.fst.fst.acc.a = j.snd.fst.fst.acc.a ∧
    i.snd.fst.fst.acc.b = j.snd.fst.fst.acc.b ∧ i.snd.fst.fst.acc.c = j.snd.fst.fst.acc.c ∧ i.snd.fst.fst.acc.d = j.snd.fst.fst.acc.d ∧ i.snd.fst.fst.acc.e = j.snd.fst.fst.acc.e ∧
    i.snd.fst.fst.r.a = j.snd.fst.fst.r.a ∧ i.snd.fst.fst.r.b = j.snd.fst.fst.r.b ∧ i.snd.fst.fst.r.c = j.snd.fst.fst.r.c ∧ i.snd.fst.fst.r.d = j.snd.fst.fst.r.d ∧
    i.snd.fst.fst.r.e = j.snd.fst.fst.r.e ∧ i.snd.fst.fst.s0 = j.snd.fst.fst.s0 ∧ i.snd.fst.fst.s1 = j.snd.fst.fst.s1 ∧ i.snd.fst.fst.rest = j.snd.fst.fst.rest ∧ i.snd.fst.fst.held
    = j.snd.fst.fst.held ∧ x_3.fst.acc.a = j.snd.snd.fst.acc.a ∧ x_3.fst.acc.b = j.snd.snd.fst.acc.b ∧ x_3.fst.acc.c = j.snd.snd.fst.acc.c ∧ x_3.fst.acc.d = j.snd.snd.fst.acc.d ∧
    x_3.fst.acc.e = j.snd.snd.fst.acc.e ∧ x_3.fst.r.a = j.snd.snd.fst.r.a ∧ x_3.fst.r.b = j.snd.snd.fst.r.b ∧ x_3.fst.r.c = j.snd.snd.fst.r.c ∧ x_3.fst.r.d = j.snd.snd.fst.r.d ∧
    x_3.fst.r.e = j.snd.snd.fst.r.e ∧ x_3.1.s0 = j.snd.snd.fst.s0 ∧ x_3.1.s1 = j.snd.snd.fst.s1 ∧ x_3.1.rest = j.snd.snd.fst.rest ∧ x_3.1.held = j.snd.snd.fst.held ∧ x.fst.fst =
    x.fst.fst ∧ i.snd.fst.snd = j.snd.fst.snd ∧ x.fst.snd = x.fst.snd ∧ i.snd.snd.snd = j.snd.snd.snd ∧ True)) ∧ ∀ (y : Unit), PL.IsKey x_4.fst → (¬ar.seq (PL.leBytes (((PL.lastN
    x_3.2.fst x_3.2.snd).add x_3.1.s0).add (x_3.1.s1.mul 18446744073709551616))) (PL.tagOf x_4.fst x_4.snd) → ∃ (y : Unit), True ∧ False) ∧ (¬¬ar.seq (PL.leBytes (((PL.lastN
    x_3.2.fst x_3.2.snd).add x_3.1.s0).add (x_3.1.s1.mul 18446744073709551616))) (PL.tagOf x_4.fst x_4.snd) → ∀ (z : Int), z = ar.wrap IntKind.i64 (ar.add (↑i.fst : Int) 1) → ∃ (j
    : Nat × (MacS × List UInt8) × MacS × List UInt8), (PL.AtOK x.snd.snd.snd.fst j.fst (j.snd.fst.snd.length.add j.snd.snd.snd.length) ∧ PL.RunOK x.fst.fst j.snd.fst.fst
    j.snd.fst.snd ∧ PL.RunOK x.fst.snd j.snd.snd.fst j.snd.snd.snd) ∧ (x.snd.snd.snd.fst.length.sub j.fst).lt (x.snd.snd.snd.fst.length.sub i.fst) ∧ x.fst.fst = x.fst.fst ∧
    x.fst.snd = x.fst.snd ∧ x.snd.fst = x.snd.fst ∧ x.snd.snd.fst = x.snd.snd.fst ∧ x.snd.snd.snd.fst = x.snd.snd.snd.fst ∧ (↑x.snd.fst.length : Int) = (↑x.snd.fst.length : Int) ∧
    x.snd.snd.snd.snd = x.snd.snd.snd.snd ∧ z = (↑j.fst : Int) ∧ x.fst.fst = x.fst.fst ∧ x.fst.snd = x.fst.snd ∧ x.fst.fst = x.fst.fst ∧ x.fst.snd = x.fst.snd ∧ ((false = true ↔
    false = true) → False ↔ (false = true ↔ false = true) → False) ∧ ((false = true ↔ false = true) → False ↔ (false = true ↔ false = true) → False) ∧ ((false = true ↔ false =
    true) → False ↔ (false = true ↔ false = true) → False) ∧ ((false = true ↔ false = true) → False ↔ (false = true ↔ false = true) → False) ∧ i.snd.fst.fst.acc.a =
    j.snd.fst.fst.acc.a ∧ i.snd.fst.fst.acc.b = j.snd.fst.fst.acc.b ∧ i.snd.fst.fst.acc.c = j.snd.fst.fst.acc.c ∧ i.snd.fst.fst.acc.d = j.snd.fst.fst.acc.d ∧ i.snd.fst.fst.acc.e =
    j.snd.fst.fst.acc.e ∧ i.snd.fst.fst.r.a = j.snd.fst.fst.r.a ∧ i.snd.fst.fst.r.b = j.snd.fst.fst.r.b ∧ i.snd.fst.fst.r.c = j.snd.fst.fst.r.c ∧ i.snd.fst.fst.r.d =
    j.snd.fst.fst.r.d ∧ i.snd.fst.fst.r.e = j.snd.fst.fst.r.e ∧ i.snd.fst.fst.s0 = j.snd.fst.fst.s0 ∧ i.snd.fst.fst.s1 = j.snd.fst.fst.s1 ∧ i.snd.fst.fst.rest = j.snd.fst.fst.rest
    ∧ i.snd.fst.fst.held = j.snd.fst.fst.held ∧ x_3.fst.acc.a = j.snd.snd.fst.acc.a ∧ x_3.fst.acc.b = j.snd.snd.fst.acc.b ∧ x_3.fst.acc.c = j.snd.snd.fst.acc.c ∧ x_3.fst.acc.d =
    j.snd.snd.fst.acc.d ∧ x_3.fst.acc.e = j.snd.snd.fst.acc.e ∧ x_3.fst.r.a = j.snd.snd.fst.r.a ∧ x_3.fst.r.b = j.snd.snd.fst.r.b ∧ x_3.fst.r.c = j.snd.snd.fst.r.c ∧ x_3.fst.r.d =
    j.snd.snd.fst.r.d ∧ x_3.fst.r.e = j.snd.snd.fst.r.e ∧ x_3.1.s0 = j.snd.snd.fst.s0 ∧ x_3.1.s1 = j.snd.snd.fst.s1 ∧ x_3.1.rest = j.snd.snd.fst.rest ∧ x_3.1.held =
    j.snd.snd.fst.held ∧ x.fst.fst = x.fst.fst ∧ i.snd.fst.snd = j.snd.fst.snd ∧ x.fst.snd = x.fst.snd ∧ i.snd.snd.snd = j.snd.snd.snd ∧ True)) ∧ (¬ar.bget x.snd.snd.fst (↑i.fst :
    Int) → ∃ (x_3 : MacS × List UInt8 × Int × List UInt8), ar.tget x.snd.snd.snd.fst (↑i.fst : Int) = x_3.2.fst ∧ i.snd.snd.fst.acc.a = x_3.fst.acc.a ∧ i.snd.snd.fst.acc.b =
    x_3.fst.acc.b ∧ i.snd.snd.fst.acc.c = x_3.fst.acc.c ∧ i.snd.snd.fst.acc.d = x_3.fst.acc.d ∧ i.snd.snd.fst.acc.e = x_3.fst.acc.e ∧ i.snd.snd.fst.r.a = x_3.fst.r.a ∧
    i.snd.snd.fst.r.b = x_3.fst.r.b ∧ i.snd.snd.fst.r.c = x_3.fst.r.c ∧ i.snd.snd.fst.r.d = x_3.fst.r.d ∧ i.snd.snd.fst.r.e = x_3.fst.r.e ∧ i.snd.snd.fst.s0 = x_3.1.s0 ∧
    i.snd.snd.fst.s1 = x_3.1.s1 ∧ i.snd.snd.fst.rest = x_3.1.rest ∧ i.snd.snd.fst.held = x_3.1.held ∧ PL.WritePre x_3.snd.snd.fst x_3.snd.snd.snd x_3.2.fst x_3.fst ∧ ∀ (y : MacS),
    PL.Written x_3.snd.snd.fst x_3.snd.snd.snd x_3.2.fst x_3.fst y → ar.le (ar.add (ar.slen i.snd.snd.snd) (ar.slen (ar.tget x.snd.snd.snd.fst (↑i.fst : Int)))) 9223372036854775807
    ∧ ∀ (t : List UInt8), t = ar.sapp i.snd.snd.snd (ar.tget x.snd.snd.snd.fst (↑i.fst : Int)) → ∀ (z : Int), z = ar.wrap IntKind.i64 (ar.add (↑i.fst : Int) 1) → ∃ (j : Nat × (MacS
    × List UInt8) × MacS × List UInt8), (PL.AtOK x.snd.snd.snd.fst j.fst (j.snd.fst.snd.length.add j.snd.snd.snd.length) ∧ PL.RunOK x.fst.fst j.snd.fst.fst j.snd.fst.snd ∧ PL.RunOK
    x.fst.snd j.snd.snd.fst j.snd.snd.snd) ∧ (x.snd.snd.snd.fst.length.sub j.fst).lt (x.snd.snd.snd.fst.length.sub i.fst) ∧ x.fst.fst = x.fst.fst ∧ x.fst.snd = x.fst.snd ∧
    x.snd.fst = x.snd.fst ∧ x.snd.snd.fst = x.snd.snd.fst ∧ x.snd.snd.snd.fst = x.snd.snd.snd.fst ∧ (↑x.snd.fst.length : Int) = (↑x.snd.fst.length : Int) ∧ x.snd.snd.snd.snd =
    x.snd.snd.snd.snd ∧ z = (↑j.fst : Int) ∧ x.fst.fst = x.fst.fst ∧ x.fst.snd = x.fst.snd ∧ x.fst.fst = x.fst.fst ∧ x.fst.snd = x.fst.snd ∧ ((false = true ↔ false = true) → False
    ↔ (false = true ↔ false = true) → False) ∧ ((false = true ↔ false = true) → False ↔ (false = true ↔ false = true) → False) ∧ ((false = true ↔ false = true) → False ↔ (false =
    true ↔ false = true) → False) ∧ ((false = true ↔ false = true) → False ↔ (false = true ↔ false = true) → False) ∧ i.snd.fst.fst.acc.a = j.snd.fst.fst.acc.a ∧
    i.snd.fst.fst.acc.b = j.snd.fst.fst.acc.b ∧ i.snd.fst.fst.acc.c = j.snd.fst.fst.acc.c ∧ i.snd.fst.fst.acc.d = j.snd.fst.fst.acc.d ∧ i.snd.fst.fst.acc.e = j.snd.fst.fst.acc.e ∧
    i.snd.fst.fst.r.a = j.snd.fst.fst.r.a ∧ i.snd.fst.fst.r.b = j.snd.fst.fst.r.b ∧ i.snd.fst.fst.r.c = j.snd.fst.fst.r.c ∧ i.snd.fst.fst.r.d = j.snd.fst.fst.r.d ∧
    i.snd.fst.fst.r.e = j.snd.fst.fst.r.e ∧ i.snd.fst.fst.s0 = j.snd.fst.fst.s0 ∧ i.snd.fst.fst.s1 = j.snd.fst.fst.s1 ∧ i.snd.fst.fst.rest = j.snd.fst.fst.rest ∧ i.snd.fst.fst.held
    = j.snd.fst.fst.held ∧ y.1.a = j.snd.snd.fst.acc.a ∧ y.1.b = j.snd.snd.fst.acc.b ∧ y.1.c = j.snd.snd.fst.acc.c ∧ y.1.d = j.snd.snd.fst.acc.d ∧ y.1.e = j.snd.snd.fst.acc.e ∧
    y.2.a = j.snd.snd.fst.r.a ∧ y.2.b = j.snd.snd.fst.r.b ∧ y.2.c = j.snd.snd.fst.r.c ∧ y.2.d = j.snd.snd.fst.r.d ∧ y.2.e = j.snd.snd.fst.r.e ∧ y.s0 = j.snd.snd.fst.s0 ∧ y.s1 =
    j.snd.snd.fst.s1 ∧ y.rest = j.snd.snd.fst.rest ∧ y.held = j.snd.snd.fst.held ∧ x.fst.fst = x.fst.fst ∧ i.snd.fst.snd = j.snd.fst.snd ∧ x.fst.snd = x.fst.snd ∧ t = j.snd.snd.snd
    ∧ True))) ∧ (¬ar.lt (↑i.fst : Int) (↑x.snd.fst.length : Int) → ∃ (x_3 : MacS × Int × List UInt8), i.snd.fst.fst.acc.a = x_3.fst.acc.a ∧ i.snd.fst.fst.acc.b = x_3.fst.acc.b ∧
    i.snd.fst.fst.acc.c = x_3.fst.acc.c ∧ i.snd.fst.fst.acc.d = x_3.fst.acc.d ∧ i.snd.fst.fst.acc.e = x_3.fst.acc.e ∧ i.snd.fst.fst.r.a = x_3.fst.r.a ∧ i.snd.fst.fst.r.b =
    x_3.fst.r.b ∧ i.snd.fst.fst.r.c = x_3.fst.r.c ∧ i.snd.fst.fst.r.d = x_3.fst.r.d ∧ i.snd.fst.fst.r.e = x_3.fst.r.e ∧ i.snd.fst.fst.s0 = x_3.1.s0 ∧ i.snd.fst.fst.s1 = x_3.1.s1 ∧
    i.snd.fst.fst.rest = x_3.1.rest ∧ i.snd.fst.fst.held = x_3.1.held ∧ PL.SumPre x_3.2.fst x_3.2.snd x_3.fst ∧ ∀ (y : Unit), True → ∃ (x_4 : List UInt8 × List UInt8), x.fst.fst =
    x_4.fst ∧ i.snd.fst.snd = x_4.snd ∧ PL.TwoStr x_4.fst x_4.snd ∧ (∀ (y : Unit), PL.NotKey x_4.fst → (ar.seq (PL.leBytes (((PL.lastN x_3.2.fst x_3.2.snd).add x_3.1.s0).add
    (x_3.1.s1.mul 18446744073709551616))) [] → ∃ (x_5 : MacS × Int × List UInt8), i.snd.snd.fst.acc.a = x_5.fst.acc.a ∧ i.snd.snd.fst.acc.b = x_5.fst.acc.b ∧ i.snd.snd.fst.acc.c =
    x_5.fst.acc.c ∧ i.snd.snd.fst.acc.d = x_5.fst.acc.d ∧ i.snd.snd.fst.acc.e = x_5.fst.acc.e ∧ i.snd.snd.fst.r.a = x_5.fst.r.a ∧ i.snd.snd.fst.r.b = x_5.fst.r.b ∧
    i.snd.snd.fst.r.c = x_5.fst.r.c ∧ i.snd.snd.fst.r.d = x_5.fst.r.d ∧ i.snd.snd.fst.r.e = x_5.fst.r.e ∧ i.snd.snd.fst.s0 = x_5.1.s0 ∧ i.snd.snd.fst.s1 = x_5.1.s1 ∧
    i.snd.snd.fst.rest = x_5.1.rest ∧ i.snd.snd.fst.held = x_5.1.held ∧ PL.SumPre x_5.2.fst x_5.2.snd x_5.fst ∧ ∀ (y : Unit), True → ∃ (x_6 : List UInt8 × List UInt8), x.fst.snd =
    x_6.fst ∧ i.snd.snd.snd = x_6.snd ∧ PL.TwoStr x_6.fst x_6.snd ∧ (∀ (y : Unit), PL.NotKey x_6.fst → ∃ (y : Unit), True ∧ (ar.seq (PL.leBytes (((PL.lastN x_5.2.fst x_5.2.snd).add
    x_5.1.s0).add (x_5.1.s1.mul 18446744073709551616))) [] ↔ true = true) ∧ True) ∧ ∀ (y : Unit), PL.IsKey x_6.fst → ∃ (y : Unit), True ∧ (ar.seq (PL.leBytes (((PL.lastN x_5.2.fst
    x_5.2.snd).add x_5.1.s0).add (x_5.1.s1.mul 18446744073709551616))) (PL.tagOf x_6.fst x_6.snd) ↔ true = true) ∧ True) ∧ (¬ar.seq (PL.leBytes (((PL.lastN x_3.2.fst x_3.2.snd).add
    x_3.1.s0).add (x_3.1.s1.mul 18446744073709551616))) [] → ∃ (y : Unit), True ∧ False)) ∧ ∀ (y : Unit), PL.IsKey x_4.fst → (ar.seq (PL.leBytes (((PL.lastN x_3.2.fst
    x_3.2.snd).add x_3.1.s0).add (x_3.1.s1.mul 18446744073709551616))) (PL.tagOf x_4.fst x_4.snd) → ∃ (x_5 : MacS × Int × List UInt8), i.snd.snd.fst.acc.a = x_5.fst.acc.a ∧
    i.snd.snd.fst.acc.b = x_5.fst.acc.b ∧ i.snd.snd.fst.acc.c = x_5.fst.acc.c ∧ i.snd.snd.fst.acc.d = x_5.fst.acc.d ∧ i.snd.snd.fst.acc.e = x_5.fst.acc.e ∧ i.snd.snd.fst.r.a =
    x_5.fst.r.a ∧ i.snd.snd.fst.r.b = x_5.fst.r.b ∧ i.snd.snd.fst.r.c = x_5.fst.r.c ∧ i.snd.snd.fst.r.d = x_5.fst.r.d ∧ i.snd.snd.fst.r.e = x_5.fst.r.e ∧ i.snd.snd.fst.s0 =
    x_5.1.s0 ∧ i.snd.snd.fst.s1 = x_5.1.s1 ∧ i.snd.snd.fst.rest = x_5.1.rest ∧ i.snd.snd.fst.held = x_5.1.held ∧ PL.SumPre x_5.2.fst x_5.2.snd x_5.fst ∧ ∀ (y : Unit), True → ∃ (x_6
    : List UInt8 × List UInt8), x.fst.snd = x_6.fst ∧ i.snd.snd.snd = x_6.snd ∧ PL.TwoStr x_6.fst x_6.snd ∧ (∀ (y : Unit), PL.NotKey x_6.fst → ∃ (y : Unit), True ∧ (ar.seq
    (PL.leBytes (((PL.lastN x_5.2.fst x_5.2.snd).add x_5.1.s0).add (x_5.1.s1.mul 18446744073709551616))) [] ↔ true = true) ∧ True) ∧ ∀ (y : Unit), PL.IsKey x_6.fst → ∃ (y : Unit),
    True ∧ (ar.seq (PL.leBytes (((PL.lastN x_5.2.fst x_5.2.snd).add x_5.1.s0).add (x_5.1.s1.mul 18446744073709551616))) (PL.tagOf x_6.fst x_6.snd) ↔ true = true) ∧ True) ∧ (¬ar.seq
    (PL.leBytes (((PL.lastN x_3.2.fst x_3.2.snd).add x_3.1.s0).add (x_3.1.s1.mul 18446744073709551616))) (PL.tagOf x_4.fst x_4.snd) → ∃ (y : Unit), True ∧ False)))) ∧ (¬(¬(false =
    true ↔ false = true) → False) → ∃ (y : Unit), True ∧ False)))) := by
  kernel_rfl
end Go.Eng


/- Poly: walks. -/
set_option linter.unusedVariables false
set_option linter.unusedSectionVars false
namespace Go.Eng
variable [CW : CWorld]
open Go.Proofs
open Go.PL (L5 MacS)
set_option maxRecDepth 100000
theorem vc4n (ar : AR) (x : List UInt8 × List UInt8) : (run ar PP nSpecs (runsInvs x.1 x.2 []) 1000 4 0 (Try.f4.body.getD .skip) ([.str x.1, .str x.2, .nslc] ++ List.replicate (Try.f4.ntmps - 3) .any) [] (endCall ar PP Try.f4.results.toList (runsNilSpec.fin x))) = (
    ∃ (x_1 : List UInt8), x.fst = x_1 ∧ PL.LenOK x_1 ∧ (∀ (y : Unit), PL.NotKey x_1 → ∃ (x_2 : List UInt8), x.snd = x_2 ∧ PL.LenOK x_2 ∧ (∀ (y : Unit), PL.NotKey x_2 → (¬ar.eq
    (ar.slen x.fst) 32 → (¬ar.eq (ar.slen x.snd) 32 → ((¬(true = true ↔ true = true) → False) → (¬(true = true ↔ true = true) → ∃ (y : Unit), True ∧ False) ∧ (¬¬(true = true ↔ true
    = true) → (∃ (i : Nat), PL.AtOK [] i 0 ∧ x.fst = x.fst ∧ x.snd = x.snd ∧ 0 = (↑i : Int) ∧ x.fst = x.fst ∧ x.snd = x.snd ∧ x.fst = x.fst ∧ x.snd = x.snd ∧ ((true = true ↔ true =
    true) → False ↔ (true = true ↔ true = true) → False) ∧ ((true = true ↔ true = true) → False ↔ (true = true ↔ true = true) → False) ∧ ((true = true ↔ true = true) → False ↔
    (true = true ↔ true = true) → False) ∧ ((true = true ↔ true = true) → False ↔ (true = true ↔ true = true) → False) ∧ True) ∧ ∀ (i : Nat), PL.AtOK [] i 0 → (ar.lt (↑i : Int) 0 →
    False) ∧ (¬ar.lt (↑i : Int) 0 → (ar.seq [] [] → ∃ (y : Unit), True ∧ (ar.seq [] [] ↔ true = true) ∧ True) ∧ (¬ar.seq [] [] → ∃ (y : Unit), True ∧ False)))) ∧ (¬(¬(true = true ↔
    true = true) → False) → ∃ (y : Unit), True ∧ False)) ∧ (¬¬ar.eq (ar.slen x.snd) 32 → ∃ (y : Unit), True ∧ False)) ∧ (¬¬ar.eq (ar.slen x.fst) 32 → (¬ar.eq (ar.slen x.snd) 32 → ∃
    (y : Unit), True ∧ False) ∧ (¬¬ar.eq (ar.slen x.snd) 32 → ∃ (y : Unit), True ∧ False))) ∧ ∀ (y : MacS), PL.NewOK x_2 y → (¬ar.eq (ar.slen x.fst) 32 → (¬ar.eq (ar.slen x.snd) 32
    → ∃ (y : Unit), True ∧ False) ∧ (¬¬ar.eq (ar.slen x.snd) 32 → ((¬(true = true ↔ true = true) → False) → (¬(false = true ↔ false = true) → ∃ (y : Unit), True ∧ False) ∧
    (¬¬(false = true ↔ false = true) → (∃ (i : Nat × MacS × List UInt8), (PL.AtOK [] i.fst i.2.snd.length ∧ PL.RunOK x.snd i.2.fst i.2.snd) ∧ x.fst = x.fst ∧ x.snd = x.snd ∧ 0 =
    (↑i.fst : Int) ∧ x.fst = x.fst ∧ x.snd = x.snd ∧ x.fst = x.fst ∧ x.snd = x.snd ∧ ((true = true ↔ true = true) → False ↔ (true = true ↔ true = true) → False) ∧ ((true = true ↔
    true = true) → False ↔ (true = true ↔ true = true) → False) ∧ ((false = true ↔ false = true) → False ↔ (false = true ↔ false = true) → False) ∧ ((false = true ↔ false = true) →
    False ↔ (false = true ↔ false = true) → False) ∧ y.1.a = i.snd.fst.acc.a ∧ y.1.b = i.snd.fst.acc.b ∧ y.1.c = i.snd.fst.acc.c ∧ y.1.d = i.snd.fst.acc.d ∧ y.1.e = i.snd.fst.acc.e
    ∧ y.2.a = i.snd.fst.r.a ∧ y.2.b = i.snd.fst.r.b ∧ y.2.c = i.snd.fst.r.c ∧ y.2.d = i.snd.fst.r.d ∧ y.2.e = i.snd.fst.r.e ∧ y.s0 = i.snd.fst.s0 ∧ y.s1 = i.snd.fst.s1 ∧ y.rest =
    i.snd.fst.rest ∧ y.held = i.snd.fst.held ∧ x.snd = x.snd ∧ [] = i.2.snd ∧ True) ∧ ∀ (i : Nat × MacS × List UInt8), PL.AtOK [] i.fst i.2.snd.length ∧ PL.RunOK x.snd i.2.fst
    i.2.snd → (ar.lt (↑i.fst : Int) 0 → False) ∧ (¬ar.lt (↑i.fst : Int) 0 → (ar.seq [] [] → ∃ (x_3 : MacS × Int × List UInt8), i.snd.fst.acc.a = x_3.fst.acc.a ∧ i.snd.fst.acc.b =
    x_3.fst.acc.b ∧ i.snd.fst.acc.c = x_3.fst.acc.c ∧ i.snd.fst.acc.d = x_3.fst.acc.d ∧ i.snd.fst.acc.e = x_3.fst.acc.e ∧ i.snd.fst.r.a = x_3.fst.r.a ∧ i.snd.fst.r.b = x_3.fst.r.b
    ∧ i.snd.fst.r.c = x_3.fst.r.c ∧ i.snd.fst.r.d = x_3.fst.r.d ∧ i.snd.fst.r.e = x_3.fst.r.e ∧ i.snd.fst.s0 = x_3.1.s0 ∧ i.snd.fst.s1 = x_3.1.s1 ∧ i.snd.fst.rest = x_3.1.rest ∧
    i.snd.fst.held = x_3.1.held ∧ PL.SumPre x_3.2.fst x_3.2.snd x_3.fst ∧ ∀ (y : Unit), True → ∃ (x_4 : List UInt8 × List UInt8), x.snd = x_4.fst ∧ i.2.snd = x_4.snd ∧ PL.TwoStr
    x_4.fst x_4.snd ∧ (∀ (y : Unit), PL.NotKey x_4.fst → ∃ (y : Unit), True ∧ (ar.seq (PL.leBytes (((PL.lastN x_3.2.fst x_3.2.snd).add x_3.1.s0).add (x_3.1.s1.mul
    18446744073709551616))) [] ↔ true = true) ∧ True) ∧ ∀ (y : Unit), PL.IsKey x_4.fst → ∃ (y : Unit), True ∧ (ar.seq (PL.leBytes (((PL.lastN x_3.2.fst x_3.2.snd).add x_3.1.s0).add
    (x_3.1.s1.mul 18446744073709551616))) (PL.tagOf x_4.fst x_4.snd) ↔ true = true) ∧ True) ∧ (¬ar.seq [] [] → ∃ (y : Unit), True ∧ False)))) ∧ (¬(¬(true = true ↔ true = true) →
    False) → ∃ (y : Unit), True ∧ False))) ∧ (¬¬ar.eq (ar.slen x.fst) 32 → (¬ar.eq (ar.slen x.snd) 32 → ∃ (y : Unit), True ∧ False) ∧ (¬¬ar.eq (ar.slen x.snd) 32 → ∃ (y : Unit),
    True ∧ False))) ∧ ∀ (y : MacS), PL.NewOK x_1 y → ∃ (x_2 : List UInt8), x.snd = x_2 ∧ PL.LenOK x_2 ∧ (∀ (y_1 : Unit), PL.NotKey x_2 → (¬ar.eq (ar.slen x.fst) 32 → (¬ar.eq
    (ar.slen x.snd) 32 → ∃ (y : Unit), True ∧ False) ∧ (¬¬ar.eq (ar.slen x.snd) 32 → ∃ (y : Unit), True ∧ False)) ∧ (¬¬ar.eq (ar.slen x.fst) 32 → (¬ar.eq (ar.slen x.snd) 32 →
    ((¬(false = true ↔ false = true) → False) → (¬(true = true ↔ true = true) → ∃ (y : Unit), True ∧ False) ∧ (¬¬(true = true ↔ true = true) → (∃ (i : Nat × MacS × List UInt8),
    (PL.AtOK [] i.fst i.2.snd.length ∧ PL.RunOK x.fst i.2.fst i.2.snd) ∧ x.fst = x.fst ∧ x.snd = x.snd ∧ 0 = (↑i.fst : Int) ∧ x.fst = x.fst ∧ x.snd = x.snd ∧ x.fst = x.fst ∧ x.snd
    = x.snd ∧ ((false = true ↔ false = true) → False ↔ (false = true ↔ false = true) → False) ∧ ((false = true ↔ false = true) → False ↔ (false = true ↔ false = true) → False) ∧
    ((true = true ↔ true = true) → False ↔ (true = true ↔ true = true) → False) ∧ ((true = true ↔ true = true) → False ↔ (true = true ↔ true = true) → False) ∧ y.1.a =
    i.snd.fst.acc.a ∧ y.1.b = i.snd.fst.acc.b ∧ y.1.c = i.snd.fst.acc.c ∧ y.1.d = i.snd.fst.acc.d ∧ y.1.e = i.snd.fst.acc.e ∧ y.2.a = i.snd.fst.r.a ∧ y.2.b = i.snd.fst.r.b ∧ y.2.c
    = i.snd.fst.r.c ∧ y.2.d = i.snd.fst.r.d ∧ y.2.e = i.snd.fst.r.e ∧ y.s0 = i.snd.fst.s0 ∧ y.s1 = i.snd.fst.s1 ∧ y.rest = i.snd.fst.rest ∧ y.held = i.snd.fst.held ∧ x.fst = x.fst
    ∧ [] = i.2.snd ∧ True) ∧ ∀ (i : Nat × MacS × List UInt8), PL.AtOK [] i.fst i.2.snd.length ∧ PL.RunOK x.fst i.2.fst i.2.snd → (ar.lt (↑i.fst : Int) 0 → False) ∧ (¬ar.lt (↑i.fst
    : Int) 0 → ∃ (x_3 : MacS × Int × List UInt8), i.snd.fst.acc.a = x_3.fst.acc.a ∧ i.snd.fst.acc.b = x_3.fst.acc.b ∧ i.snd.fst.acc.c = x_3.fst.acc.c ∧ i.snd.fst.acc.d =
    x_3.fst.acc.d ∧ i.snd.fst.acc.e = x_3.fst.acc.e ∧ i.snd.fst.r.a = x_3.fst.r.a ∧ i.snd.fst.r.b = x_3.fst.r.b ∧ i.snd.fst.r.c = x_3.fst.r.c ∧ i.snd.fst.r.d = x_3.fst.r.d ∧
    i.snd.fst.r.e = x_3.fst.r.e ∧ i.snd.fst.s0 = x_3.1.s0 ∧ i.snd.fst.s1 = x_3.1.s1 ∧ i.snd.fst.rest = x_3.1.rest ∧ i.snd.fst.held = x_3.1.held ∧ PL.SumPre x_3.2.fst x_3.2.snd
    x_3.fst ∧ ∀ (y : Unit), True → ∃ (x_4 : List UInt8 × List UInt8), x.fst = x_4.fst ∧ i.2.snd = x_4.snd ∧ PL.TwoStr x_4.fst x_4.snd ∧ (∀ (y : Unit), PL.NotKey x_4.fst → (ar.seq
    (PL.leBytes (((PL.lastN x_3.2.fst x_3.2.snd).add x_3.1.s0).add (x_3.1.s1.mul 18446744073709551616))) [] → ∃ (y : Unit), True ∧ (ar.seq [] [] ↔ true = true) ∧ True) ∧ (¬ar.seq
    (PL.leBytes (((PL.lastN x_3.2.fst x_3.2.snd).add x_3.1.s0).add (x_3.1.s1.mul 18446744073709551616))) [] → ∃ (y : Unit), True ∧ False)) ∧ ∀ (y : Unit), PL.IsKey x_4.fst →
    (ar.seq (PL.leBytes (((PL.lastN x_3.2.fst x_3.2.snd).add x_3.1.s0).add (x_3.1.s1.mul 18446744073709551616))) (PL.tagOf x_4.fst x_4.snd) → ∃ (y : Unit), True ∧ (ar.seq [] [] ↔
    true = true) ∧ True) ∧ (¬ar.seq (PL.leBytes (((PL.lastN x_3.2.fst x_3.2.snd).add x_3.1.s0).add (x_3.1.s1.mul 18446744073709551616))) (PL.tagOf x_4.fst x_4.snd) → ∃ (y : Unit),
    True ∧ False)))) ∧ (¬(¬(false = true ↔ false = true) → False) → ∃ (y : Unit), True ∧ False)) ∧ (¬¬ar.eq (ar.slen x.snd) 32 → ∃ (y : Unit), True ∧ False))) ∧ ∀ (y_1 : MacS),
    PL.NewOK x_2 y_1 → (¬ar.eq (ar.slen x.fst) 32 → (¬ar.eq (ar.slen x.snd) 32 → ∃ (y : Unit), True ∧ False) ∧ (¬¬ar.eq (ar.slen x.snd) 32 → ∃ (y : Unit), True ∧ False)) ∧ (¬¬ar.eq
    (ar.slen x.fst) 32 → (¬ar.eq (ar.slen x.snd) 32 → ∃ (y : Unit), True ∧ False) ∧ (¬¬ar.eq (ar.slen x.snd) 32 → ((¬(false = true ↔ false = true) → False) → (¬(false = true ↔
    false = true) → ∃ (y : Unit), True ∧ False) ∧ (¬¬(false = true ↔ false = true) → (∃ (i : Nat × (MacS × List UInt8) × MacS × List UInt8), (PL.AtOK [] i.fst
    (i.snd.fst.snd.length.add i.snd.snd.snd.length) ∧ PL.RunOK x.fst i.snd.fst.fst i.snd.fst.snd ∧ PL.RunOK x.snd i.snd.snd.fst i.snd.snd.snd) ∧ x.fst = x.fst ∧ x.snd = x.snd ∧ 0 =
    (↑i.fst : Int) ∧ x.fst = x.fst ∧ x.snd = x.snd ∧ x.fst = x.fst ∧ x.snd = x.snd ∧ ((false = true ↔ false = true) → False ↔ (false = true ↔ false = true) → False) ∧ ((false =
    true ↔ false = true) → False ↔ (false = true ↔ false = true) → False) ∧ ((false = true ↔ false = true) → False ↔ (false = true ↔ false = true) → False) ∧ ((false = true ↔ false
    = true) → False ↔ (false = true ↔ false = true) → False) ∧ y.1.a = i.snd.fst.fst.acc.a ∧ y.1.b = i.snd.fst.fst.acc.b ∧ y.1.c = i.snd.fst.fst.acc.c ∧ y.1.d = i.snd.fst.fst.acc.d
    ∧ y.1.e = i.snd.fst.fst.acc.e ∧ y.2.a = i.snd.fst.fst.r.a ∧ y.2.b = i.snd.fst.fst.r.b ∧ y.2.c = i.snd.fst.fst.r.c ∧ y.2.d = i.snd.fst.fst.r.d ∧ y.2.e = i.snd.fst.fst.r.e ∧ y.s0
    = i.snd.fst.fst.s0 ∧ y.s1 = i.snd.fst.fst.s1 ∧ y.rest = i.snd.fst.fst.rest ∧ y.held = i.snd.fst.fst.held ∧ y_1.1.a = i.snd.snd.fst.acc.a ∧ y_1.1.b = i.snd.snd.fst.acc.b ∧
    y_1.1.c = i.snd.snd.fst.acc.c ∧ y_1.1.d = i.snd.snd.fst.acc.d ∧ y_1.1.e = i.snd.snd.fst.acc.e ∧ y_1.2.a = i.snd.snd.fst.r.a ∧ y_1.2.b = i.snd.snd.fst.r.b ∧ y_1.2.c =
    i.snd.snd.fst.r.c ∧ y_1.2.d = i.snd.snd.fst.r.d ∧ y_1.2.e = i.snd.snd.fst.r.e ∧ y_1.s0 = i.snd.snd.fst.s0 ∧ y_1.s1 = i.snd.snd.fst.s1 ∧ y_1.rest = i.snd.snd.fst.rest ∧ y_1.held
    = i.snd.snd.fst.held ∧ x.fst = x.fst ∧ [] = i.snd.fst.snd ∧ x.snd = x.snd ∧ [] = i.snd.snd.snd ∧ True) ∧ ∀ (i : Nat × (MacS × List UInt8) × MacS × List UInt8), PL.AtOK [] i.fst
    (i.snd.fst.snd.length.add i.snd.snd.snd.length) ∧ PL.RunOK x.fst i.snd.fst.fst i.snd.fst.snd ∧ PL.RunOK x.snd i.snd.snd.fst i.snd.snd.snd → (ar.lt (↑i.fst : Int) 0 → False) ∧
    (¬ar.lt (↑i.fst : Int) 0 → ∃ (x_3 : MacS × Int × List UInt8), i.snd.fst.fst.acc.a = x_3.fst.acc.a ∧ i.snd.fst.fst.acc.b = x_3.fst.acc.b ∧ i.snd.fst.fst.acc.c = x_3.fst.acc.c ∧
    i.snd.fst.fst.acc.d = x_3.fst.acc.d ∧ i.snd.fst.fst.acc.e = x_3.fst.acc.e ∧ i.snd.fst.fst.r.a = x_3.fst.r.a ∧ i.snd.fst.fst.r.b = x_3.fst.r.b ∧ i.snd.fst.fst.r.c = x_3.fst.r.c
    ∧ i.snd.fst.fst.r.d = x_3.fst.r.d ∧ i.snd.fst.fst.r.e = x_3.fst.r.e ∧ i.snd.fst.fst.s0 = x_3.1.s0 ∧ i.snd.fst.fst.s1 = x_3.1.s1 ∧ i.snd.fst.fst.rest = x_3.1.rest ∧
    i.snd.fst.fst.held = x_3.1.held ∧ PL.SumPre x_3.2.fst x_3.2.snd x_3.fst ∧ ∀ (y : Unit), True → ∃ (x_4 : List UInt8 × List UInt8), x.fst = x_4.fst ∧ i.snd.fst.snd = x_4.snd ∧
    PL.TwoStr x_4.fst x_4.snd ∧ (∀ (y : Unit), PL.NotKey x_4.fst → (ar.seq (PL.leBytes (((PL.lastN x_3.2.fst x_3.2.snd).add x_3.1.s0).add (x_3.1.s1.mul 18446744073709551616))) [] →
    ∃ (x_5 : MacS × Int × List UInt8), i.snd.snd.fst.acc.a = x_5.fst.acc.a ∧ i.snd.snd.fst.acc.b = x_5.fst.acc.b ∧ i.snd.snd.fst.acc.c = x_5.fst.acc.c ∧ i.snd.snd.fst.acc.d =
    x_5.fst.acc.d ∧ i.snd.snd.fst.acc.e = x_5.fst.acc.e ∧ i.snd.snd.fst.r.a = x_5.fst.r.a ∧ i.snd.snd.fst.r.b = x_5.fst.r.b ∧ i.snd.snd.fst.r.c = x_5.fst.r.c ∧ i.snd.snd.fst.r.d =
    x_5.fst.r.d ∧ i.snd.snd.fst.r.e = x_5.fst.r.e ∧ i.snd.snd.fst.s0 = x_5.1.s0 ∧ i.snd.snd.fst.s1 = x_5.1.s1 ∧ i.snd.snd.fst.rest = x_5.1.rest ∧ i.snd.snd.fst.held = x_5.1.held ∧
    PL.SumPre x_5.2.fst x_5.2.snd x_5.fst ∧ ∀ (y : Unit), True → ∃ (x_6 : List UInt8 × List UInt8), x.snd = x_6.fst ∧ i.snd.snd.snd = x_6.snd ∧ PL.TwoStr x_6.fst x_6.snd ∧ (∀ (y :
    Unit), PL.NotKey x_6.fst → ∃ (y : Unit), True ∧ (ar.seq (PL.leBytes (((PL.lastN x_5.2.fst x_5.2.snd).add x_5.1.s0).add (x_5.1.s1.mul 18446744073709551616))) [] ↔ true = true) ∧
    True) ∧ ∀ (y : Unit), PL.IsKey x_6.fst → ∃ (y : Unit), True ∧ (ar.seq (PL.leBytes (((PL.lastN x_5.2.fst x_5.2.snd).add x_5.1.s0).add (x_5.1.s1.mul 18446744073709551616)))
    (PL.tagOf x_6.fst x_6.snd) ↔ true = true) ∧ True) ∧ (¬ar.seq (PL.leBytes (((PL.lastN x_3.2.fst x_3.2.snd).add x_3.1.s0).add (x_3.1.s1.mul 18446744073709551616))) [] → ∃ (y :
    Unit), True ∧ False)) ∧ ∀ (y : Unit), PL.IsKey x_4.fst → (ar.seq (PL.leBytes (((PL.lastN x_3.2.fst x_3.2.snd).add x_3.1.s0).add (x_3.1.s1.mul 18446744073709551616))) (PL.tagOf
    x_4.fst x_4.snd) → ∃ (x_5 : MacS × Int × List UInt8), i.snd.snd.fst.acc.a = x_5.fst.acc.a ∧ i.snd.snd.fst.acc.b = x_5.fst.acc.b ∧ i.snd.snd.fst.acc.c = x_5.fst.acc.c ∧
    i.snd.snd.fst.acc.d = x_5.fst.acc.d ∧ i.snd.snd.fst.acc.e = x_5.fst.acc.e ∧ i.snd.snd.fst.r.a = x_5.fst.r.a ∧ i.snd.snd.fst.r.b = x_5.fst.r.b ∧ i.snd.snd.fst.r.c = x_5.fst.r.c
    ∧ i.snd.snd.fst.r.d = x_5.fst.r.d ∧ i.snd.snd.fst.r.e = x_5.fst.r.e ∧ i.snd.snd.fst.s0 = x_5.1.s0 ∧ i.snd.snd.fst.s1 = x_5.1.s1 ∧ i.snd.snd.fst.rest = x_5.1.rest ∧
    i.snd.snd.fst.held = x_5.1.held ∧ PL.SumPre x_5.2.fst x_5.2.snd x_5.fst ∧ ∀ (y : Unit), True → ∃ (x_6 : List UInt8 × List UInt8), x.snd = x_6.fst ∧ i.snd.snd.snd = x_6.snd ∧
    PL.TwoStr x_6.fst x_6.snd ∧ (∀ (y : Unit), PL.NotKey x_6.fst → ∃ (y : Unit), True ∧ (ar.seq (PL.leBytes (((PL.lastN x_5.2.fst x_5.2.snd).add x_5.1.s0).add (x_5.1.s1.mul
    18446744073709551616))) [] ↔ true = true) ∧ True) ∧ ∀ (y : Unit), PL.IsKey x_6.fst → ∃ (y : Unit), True ∧ (ar.seq (PL.leBytes (((PL.lastN x_5.2.fst x_5.2.snd).add x_5.1.s0).add
    (x_5.1.s1.mul 18446744073709551616))) (PL.tagOf x_6.fst x_6.snd) ↔ true = true) ∧ True) ∧ (¬ar.seq (PL.leBytes (((PL.lastN x_3.2.fst x_3.2.snd).add x_3.1.s0).add (x_3.1.s1.mul
    18446744073709551616))) (PL.tagOf x_4.fst x_4.snd) → ∃ (y : Unit), True ∧ False)))) ∧ (¬(¬(false = true ↔ false = true) → False) → ∃ (y : Unit), True ∧ False)))) := by
  kernel_rfl
end Go.Eng


set_option linter.unusedSimpArgs false
set_option linter.unusedVariables false
set_option linter.unusedSectionVars false
set_option maxRecDepth 100000
namespace Go.Eng
variable [CW : CWorld]
open Go.Proofs
open Go.PL (L5 MacS)

theorem nSpecs_ok : SpecsOK PP nSpecs := by
  intro f xs _ S h
  unfold nSpecs at h
  split at h
  · cases h; exact newSpec_ok
  · cases h; exact refTagSpec_ok
  · cases h; exact sumSpec_ok
  · cases h; exact writeSpec_ok
  · cases h

theorem notKey_iff (k : List UInt8) : PL.NotKey k ↔ ¬ k.length = 32 := ⟨fun h => h.ne, fun h => ⟨h⟩⟩
theorem isKey_iff (k : List UInt8) : PL.IsKey k ↔ k.length = 32 := ⟨fun h => h.len, fun h => ⟨h⟩⟩
theorem newOK_not {k : List UInt8} (h : ¬ k.length = 32) (y : MacS) : PL.NewOK k y ↔ False := ⟨fun g => h g.len, fun g => g.elim⟩
theorem runOK_new {k : List UInt8} {m : MacS} (h : PL.NewOK k m) : PL.RunOK k m [] := ⟨⟨h.len⟩, h.ok, h.s0, h.s1⟩
theorem runOK_write {k t s : List UInt8} {m y : MacS} (h : PL.RunOK k m t) (hw : PL.Written (PL.rOf k) t s m y) : PL.RunOK k y (t ++ s) := ⟨h.key, hw.ok, hw.s0.trans h.s0, hw.s1.trans h.s1⟩
theorem sumLen_take_succ : ∀ (l : List (List UInt8)) (i : Nat), i < l.length → PL.sumLen (l.take (i + 1)) = PL.sumLen (l.take i) + (l.getD i []).length
  | [], i, h => by simp at h
  | s :: l, 0, h => by simp [PL.sumLen]
  | s :: l, i + 1, h => by
    have ih := sumLen_take_succ l i (by simpa using h)
    simp only [List.take_succ_cons, PL.sumLen, ih, List.getD_cons_succ]
    omega
theorem sumLen_take_le : ∀ (l : List (List UInt8)) (i : Nat), PL.sumLen (l.take i) ≤ PL.sumLen l
  | [], i => by simp
  | s :: l, 0 => by simp [PL.sumLen]
  | s :: l, i + 1 => by
    have ih := sumLen_take_le l i
    simp only [List.take_succ_cons, PL.sumLen]
    omega
theorem at_next {texts : List (List UInt8)} {i len : Nat} (h : PL.AtOK texts i len) (hi : i < texts.length) : PL.AtOK texts (i + 1) len := ⟨by omega, by
  have := sumLen_take_succ texts i hi
  have := h.le
  omega⟩
theorem at_write {texts : List (List UInt8)} {i len : Nat} (h : PL.AtOK texts i len) (hi : i < texts.length) {n : Nat} (hn : n = len + (texts.getD i []).length) : PL.AtOK texts (i + 1) n := ⟨by omega, by
  have := sumLen_take_succ texts i hi
  have := h.le
  omega⟩
theorem at_le {texts : List (List UInt8)} {i len : Nat} (h : PL.AtOK texts i len) (hs : PL.sumLen texts ≤ 1048576) : len ≤ 1048576 := by
  have := sumLen_take_le texts i
  have := h.le
  omega
theorem at_len {texts : List (List UInt8)} {i len : Nat} (h : PL.AtOK texts i len) (hs : PL.sumLen texts ≤ 1048576) (hi : i < texts.length) : (texts.getD i []).length ≤ 1048576 := by
  have := sumLen_take_succ texts i hi
  have := sumLen_take_le texts (i + 1)
  omega


set_option maxHeartbeats 1000000 in
theorem runsSpec_ok : runsSpec.OK PP 4 := by
  refine Spec.ok_of_run (fn := Try.f4) (c := Try.f4.body.getD .skip) (by kernel_rfl) (by kernel_rfl) (by kernel_rfl) nSpecs_ok (fun x => runsInvs x.1.1 x.1.2 x.2.2.2.1) 1000 ?_
  rintro ⟨⟨k1, k2⟩, ats, asks, texts, cap⟩ ⟨hk1, hk2, hla, hlt, hsum, hn, hI, hcap⟩
  refine (vc4 ar0 ((k1, k2), ats, asks, texts, cap)).mpr ?_
  replace hlt : texts.length = ats.length := hlt
  replace hsum : PL.sumLen texts ≤ 1048576 := hsum
  replace hn : ats.length ≤ 1048576 := hn
  have at0 : PL.AtOK texts 0 0 := ⟨Nat.zero_le _, Nat.zero_le _⟩
  have hb : ∀ (i len : Nat), PL.AtOK texts i len → len ≤ 1048576 := fun i len h => at_le h hsum
  have wr : ∀ i : Nat, i < texts.length → IntKind.i64.wrap ((i : Int) + 1) = ((i + 1 : Nat) : Int) := fun i hi => by
    rw [wrap_i64 (by omega) (by omega)]; omega
  have tg : ∀ i : Nat, ar0.tget texts (i : Int) = texts.getD i [] := fun i => by show texts.getD (i : Int).toNat [] = _; rw [Int.toNat_natCast]
  have l1 : k1.length ≤ 140737488351232 := hk1.len
  have l2 : k2.length ≤ 140737488351232 := hk2.len
  have lo1 : PL.LenOK k1 := ⟨by omega⟩
  have lo2 : PL.LenOK k2 := ⟨by omega⟩
  have tw : ∀ (k t : List UInt8), k.length = 32 → t.length ≤ 1048576 → PL.TwoStr k t := fun k t h1 h2 => ⟨⟨by omega⟩, ⟨by omega⟩⟩
  have e32 : ∀ k : List UInt8, ((k.length : Int) = 32) = (k.length = 32) := fun k => propext ⟨fun h => by omega, fun h => by omega⟩
  simp only [ars, Prod.exists, Prod.forall, exists_and_left, exists_eq_left', exists_eq_left, true_and, and_true, and_false, exists_const, exists_false, false_or, or_false, forall_const, forall_eq, imp_false, Classical.not_not, lo1, lo2, notKey_iff, isKey_iff, e32, iff_self, not_true_eq_false, not_false_eq_true, true_implies, false_implies]
  simp only [tg]
  by_cases h1 : k1.length = 32 <;> by_cases h2 : k2.length = 32
  · simp only [h1, h2, not_true_eq_false, not_false_eq_true, true_and, and_true, false_implies, true_implies, implies_true, forall_const, iff_true]
    intro y hy y1 hy1
    refine ⟨⟨0, y, [], y1, [], ⟨at0, runOK_new hy, runOK_new hy1⟩, ?_⟩, ?_⟩
    · and_intros <;> rfl
    rintro i m1 T1 m2 T2 ⟨hat, hr1, hr2⟩
    have hle := hb _ _ hat
    have t1 := tw k1 T1 h1 (by omega)
    have t2 := tw k2 T2 h2 (by omega)
    refine ⟨fun hlti => ?_, fun hge => ?_⟩
    · have hi : i < texts.length := by omega
      have hlen := at_len hat hsum hi
      refine ⟨by omega, by omega, fun hev => ⟨by omega, by omega, fun hask => ?_, fun hask => ?_⟩, fun hodd => ⟨by omega, by omega, fun hask => ?_, fun hask => ?_⟩⟩
      · refine ⟨m1, rfl, rfl, rfl, rfl, rfl, rfl, rfl, rfl, rfl, rfl, rfl, rfl, rfl, rfl, PL.rOf k1, T1, sum_pre h1 hr1.ok hr1.s0 hr1.s1, t1, sum_tag h1 hr1.s0 hr1.s1, fun _ => ⟨i + 1, m1, T1, m2, T2, ⟨at_next hat hi, hr1, hr2⟩, ?_⟩⟩
        and_intros <;> first | rfl | exact wr i hi | (show texts.length - (i + 1) < texts.length - i; omega)
      · refine ⟨m1, rfl, rfl, rfl, rfl, rfl, rfl, rfl, rfl, rfl, rfl, rfl, rfl, rfl, rfl, PL.rOf k1, T1, ⟨hr1.ok, by omega⟩, fun y hy => ⟨by omega, i + 1, y, T1 ++ texts.getD i [], m2, T2, ⟨at_write hat hi (by rw [List.length_append]; omega), runOK_write hr1 hy, hr2⟩, ?_⟩⟩
        and_intros <;> first | rfl | exact wr i hi | (show texts.length - (i + 1) < texts.length - i; omega)
      · refine ⟨m2, rfl, rfl, rfl, rfl, rfl, rfl, rfl, rfl, rfl, rfl, rfl, rfl, rfl, rfl, PL.rOf k2, T2, sum_pre h2 hr2.ok hr2.s0 hr2.s1, t2, sum_tag h2 hr2.s0 hr2.s1, fun _ => ⟨i + 1, m1, T1, m2, T2, ⟨at_next hat hi, hr1, hr2⟩, ?_⟩⟩
        and_intros <;> first | rfl | exact wr i hi | (show texts.length - (i + 1) < texts.length - i; omega)
      · refine ⟨m2, rfl, rfl, rfl, rfl, rfl, rfl, rfl, rfl, rfl, rfl, rfl, rfl, rfl, rfl, PL.rOf k2, T2, ⟨hr2.ok, by omega⟩, fun y hy => ⟨by omega, i + 1, m1, T1, y, T2 ++ texts.getD i [], ⟨at_write hat hi (by rw [List.length_append]; omega), hr1, runOK_write hr2 hy⟩, ?_⟩⟩
        and_intros <;> first | rfl | exact wr i hi | (show texts.length - (i + 1) < texts.length - i; omega)
    · refine ⟨m1, rfl, rfl, rfl, rfl, rfl, rfl, rfl, rfl, rfl, rfl, rfl, rfl, rfl, rfl, PL.rOf k1, T1, sum_pre h1 hr1.ok hr1.s0 hr1.s1, t1, fun _ => ⟨m2, rfl, rfl, rfl, rfl, rfl, rfl, rfl, rfl, rfl, rfl, rfl, rfl, rfl, rfl, PL.rOf k2, T2, sum_pre h2 hr2.ok hr2.s0 hr2.s1, t2, sum_tag h2 hr2.s0 hr2.s1⟩, sum_tag h1 hr1.s0 hr1.s1⟩
  · simp only [h1, h2, newOK_not h2, not_true_eq_false, not_false_eq_true, true_and, and_true, false_implies, true_implies, implies_true, forall_const, iff_true]
    intro y hy
    refine ⟨⟨0, y, [], ⟨at0, runOK_new hy⟩, ?_⟩, ?_⟩
    · and_intros <;> rfl
    rintro i m T ⟨hat, hr⟩
    have hle := hb _ _ hat
    have t1 := tw k1 T h1 (by omega)
    refine ⟨fun hlti => ?_, fun hge => ?_⟩
    · have hi : i < texts.length := by omega
      have hlen := at_len hat hsum hi
      refine ⟨by omega, by omega, fun hev => ⟨by omega, by omega, fun hask => ?_, fun hask => ?_⟩, fun hodd => ⟨by omega, by omega, fun hask => ?_, fun hask => ?_⟩⟩
      · refine ⟨m, rfl, rfl, rfl, rfl, rfl, rfl, rfl, rfl, rfl, rfl, rfl, rfl, rfl, rfl, PL.rOf k1, T, sum_pre h1 hr.ok hr.s0 hr.s1, t1, sum_tag h1 hr.s0 hr.s1, fun _ => ⟨i + 1, m, T, ⟨at_next hat hi, hr⟩, ?_⟩⟩
        and_intros <;> first | rfl | exact wr i hi | (show texts.length - (i + 1) < texts.length - i; omega)
      · refine ⟨m, rfl, rfl, rfl, rfl, rfl, rfl, rfl, rfl, rfl, rfl, rfl, rfl, rfl, rfl, PL.rOf k1, T, ⟨hr.ok, by omega⟩, fun y hy => ⟨by omega, i + 1, y, T ++ texts.getD i [], ⟨at_write hat hi (by rw [List.length_append]), runOK_write hr hy⟩, ?_⟩⟩
        and_intros <;> first | rfl | exact wr i hi | (show texts.length - (i + 1) < texts.length - i; omega)
      · refine ⟨i + 1, m, T, ⟨at_next hat hi, hr⟩, ?_⟩
        and_intros <;> first | rfl | exact wr i hi | (show texts.length - (i + 1) < texts.length - i; omega)
      · refine ⟨i + 1, m, T, ⟨at_next hat hi, hr⟩, ?_⟩
        and_intros <;> first | rfl | exact wr i hi | (show texts.length - (i + 1) < texts.length - i; omega)
    · refine ⟨m, rfl, rfl, rfl, rfl, rfl, rfl, rfl, rfl, rfl, rfl, rfl, rfl, rfl, rfl, PL.rOf k1, T, sum_pre h1 hr.ok hr.s0 hr.s1, t1, sum_tag h1 hr.s0 hr.s1⟩
  · simp only [h1, h2, newOK_not h1, not_true_eq_false, not_false_eq_true, true_and, and_true, false_implies, true_implies, implies_true, forall_const, iff_true]
    intro y hy
    refine ⟨⟨0, y, [], ⟨at0, runOK_new hy⟩, ?_⟩, ?_⟩
    · and_intros <;> rfl
    rintro i m T ⟨hat, hr⟩
    have hle := hb _ _ hat
    have t1 := tw k2 T h2 (by omega)
    refine ⟨fun hlti => ?_, fun hge => ?_⟩
    · have hi : i < texts.length := by omega
      have hlen := at_len hat hsum hi
      refine ⟨by omega, by omega, fun hev => ⟨by omega, by omega, fun hask => ?_, fun hask => ?_⟩, fun hodd => ⟨by omega, by omega, fun hask => ?_, fun hask => ?_⟩⟩
      · refine ⟨i + 1, m, T, ⟨at_next hat hi, hr⟩, ?_⟩
        and_intros <;> first | rfl | exact wr i hi | (show texts.length - (i + 1) < texts.length - i; omega)
      · refine ⟨i + 1, m, T, ⟨at_next hat hi, hr⟩, ?_⟩
        and_intros <;> first | rfl | exact wr i hi | (show texts.length - (i + 1) < texts.length - i; omega)
      · refine ⟨m, rfl, rfl, rfl, rfl, rfl, rfl, rfl, rfl, rfl, rfl, rfl, rfl, rfl, rfl, PL.rOf k2, T, sum_pre h2 hr.ok hr.s0 hr.s1, t1, sum_tag h2 hr.s0 hr.s1, fun _ => ⟨i + 1, m, T, ⟨at_next hat hi, hr⟩, ?_⟩⟩
        and_intros <;> first | rfl | exact wr i hi | (show texts.length - (i + 1) < texts.length - i; omega)
      · refine ⟨m, rfl, rfl, rfl, rfl, rfl, rfl, rfl, rfl, rfl, rfl, rfl, rfl, rfl, rfl, PL.rOf k2, T, ⟨hr.ok, by omega⟩, fun y hy => ⟨by omega, i + 1, y, T ++ texts.getD i [], ⟨at_write hat hi (by rw [List.length_append]), runOK_write hr hy⟩, ?_⟩⟩
        and_intros <;> first | rfl | exact wr i hi | (show texts.length - (i + 1) < texts.length - i; omega)
    · refine ⟨m, rfl, rfl, rfl, rfl, rfl, rfl, rfl, rfl, rfl, rfl, rfl, rfl, rfl, rfl, PL.rOf k2, T, sum_pre h2 hr.ok hr.s0 hr.s1, t1, sum_tag h2 hr.s0 hr.s1⟩
  · simp only [h1, h2, newOK_not h1, newOK_not h2, not_true_eq_false, not_false_eq_true, true_and, and_true, false_implies, true_implies, implies_true, forall_const, iff_true]
    refine ⟨⟨0, at0, rfl⟩, ?_⟩
    intro i hat
    intro hlti
    have hi : i < texts.length := by omega
    have nx := at_next hat hi
    have w := wr i hi
    exact ⟨by omega, by omega, fun _ => ⟨by omega, by omega, fun _ => ⟨i + 1, nx, by omega, w⟩, fun _ => ⟨i + 1, nx, by omega, w⟩⟩, fun _ => ⟨by omega, by omega, fun _ => ⟨i + 1, nx, by omega, w⟩, fun _ => ⟨i + 1, nx, by omega, w⟩⟩⟩

theorem runsNilSpec_ok : runsNilSpec.OK PP 4 := by
  refine Spec.ok_of_run (fn := Try.f4) (c := Try.f4.body.getD .skip) (by kernel_rfl) (by kernel_rfl) (by kernel_rfl) nSpecs_ok (fun x => runsInvs x.1 x.2 []) 1000 ?_
  rintro ⟨k1, k2⟩ ⟨hk1, hk2⟩
  refine (vc4n ar0 (k1, k2)).mpr ?_
  have at0 : PL.AtOK [] 0 0 := ⟨Nat.le_refl _, Nat.zero_le _⟩
  have hb : ∀ (i len : Nat), PL.AtOK [] i len → len ≤ 1048576 := fun i len h => at_le h (by decide)
  have l1 : k1.length ≤ 140737488351232 := hk1.len
  have l2 : k2.length ≤ 140737488351232 := hk2.len
  have lo1 : PL.LenOK k1 := ⟨by omega⟩
  have lo2 : PL.LenOK k2 := ⟨by omega⟩
  have tw : ∀ (k t : List UInt8), k.length = 32 → t.length ≤ 1048576 → PL.TwoStr k t := fun k t h1 h2 => ⟨⟨by omega⟩, ⟨by omega⟩⟩
  have e32 : ∀ k : List UInt8, ((k.length : Int) = 32) = (k.length = 32) := fun k => propext ⟨fun h => by omega, fun h => by omega⟩
  simp only [ars, Prod.exists, Prod.forall, exists_and_left, exists_eq_left', exists_eq_left, true_and, and_true, and_false, exists_const, exists_false, false_or, or_false, forall_const, forall_eq, imp_false, Classical.not_not, lo1, lo2, notKey_iff, isKey_iff, e32, iff_self, not_true_eq_false, not_false_eq_true, true_implies, false_implies]
  by_cases h1 : k1.length = 32 <;> by_cases h2 : k2.length = 32
  · simp only [h1, h2, not_true_eq_false, not_false_eq_true, true_and, and_true, false_implies, true_implies, implies_true, forall_const, iff_true]
    intro y hy y1 hy1
    refine ⟨⟨0, y, [], y1, [], ⟨at0, runOK_new hy, runOK_new hy1⟩, ?_⟩, ?_⟩
    · and_intros <;> rfl
    rintro i m1 T1 m2 T2 ⟨hat, hr1, hr2⟩
    have hle := hb _ _ hat
    have t1 := tw k1 T1 h1 (by omega)
    have t2 := tw k2 T2 h2 (by omega)
    refine ⟨by omega, fun hge => ?_⟩
    · refine ⟨m1, rfl, rfl, rfl, rfl, rfl, rfl, rfl, rfl, rfl, rfl, rfl, rfl, rfl, rfl, PL.rOf k1, T1, sum_pre h1 hr1.ok hr1.s0 hr1.s1, t1, fun _ => ⟨m2, rfl, rfl, rfl, rfl, rfl, rfl, rfl, rfl, rfl, rfl, rfl, rfl, rfl, rfl, PL.rOf k2, T2, sum_pre h2 hr2.ok hr2.s0 hr2.s1, t2, sum_tag h2 hr2.s0 hr2.s1⟩, sum_tag h1 hr1.s0 hr1.s1⟩
  · simp only [h1, h2, newOK_not h2, not_true_eq_false, not_false_eq_true, true_and, and_true, false_implies, true_implies, implies_true, forall_const, iff_true]
    intro y hy
    refine ⟨⟨0, y, [], ⟨at0, runOK_new hy⟩, ?_⟩, ?_⟩
    · and_intros <;> rfl
    rintro i m T ⟨hat, hr⟩
    have hle := hb _ _ hat
    have t1 := tw k1 T h1 (by omega)
    refine ⟨by omega, fun hge => ?_⟩
    · refine ⟨m, rfl, rfl, rfl, rfl, rfl, rfl, rfl, rfl, rfl, rfl, rfl, rfl, rfl, rfl, PL.rOf k1, T, sum_pre h1 hr.ok hr.s0 hr.s1, t1, sum_tag h1 hr.s0 hr.s1⟩
  · simp only [h1, h2, newOK_not h1, not_true_eq_false, not_false_eq_true, true_and, and_true, false_implies, true_implies, implies_true, forall_const, iff_true]
    intro y hy
    refine ⟨⟨0, y, [], ⟨at0, runOK_new hy⟩, ?_⟩, ?_⟩
    · and_intros <;> rfl
    rintro i m T ⟨hat, hr⟩
    have hle := hb _ _ hat
    have t1 := tw k2 T h2 (by omega)
    refine ⟨by omega, fun hge => ?_⟩
    · refine ⟨m, rfl, rfl, rfl, rfl, rfl, rfl, rfl, rfl, rfl, rfl, rfl, rfl, rfl, rfl, PL.rOf k2, T, sum_pre h2 hr.ok hr.s0 hr.s1, t1, sum_tag h2 hr.s0 hr.s1⟩
  · simp only [h1, h2, newOK_not h1, newOK_not h2, not_true_eq_false, not_false_eq_true, true_and, and_true, false_implies, true_implies, implies_true, forall_const, iff_true]
    refine ⟨⟨0, at0, rfl⟩, ?_⟩
    intro i hat
    omega
end Go.Eng
