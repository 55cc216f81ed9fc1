/- Poly: PolyKnown holds its contract. -/
import Derived.Test.YtnkdnnaelcgenaaPolyC
import Derived.Test.YtnkdnnaelcgenaaEngC
set_option linter.unusedVariables false
set_option linter.unusedSimpArgs false

/- Poly: the contracts of the statements. -/
namespace Go.PL
structure TwoStr (a b : List UInt8) : Prop where
  a : StrOK a
  b : StrOK b
/-- The bits that are taken as 0 make no difference. -/
structure ClampOK (k l : List UInt8) : Prop where
  len : l.length = 32
  first : clampI (ints (l.take 16)) = clampI (ints (k.take 16))
  rest : l.drop 16 = k.drop 16
structure I64 (n : Int) : Prop where
  b : -9223372036854775808 ≤ n ∧ n < 9223372036854775808
structure ClampPre (a b : List UInt8) (n : Int) : Prop where
  a : StrOK a
  b : StrOK b
  n : I64 n
structure Upto22 (i : Nat) : Prop where
  le : i ≤ 22
structure IntsOK (l : List Int) : Prop where
  b : ∀ x ∈ l, -9223372036854775808 ≤ x ∧ x < 9223372036854775808
  len : l.length ≤ 140737488351232
structure PiecesPre (a b : List UInt8) (l : List Int) (c : Int) : Prop where
  a : StrOK a
  b : StrOK b
  hl : IntsOK l
  hc : l.length ≤ c
/-- The round i of PolyPieces: so much of the text has been taken in. -/
structure PiecesOK (key text : List UInt8) (cuts : List Int) (i at_ : Nat) (m : MacS) : Prop where
  hi : i ≤ cuts.length + 1
  le : at_ ≤ text.length
  last : i = cuts.length + 1 → at_ = text.length
  ok : MacOK (rOf (keyedF key)) (text.take at_) m
  s0 : m.s0 = leI (ints (((keyedF key).drop 16).take 8))
  s1 : m.s1 = leI (ints ((keyedF key).drop 24))
end Go.PL
set_option linter.unusedSectionVars false
namespace Go.Eng
variable [CW : CWorld]
open Go.Proofs
open Go.PL (L5 MacS)
set_option maxRecDepth 100000

def taggedSpec : Spec where
  X := List UInt8 × List UInt8 × List UInt8
  A x := [.str x.1, .str x.2.1, .str x.2.2]
  H _ := []
  pre x := PL.TagPre x.1 x.2.1
  outs := [{ Y _ := Unit, post _ _ := True, R x _ := .bool (.x (PL.IsKey x.1 ∧ PL.tagOf x.1 x.2.1 = x.2.2)), H' _ _ := [] }]

noncomputable def uSpecs : Specs := fun f _ _ => match f with
  | 18 => some tagSpec
  | _ => none

noncomputable def lSpecs : Specs := fun f _ _ => match f with
  | 12 => some newSpec
  | 24 => some writeSpec
  | 16 => some sumSpec
  | 18 => some tagSpec
  | 22 => some taggedSpec
  | 23 => some keyedSpec
  | 20 => some hexSpec
  | 21 => some zerosSpec
  | 25 => some plusSpec
  | _ => none

def knownSpec : Spec where
  X := Unit
  A _ := []
  H _ := []
  pre _ := True
  outs := [lawOut _]
def addsSpec : Spec where
  X := List UInt8 × List UInt8
  A x := [.str x.1, .str x.2]
  H _ := []
  pre x := PL.TwoStr x.1 x.2
  outs := [lawOut _]
def clampsSpec : Spec where
  X := List UInt8 × List UInt8 × Int
  A x := [.str x.1, .str x.2.1, .int .i64 (.x x.2.2)]
  H _ := []
  pre x := PL.ClampPre x.1 x.2.1 x.2.2
  outs := [lawOut _]
/-- A list of whole numbers: none, or some. -/
def piecesNilSpec : Spec where
  X := List UInt8 × List UInt8
  A x := [.str x.1, .str x.2, .nslc]
  H _ := []
  pre x := PL.TwoStr x.1 x.2
  outs := [lawOut _]
def piecesSpec : Spec where
  X := List UInt8 × List UInt8 × List Int × Int
  A x := [.str x.1, .str x.2.1, .cs [.ints .i64 x.2.2.1] (.x (x.2.2.1.length : Int)) (.x x.2.2.2)]
  H _ := []
  pre x := PL.PiecesPre x.1 x.2.1 x.2.2.1 x.2.2.2
  outs := [lawOut _]

def clampsInv (k : List UInt8) : Code → List SV → List Blk → List Inv := fun b fr hp => [
  { ι := Nat × Int × List UInt8, fr := fun i => upd (havoc b fr) [(2, .int .i64 (.x i.2.1)), (9, .int .i64 (.x (i.1 : Int)))],
    hp := fun i => match hp with
      | [.mk t [.arr n _]] => [.mk t [.arr n [.ints .u8 (PL.ints i.2.2)]]]
      | _ => [],
    μ := fun i => 22 - i.1, ok := fun i => PL.Upto22 i.1 ∧ PL.I64 i.2.1 ∧ PL.ClampOK (PL.keyedF k) i.2.2 }]
def piecesInv (key text : List UInt8) (cuts : List Int) : Code → List SV → List Blk → List Inv := fun b fr hp => [
  { ι := Nat × Nat × MacS, fr := fun i => upd (havoc b fr) [(10, .int .i64 (.x (i.2.1 : Int))), (11, .int .i64 (.x (i.1 : Int)))],
    hp := fun i => match hp with
      | [.mk _ _] => [.mk 62 (macSegs i.2.2)]
      | _ => [],
    μ := fun i => cuts.length + 1 - i.1, ok := fun i => PL.PiecesOK key text cuts i.1 i.2.1 i.2.2 }]
def lawInvs (key text : List UInt8) (cuts : List Int) : Invs := fun f n => match f, n with
  | 10, 4 => some (clampsInv key)
  | 7, 7 => some (piecesInv key text cuts)
  | _, _ => none
end Go.Eng

/- Poly: walks. -/
set_option linter.unusedVariables false
set_option linter.unusedSectionVars false
namespace Go.Eng
variable [CW : CWorld]
open Go.Proofs
open Go.PL (L5 MacS)
set_option maxRecDepth 100000
theorem vc22 (ar : AR) (x : List UInt8 × List UInt8 × List UInt8) : (run ar PP uSpecs noInv 1000 22 0 (Try.f22.body.getD .skip) ([.str x.1, .str x.2.1, .str x.2.2] ++ List.replicate (Try.f22.ntmps - 3) .any) [] (endCall ar PP Try.f22.results.toList (taggedSpec.fin x))) = (
    ∃ (x_1 : List UInt8 × List UInt8), x.fst = x_1.fst ∧ x.snd.fst = x_1.snd ∧ PL.TagPre x_1.fst x_1.snd ∧ (∀ (y : Unit), PL.NotKey x_1.fst → ∃ (y : Unit), True ∧ (false = true ↔
    PL.IsKey x.fst ∧ PL.tagOf x.fst x.snd.fst = x.snd.snd) ∧ True) ∧ ∀ (y : Unit), PL.IsKey x_1.fst → ∃ (y : Unit), True ∧ (ar.seq (PL.tagOf x_1.fst x_1.snd) x.snd.snd ↔ PL.IsKey
    x.fst ∧ PL.tagOf x.fst x.snd.fst = x.snd.snd) ∧ True) := by
  kernel_rfl
end Go.Eng


/- Poly: walks. -/
set_option linter.unusedVariables false
set_option linter.unusedSectionVars false
namespace Go.Eng
variable [CW : CWorld]
open Go.Proofs
open Go.PL (L5 MacS)
set_option maxRecDepth 100000
theorem vc8 (ar : AR) (x : List UInt8 × List UInt8) : (run ar PP lSpecs noInv 1000 8 0 (Try.f8.body.getD .skip) ([.str x.1, .str x.2] ++ List.replicate (Try.f8.ntmps - 2) .any) [] (endCall ar PP Try.f8.results.toList (addsSpec.fin x))) = (
    ∃ (x_1 : List UInt8), x.fst = x_1 ∧ PL.StrOK x_1 ∧ ∀ (y : Unit), True → ar.le 16 (ar.slen (PL.keyedF x_1)) ∧ ∀ (t : List UInt8), t = ar.sext (PL.keyedF x_1) 0 16 → ∃ (x_2 :
    Nat), 16 = (↑x_2 : Int) ∧ PL.SmallN x_2 ∧ ∀ (y : Unit), True → ar.le (ar.add (ar.slen t) (ar.slen (List.replicate x_2 (UInt8.ofNat 0)))) 9223372036854775807 ∧ ∀ (t_1 : List
    UInt8), t_1 = ar.sapp t (List.replicate x_2 (UInt8.ofNat 0)) → ∃ (x_3 : List UInt8 × List UInt8), t_1 = x_3.fst ∧ x.snd = x_3.snd ∧ PL.TagPre x_3.fst x_3.snd ∧ (∀ (y : Unit),
    PL.NotKey x_3.fst → ∃ (y : Unit), True ∧ False) ∧ ∀ (y : Unit), PL.IsKey x_3.fst → (¬ar.eq (ar.slen (PL.tagOf x_3.fst x_3.snd)) 16 → ∃ (y : Unit), True ∧ False) ∧ (¬¬ar.eq
    (ar.slen (PL.tagOf x_3.fst x_3.snd)) 16 → ar.le 16 (ar.slen (PL.keyedF x_1)) ∧ ∀ (t : List UInt8), t = ar.sext (PL.keyedF x_1) 16 (ar.slen (PL.keyedF x_1)) → ∃ (x_4 : List
    UInt8 × List UInt8), PL.tagOf x_3.fst x_3.snd = x_4.fst ∧ t = x_4.snd ∧ PL.Two16 x_4.fst x_4.snd ∧ ∀ (y : Unit), True → ∃ (x_5 : List UInt8 × List UInt8 × List UInt8),
    PL.keyedF x_1 = x_5.fst ∧ x.snd = x_5.2.fst ∧ PL.plusF x_4.fst x_4.snd = x_5.2.snd ∧ PL.TagPre x_5.fst x_5.2.fst ∧ ∀ (y : Unit), True → ((PL.IsKey x_5.fst ∧ PL.tagOf x_5.fst
    x_5.2.fst = x_5.2.snd → ∃ (x_6 : Nat), 16 = (↑x_6 : Int) ∧ PL.SmallN x_6 ∧ ∀ (y : Unit), True → ar.le 16 (ar.slen (PL.keyedF x_1)) ∧ ∀ (t : List UInt8), t = ar.sext (PL.keyedF
    x_1) 16 (ar.slen (PL.keyedF x_1)) → ar.le (ar.add (ar.slen (List.replicate x_6 (UInt8.ofNat 0))) (ar.slen t)) 9223372036854775807 ∧ ∀ (t_2 : List UInt8), t_2 = ar.sapp
    (List.replicate x_6 (UInt8.ofNat 0)) t → ar.le 16 (ar.slen (PL.keyedF x_1)) ∧ ∀ (t : List UInt8), t = ar.sext (PL.keyedF x_1) 16 (ar.slen (PL.keyedF x_1)) → ∃ (x_7 : List UInt8
    × List UInt8 × List UInt8), t_2 = x_7.fst ∧ x.snd = x_7.2.fst ∧ t = x_7.2.snd ∧ PL.TagPre x_7.fst x_7.2.fst ∧ ∀ (y : Unit), True → ∃ (y : Unit), True ∧ (PL.IsKey x_7.fst ∧
    PL.tagOf x_7.fst x_7.2.fst = x_7.2.snd ↔ true = true) ∧ True) ∧ (¬(PL.IsKey x_5.fst ∧ PL.tagOf x_5.fst x_5.2.fst = x_5.2.snd) → ∃ (y : Unit), True ∧ False)) ∧ ((PL.IsKey
    x_5.fst ∧ PL.tagOf x_5.fst x_5.2.fst = x_5.2.snd → ar.le 16 (ar.slen (PL.keyedF x_1)) ∧ ∀ (t : List UInt8), t = ar.sext (PL.keyedF x_1) 16 (ar.slen (PL.keyedF x_1)) → ar.le 16
    (ar.slen (PL.keyedF x_1)) ∧ ∀ (t_2 : List UInt8), t_2 = ar.sext (PL.keyedF x_1) 16 (ar.slen (PL.keyedF x_1)) → ∃ (x_6 : Nat), 16 = (↑x_6 : Int) ∧ PL.SmallN x_6 ∧ ∀ (y : Unit),
    True → ar.le (ar.add (ar.slen (List.replicate x_6 (UInt8.ofNat 0))) (ar.slen t)) 9223372036854775807 ∧ ∀ (t_3 : List UInt8), t_3 = ar.sapp (List.replicate x_6 (UInt8.ofNat 0))
    t → ∃ (x_7 : List UInt8 × List UInt8 × List UInt8), t_3 = x_7.fst ∧ x.snd = x_7.2.fst ∧ t_2 = x_7.2.snd ∧ PL.TagPre x_7.fst x_7.2.fst ∧ ∀ (y : Unit), True → ∃ (y : Unit), True
    ∧ (PL.IsKey x_7.fst ∧ PL.tagOf x_7.fst x_7.2.fst = x_7.2.snd ↔ true = true) ∧ True) ∧ (¬(PL.IsKey x_5.fst ∧ PL.tagOf x_5.fst x_5.2.fst = x_5.2.snd) → ∃ (y : Unit), True ∧
    False)) ∧ ((PL.IsKey x_5.fst ∧ PL.tagOf x_5.fst x_5.2.fst = x_5.2.snd → ar.le 16 (ar.slen (PL.keyedF x_1)) ∧ ∀ (t : List UInt8), t = ar.sext (PL.keyedF x_1) 16 (ar.slen
    (PL.keyedF x_1)) → ar.le 16 (ar.slen (PL.keyedF x_1)) ∧ ∀ (t_2 : List UInt8), t_2 = ar.sext (PL.keyedF x_1) 16 (ar.slen (PL.keyedF x_1)) → ∃ (x_6 : Nat), 16 = (↑x_6 : Int) ∧
    PL.SmallN x_6 ∧ ∀ (y : Unit), True → ar.le (ar.add (ar.slen (List.replicate x_6 (UInt8.ofNat 0))) (ar.slen t)) 9223372036854775807 ∧ ∀ (t_3 : List UInt8), t_3 = ar.sapp
    (List.replicate x_6 (UInt8.ofNat 0)) t → ∃ (x_7 : List UInt8 × List UInt8 × List UInt8), t_3 = x_7.fst ∧ x.snd = x_7.2.fst ∧ t_2 = x_7.2.snd ∧ PL.TagPre x_7.fst x_7.2.fst ∧ ∀
    (y : Unit), True → ∃ (y : Unit), True ∧ (PL.IsKey x_7.fst ∧ PL.tagOf x_7.fst x_7.2.fst = x_7.2.snd ↔ true = true) ∧ True) ∧ (¬(PL.IsKey x_5.fst ∧ PL.tagOf x_5.fst x_5.2.fst =
    x_5.2.snd) → ∃ (y : Unit), True ∧ False)) ∧ (PL.IsKey x_5.fst ∧ PL.tagOf x_5.fst x_5.2.fst = x_5.2.snd → ar.le 16 (ar.slen (PL.keyedF x_1)) ∧ ∀ (t : List UInt8), t = ar.sext
    (PL.keyedF x_1) 16 (ar.slen (PL.keyedF x_1)) → ar.le 16 (ar.slen (PL.keyedF x_1)) ∧ ∀ (t_2 : List UInt8), t_2 = ar.sext (PL.keyedF x_1) 16 (ar.slen (PL.keyedF x_1)) → ∃ (x_6 :
    Nat), 16 = (↑x_6 : Int) ∧ PL.SmallN x_6 ∧ ∀ (y : Unit), True → ar.le (ar.add (ar.slen (List.replicate x_6 (UInt8.ofNat 0))) (ar.slen t)) 9223372036854775807 ∧ ∀ (t_3 : List
    UInt8), t_3 = ar.sapp (List.replicate x_6 (UInt8.ofNat 0)) t → ∃ (x_7 : List UInt8 × List UInt8 × List UInt8), t_3 = x_7.fst ∧ x.snd = x_7.2.fst ∧ t_2 = x_7.2.snd ∧ PL.TagPre
    x_7.fst x_7.2.fst ∧ ∀ (y : Unit), True → ∃ (y : Unit), True ∧ (PL.IsKey x_7.fst ∧ PL.tagOf x_7.fst x_7.2.fst = x_7.2.snd ↔ true = true) ∧ True) ∧ (¬(PL.IsKey x_5.fst ∧ PL.tagOf
    x_5.fst x_5.2.fst = x_5.2.snd) → ∃ (y : Unit), True ∧ False))) := by
  kernel_rfl
end Go.Eng


/- Poly: walks. -/
set_option linter.unusedVariables false
set_option linter.unusedSectionVars false
namespace Go.Eng
variable [CW : CWorld]
open Go.Proofs
open Go.PL (L5 MacS)
set_option maxRecDepth 100000
theorem vc9 (ar : AR) (x : List UInt8 × List UInt8) : (run ar PP lSpecs noInv 1000 9 0 (Try.f9.body.getD .skip) ([.str x.1, .str x.2] ++ List.replicate (Try.f9.ntmps - 2) .any) [] (endCall ar PP Try.f9.results.toList (addsSpec.fin x))) = (
    ∃ (x_1 : List UInt8), x.fst = x_1 ∧ PL.StrOK x_1 ∧ ∀ (y : Unit), True → ar.le 16 (ar.slen (PL.keyedF x_1)) ∧ ∀ (t : List UInt8), t = ar.sext (PL.keyedF x_1) 16 (ar.slen
    (PL.keyedF x_1)) → (ar.lt 16 (ar.slen x.snd) → ar.le 16 (ar.slen x.snd) ∧ ∀ (t_1 : List UInt8), t_1 = ar.sext x.snd 0 16 → ∃ (x : Nat), 16 = (↑x : Int) ∧ PL.SmallN x ∧ ∀ (y :
    Unit), True → (¬ar.seq t_1 [] → ar.le (ar.add (ar.slen t_1) (ar.slen [UInt8.ofNat 1])) 9223372036854775807 ∧ ∀ (t_2 : List UInt8), t_2 = ar.sapp t_1 [UInt8.ofNat 1] → ∃ (x :
    Nat), 16 = (↑x : Int) ∧ PL.SmallN x ∧ ∀ (y : Unit), True → ar.le (ar.add (ar.slen t_2) (ar.slen (List.replicate x (UInt8.ofNat 0)))) 9223372036854775807 ∧ ∀ (t_3 : List UInt8),
    t_3 = ar.sapp t_2 (List.replicate x (UInt8.ofNat 0)) → ar.le 16 (ar.slen t_3) ∧ ∀ (t_4 : List UInt8), t_4 = ar.sext t_3 0 16 → ∃ (x : Nat), 15 = (↑x : Int) ∧ PL.SmallN x ∧ ∀ (y
    : Unit), True → ar.le (ar.add (ar.slen [UInt8.ofNat 1]) (ar.slen (List.replicate x (UInt8.ofNat 0)))) 9223372036854775807 ∧ ∀ (t_5 : List UInt8), t_5 = ar.sapp [UInt8.ofNat 1]
    (List.replicate x (UInt8.ofNat 0)) → ar.le (ar.add (ar.slen t_5) (ar.slen t)) 9223372036854775807 ∧ ∀ (t_6 : List UInt8), t_6 = ar.sapp t_5 t → ∃ (x : List UInt8 × List UInt8),
    t_4 = x.fst ∧ t = x.snd ∧ PL.Two16 x.fst x.snd ∧ ∀ (y : Unit), True → ∃ (x_2 : List UInt8 × List UInt8 × List UInt8), t_6 = x_2.fst ∧ t_1 = x_2.2.fst ∧ PL.plusF x.fst x.snd =
    x_2.2.snd ∧ PL.TagPre x_2.fst x_2.2.fst ∧ ∀ (y : Unit), True → ∃ (y : Unit), True ∧ (PL.IsKey x_2.fst ∧ PL.tagOf x_2.fst x_2.2.fst = x_2.2.snd ↔ true = true) ∧ True) ∧
    (¬¬ar.seq t_1 [] → ∃ (x_2 : Nat), 15 = (↑x_2 : Int) ∧ PL.SmallN x_2 ∧ ∀ (y : Unit), True → ar.le (ar.add (ar.slen [UInt8.ofNat 1]) (ar.slen (List.replicate x_2 (UInt8.ofNat
    0)))) 9223372036854775807 ∧ ∀ (t_2 : List UInt8), t_2 = ar.sapp [UInt8.ofNat 1] (List.replicate x_2 (UInt8.ofNat 0)) → ar.le (ar.add (ar.slen t_2) (ar.slen t))
    9223372036854775807 ∧ ∀ (t_3 : List UInt8), t_3 = ar.sapp t_2 t → ∃ (x_3 : List UInt8 × List UInt8), List.replicate x (UInt8.ofNat 0) = x_3.fst ∧ t = x_3.snd ∧ PL.Two16 x_3.fst
    x_3.snd ∧ ∀ (y : Unit), True → ∃ (x : List UInt8 × List UInt8 × List UInt8), t_3 = x.fst ∧ t_1 = x.2.fst ∧ PL.plusF x_3.fst x_3.snd = x.2.snd ∧ PL.TagPre x.fst x.2.fst ∧ ∀ (y :
    Unit), True → ∃ (y : Unit), True ∧ (PL.IsKey x.fst ∧ PL.tagOf x.fst x.2.fst = x.2.snd ↔ true = true) ∧ True)) ∧ (¬ar.lt 16 (ar.slen x.snd) → ∃ (x_2 : Nat), 16 = (↑x_2 : Int) ∧
    PL.SmallN x_2 ∧ ∀ (y : Unit), True → (¬ar.seq x.snd [] → ar.le (ar.add (ar.slen x.snd) (ar.slen [UInt8.ofNat 1])) 9223372036854775807 ∧ ∀ (t_1 : List UInt8), t_1 = ar.sapp
    x.snd [UInt8.ofNat 1] → ∃ (x_3 : Nat), 16 = (↑x_3 : Int) ∧ PL.SmallN x_3 ∧ ∀ (y : Unit), True → ar.le (ar.add (ar.slen t_1) (ar.slen (List.replicate x_3 (UInt8.ofNat 0))))
    9223372036854775807 ∧ ∀ (t_2 : List UInt8), t_2 = ar.sapp t_1 (List.replicate x_3 (UInt8.ofNat 0)) → ar.le 16 (ar.slen t_2) ∧ ∀ (t_3 : List UInt8), t_3 = ar.sext t_2 0 16 → ∃
    (x_4 : Nat), 15 = (↑x_4 : Int) ∧ PL.SmallN x_4 ∧ ∀ (y : Unit), True → ar.le (ar.add (ar.slen [UInt8.ofNat 1]) (ar.slen (List.replicate x_4 (UInt8.ofNat 0))))
    9223372036854775807 ∧ ∀ (t_4 : List UInt8), t_4 = ar.sapp [UInt8.ofNat 1] (List.replicate x_4 (UInt8.ofNat 0)) → ar.le (ar.add (ar.slen t_4) (ar.slen t)) 9223372036854775807 ∧
    ∀ (t_5 : List UInt8), t_5 = ar.sapp t_4 t → ∃ (x_5 : List UInt8 × List UInt8), t_3 = x_5.fst ∧ t = x_5.snd ∧ PL.Two16 x_5.fst x_5.snd ∧ ∀ (y : Unit), True → ∃ (x_6 : List UInt8
    × List UInt8 × List UInt8), t_5 = x_6.fst ∧ x.snd = x_6.2.fst ∧ PL.plusF x_5.fst x_5.snd = x_6.2.snd ∧ PL.TagPre x_6.fst x_6.2.fst ∧ ∀ (y : Unit), True → ∃ (y : Unit), True ∧
    (PL.IsKey x_6.fst ∧ PL.tagOf x_6.fst x_6.2.fst = x_6.2.snd ↔ true = true) ∧ True) ∧ (¬¬ar.seq x.snd [] → ∃ (x_3 : Nat), 15 = (↑x_3 : Int) ∧ PL.SmallN x_3 ∧ ∀ (y : Unit), True →
    ar.le (ar.add (ar.slen [UInt8.ofNat 1]) (ar.slen (List.replicate x_3 (UInt8.ofNat 0)))) 9223372036854775807 ∧ ∀ (t_1 : List UInt8), t_1 = ar.sapp [UInt8.ofNat 1]
    (List.replicate x_3 (UInt8.ofNat 0)) → ar.le (ar.add (ar.slen t_1) (ar.slen t)) 9223372036854775807 ∧ ∀ (t_2 : List UInt8), t_2 = ar.sapp t_1 t → ∃ (x_4 : List UInt8 × List
    UInt8), List.replicate x_2 (UInt8.ofNat 0) = x_4.fst ∧ t = x_4.snd ∧ PL.Two16 x_4.fst x_4.snd ∧ ∀ (y : Unit), True → ∃ (x_5 : List UInt8 × List UInt8 × List UInt8), t_2 =
    x_5.fst ∧ x.snd = x_5.2.fst ∧ PL.plusF x_4.fst x_4.snd = x_5.2.snd ∧ PL.TagPre x_5.fst x_5.2.fst ∧ ∀ (y : Unit), True → ∃ (y : Unit), True ∧ (PL.IsKey x_5.fst ∧ PL.tagOf
    x_5.fst x_5.2.fst = x_5.2.snd ↔ true = true) ∧ True))) := by
  kernel_rfl
end Go.Eng


/- Poly: walks. -/
set_option linter.unusedVariables false
set_option linter.unusedSectionVars false
namespace Go.Eng
variable [CW : CWorld]
open Go.Proofs
open Go.PL (L5 MacS)
set_option maxRecDepth 100000
theorem vc10 (ar : AR) (x : List UInt8 × List UInt8 × Int) : (run ar PP lSpecs (lawInvs x.1 x.2.1 []) 1000 10 0 (Try.f10.body.getD .skip) ([.str x.1, .str x.2.1, .int .i64 (.x x.2.2)] ++ List.replicate (Try.f10.ntmps - 3) .any) [] (endCall ar PP Try.f10.results.toList (clampsSpec.fin x))) = (
    ∃ (x_1 : List UInt8), x.fst = x_1 ∧ PL.StrOK x_1 ∧ ∀ (y : Unit), True → ∀ (c : Int), (ar.slen (PL.keyedF x_1)).le c → (∃ (i : Nat × Int × List UInt8), (PL.Upto22 i.fst ∧ PL.I64
    i.2.fst ∧ PL.ClampOK (PL.keyedF x.fst) i.2.snd) ∧ x.fst = x.fst ∧ x.snd.fst = x.snd.fst ∧ x.snd.snd = i.2.fst ∧ PL.keyedF x_1 = PL.keyedF x_1 ∧ ar.slen (PL.keyedF x_1) =
    ar.slen (PL.keyedF x_1) ∧ c = c ∧ 0 = (↑i.fst : Int) ∧ x.fst = x.fst ∧ PL.keyedF x_1 = PL.keyedF x_1 ∧ PL.keyedF x_1 = PL.keyedF x_1 ∧ ar.slen (PL.keyedF x_1) = ar.slen
    (PL.keyedF x_1) ∧ c = c ∧ c = c ∧ ar.ints (PL.keyedF x_1) = PL.ints i.2.snd ∧ True) ∧ ∀ (i : Nat × Int × List UInt8), PL.Upto22 i.fst ∧ PL.I64 i.2.fst ∧ PL.ClampOK (PL.keyedF
    x.fst) i.2.snd → (ar.lt (↑i.fst : Int) 22 → ∀ (z : Int), z = ar.rem i.2.fst 2 → (¬ar.eq z 0 → (ar.lt (↑i.fst : Int) 16 → ∀ (z : Int), z = ar.wrap IntKind.i64 (ar.quo (↑i.fst :
    Int) 4) → ∀ (z_1 : Int), z_1 = ar.wrap IntKind.i64 (ar.mul 4 z) → ∀ (z : Int), z = ar.wrap IntKind.i64 (ar.add 3 z_1) → ∀ (z_2 : Int), z_2 = ar.wrap IntKind.i64 (ar.quo (↑i.fst
    : Int) 4) → ∀ (z_3 : Int), z_3 = ar.wrap IntKind.i64 (ar.mul 4 z_2) → ∀ (z_4 : Int), z_4 = ar.wrap IntKind.i64 (ar.add 3 z_3) → ar.le 0 z_4 ∧ ar.lt z_4 (ar.slen (PL.keyedF
    x_1)) ∧ ar.le 0 z_4 ∧ ar.lt z_4 (ar.ilen (PL.ints i.2.snd)) ∧ ∀ (z_5 : Int), z_5 = ar.rem (↑i.fst : Int) 4 → ar.le 0 z_5 ∧ ∀ (z_6 : Int), z_6 = ar.shl IntKind.u8 16 z_5 → ∀
    (z_7 : Int), z_7 = ar.bxor IntKind.u8 (ar.iget (PL.ints i.2.snd) z_4) z_6 → ar.le 0 z ∧ ar.lt z (ar.slen (PL.keyedF x_1)) ∧ ar.le 0 z ∧ ar.lt z (ar.ilen (PL.ints i.2.snd)) ∧ ∀
    (z_8 : Int), z_8 = ar.wrap IntKind.i64 (ar.quo i.2.fst 2) → ∀ (z_9 : Int), z_9 = ar.wrap IntKind.i64 (ar.add (↑i.fst : Int) 1) → ∃ (j : Nat × Int × List UInt8), (PL.Upto22
    j.fst ∧ PL.I64 j.2.fst ∧ PL.ClampOK (PL.keyedF x.fst) j.2.snd) ∧ (Nat.sub 22 j.fst).lt (Nat.sub 22 i.fst) ∧ x.fst = x.fst ∧ x.snd.fst = x.snd.fst ∧ z_8 = j.2.fst ∧ PL.keyedF
    x_1 = PL.keyedF x_1 ∧ ar.slen (PL.keyedF x_1) = ar.slen (PL.keyedF x_1) ∧ c = c ∧ z_9 = (↑j.fst : Int) ∧ x.fst = x.fst ∧ PL.keyedF x_1 = PL.keyedF x_1 ∧ PL.keyedF x_1 =
    PL.keyedF x_1 ∧ ar.slen (PL.keyedF x_1) = ar.slen (PL.keyedF x_1) ∧ c = c ∧ c = c ∧ ar.iset (PL.ints i.2.snd) z z_7 = PL.ints j.2.snd ∧ True) ∧ (¬ar.lt (↑i.fst : Int) 16 → ∀ (z
    : Int), z = ar.wrap IntKind.i64 (ar.sub (↑i.fst : Int) 16) → ∀ (z_1 : Int), z_1 = ar.wrap IntKind.i64 (ar.quo z 2) → ∀ (z : Int), z = ar.wrap IntKind.i64 (ar.mul 4 z_1) → ∀
    (z_2 : Int), z_2 = ar.wrap IntKind.i64 (ar.add 4 z) → ∀ (z : Int), z = ar.wrap IntKind.i64 (ar.sub (↑i.fst : Int) 16) → ∀ (z_3 : Int), z_3 = ar.wrap IntKind.i64 (ar.quo z 2) →
    ∀ (z : Int), z = ar.wrap IntKind.i64 (ar.mul 4 z_3) → ∀ (z_4 : Int), z_4 = ar.wrap IntKind.i64 (ar.add 4 z) → ar.le 0 z_4 ∧ ar.lt z_4 (ar.slen (PL.keyedF x_1)) ∧ ar.le 0 z_4 ∧
    ar.lt z_4 (ar.ilen (PL.ints i.2.snd)) ∧ ∀ (z : Int), z = ar.wrap IntKind.i64 (ar.sub (↑i.fst : Int) 16) → ∀ (z_5 : Int), z_5 = ar.rem z 2 → ar.le 0 z_5 ∧ ∀ (z : Int), z =
    ar.shl IntKind.u8 1 z_5 → ∀ (z_6 : Int), z_6 = ar.bxor IntKind.u8 (ar.iget (PL.ints i.2.snd) z_4) z → ar.le 0 z_2 ∧ ar.lt z_2 (ar.slen (PL.keyedF x_1)) ∧ ar.le 0 z_2 ∧ ar.lt
    z_2 (ar.ilen (PL.ints i.2.snd)) ∧ ∀ (z : Int), z = ar.wrap IntKind.i64 (ar.quo i.2.fst 2) → ∀ (z_7 : Int), z_7 = ar.wrap IntKind.i64 (ar.add (↑i.fst : Int) 1) → ∃ (j : Nat ×
    Int × List UInt8), (PL.Upto22 j.fst ∧ PL.I64 j.2.fst ∧ PL.ClampOK (PL.keyedF x.fst) j.2.snd) ∧ (Nat.sub 22 j.fst).lt (Nat.sub 22 i.fst) ∧ x.fst = x.fst ∧ x.snd.fst = x.snd.fst
    ∧ z = j.2.fst ∧ PL.keyedF x_1 = PL.keyedF x_1 ∧ ar.slen (PL.keyedF x_1) = ar.slen (PL.keyedF x_1) ∧ c = c ∧ z_7 = (↑j.fst : Int) ∧ x.fst = x.fst ∧ PL.keyedF x_1 = PL.keyedF x_1
    ∧ PL.keyedF x_1 = PL.keyedF x_1 ∧ ar.slen (PL.keyedF x_1) = ar.slen (PL.keyedF x_1) ∧ c = c ∧ c = c ∧ ar.iset (PL.ints i.2.snd) z_2 z_6 = PL.ints j.2.snd ∧ True)) ∧ (¬¬ar.eq z
    0 → ∀ (z : Int), z = ar.wrap IntKind.i64 (ar.quo i.2.fst 2) → ∀ (z_1 : Int), z_1 = ar.wrap IntKind.i64 (ar.add (↑i.fst : Int) 1) → ∃ (j : Nat × Int × List UInt8), (PL.Upto22
    j.fst ∧ PL.I64 j.2.fst ∧ PL.ClampOK (PL.keyedF x.fst) j.2.snd) ∧ (Nat.sub 22 j.fst).lt (Nat.sub 22 i.fst) ∧ x.fst = x.fst ∧ x.snd.fst = x.snd.fst ∧ z = j.2.fst ∧ PL.keyedF x_1
    = PL.keyedF x_1 ∧ ar.slen (PL.keyedF x_1) = ar.slen (PL.keyedF x_1) ∧ c = c ∧ z_1 = (↑j.fst : Int) ∧ x.fst = x.fst ∧ PL.keyedF x_1 = PL.keyedF x_1 ∧ PL.keyedF x_1 = PL.keyedF
    x_1 ∧ ar.slen (PL.keyedF x_1) = ar.slen (PL.keyedF x_1) ∧ c = c ∧ c = c ∧ PL.ints i.2.snd = PL.ints j.2.snd ∧ True)) ∧ (¬ar.lt (↑i.fst : Int) 22 → ∃ (x_2 : List UInt8 × List
    UInt8), PL.keyedF x_1 = x_2.fst ∧ x.snd.fst = x_2.snd ∧ PL.TagPre x_2.fst x_2.snd ∧ (∀ (y : Unit), PL.NotKey x_2.fst → ∃ (y : Unit), True ∧ False) ∧ ∀ (y : Unit), PL.IsKey
    x_2.fst → (ar.eq (ar.slen (PL.tagOf x_2.fst x_2.snd)) 16 → ar.le 0 0 ∧ ar.le (ar.add 0 (ar.slen (PL.keyedF x_1))) (ar.ilen (PL.ints i.2.snd)) ∧ ∀ (t : List UInt8), t = ar.bytes
    (ar.isub (PL.ints i.2.snd) 0 (ar.slen (PL.keyedF x_1))) → ∃ (x_3 : List UInt8 × List UInt8 × List UInt8), t = x_3.fst ∧ x.snd.fst = x_3.2.fst ∧ PL.tagOf x_2.fst x_2.snd =
    x_3.2.snd ∧ PL.TagPre x_3.fst x_3.2.fst ∧ ∀ (y : Unit), True → ∃ (y : Unit), True ∧ (PL.IsKey x_3.fst ∧ PL.tagOf x_3.fst x_3.2.fst = x_3.2.snd ↔ true = true) ∧ True) ∧ (¬ar.eq
    (ar.slen (PL.tagOf x_2.fst x_2.snd)) 16 → ∃ (y : Unit), True ∧ False))) := by
  kernel_rfl
end Go.Eng


/- Poly: walks. -/
set_option linter.unusedVariables false
set_option linter.unusedSectionVars false
namespace Go.Eng
variable [CW : CWorld]
open Go.Proofs
open Go.PL (L5 MacS)
set_option maxRecDepth 100000
theorem vc6 (ar : AR) (x : Unit) : (run ar PP lSpecs noInv 1000 6 0 (Try.f6.body.getD .skip) ([] ++ List.replicate (Try.f6.ntmps - 0) .any) [] (endCall ar PP Try.f6.results.toList (knownSpec.fin x))) = (
    ∃ (x : List UInt8), [UInt8.ofNat 102, UInt8.ofNat 102, UInt8.ofNat 102, UInt8.ofNat 102, UInt8.ofNat 102, UInt8.ofNat 102, UInt8.ofNat 102, UInt8.ofNat 102, UInt8.ofNat 102,
    UInt8.ofNat 102, UInt8.ofNat 102, UInt8.ofNat 102, UInt8.ofNat 102, UInt8.ofNat 102, UInt8.ofNat 102, UInt8.ofNat 102, UInt8.ofNat 102, UInt8.ofNat 102, UInt8.ofNat 102,
    UInt8.ofNat 102, UInt8.ofNat 102, UInt8.ofNat 102, UInt8.ofNat 102, UInt8.ofNat 102, UInt8.ofNat 102, UInt8.ofNat 102, UInt8.ofNat 102, UInt8.ofNat 102, UInt8.ofNat 102,
    UInt8.ofNat 102, UInt8.ofNat 102, UInt8.ofNat 102] = x ∧ PL.StrOK x ∧ ∀ (y : Unit), True → ∃ (x_1 : Nat), 15 = (↑x_1 : Int) ∧ PL.SmallN x_1 ∧ ∀ (y : Unit), True → ar.le (ar.add
    (ar.slen [UInt8.ofNat 3]) (ar.slen (List.replicate x_1 (UInt8.ofNat 0)))) 9223372036854775807 ∧ ∀ (t : List UInt8), t = ar.sapp [UInt8.ofNat 3] (List.replicate x_1 (UInt8.ofNat
    0)) → ∃ (x_2 : List UInt8), [UInt8.ofNat 56, UInt8.ofNat 53, UInt8.ofNat 100, UInt8.ofNat 54, UInt8.ofNat 98, UInt8.ofNat 101, UInt8.ofNat 55, UInt8.ofNat 56, UInt8.ofNat 53,
    UInt8.ofNat 55, UInt8.ofNat 53, UInt8.ofNat 53, UInt8.ofNat 54, UInt8.ofNat 100, UInt8.ofNat 51, UInt8.ofNat 51, UInt8.ofNat 55, UInt8.ofNat 102, UInt8.ofNat 52, UInt8.ofNat
    52, UInt8.ofNat 53, UInt8.ofNat 50, UInt8.ofNat 102, UInt8.ofNat 101, UInt8.ofNat 52, UInt8.ofNat 50, UInt8.ofNat 100, UInt8.ofNat 53, UInt8.ofNat 48, UInt8.ofNat 54,
    UInt8.ofNat 97, UInt8.ofNat 56, UInt8.ofNat 48, UInt8.ofNat 49, UInt8.ofNat 48, UInt8.ofNat 51, UInt8.ofNat 56, UInt8.ofNat 48, UInt8.ofNat 56, UInt8.ofNat 97, UInt8.ofNat 102,
    UInt8.ofNat 98, UInt8.ofNat 48, UInt8.ofNat 100, UInt8.ofNat 98, UInt8.ofNat 50, UInt8.ofNat 102, UInt8.ofNat 100, UInt8.ofNat 52, UInt8.ofNat 97, UInt8.ofNat 98, UInt8.ofNat
    102, UInt8.ofNat 102, UInt8.ofNat 54, UInt8.ofNat 97, UInt8.ofNat 102, UInt8.ofNat 52, UInt8.ofNat 49, UInt8.ofNat 52, UInt8.ofNat 57, UInt8.ofNat 102, UInt8.ofNat 53,
    UInt8.ofNat 49, UInt8.ofNat 98] = x_2 ∧ PL.StrOK x_2 ∧ ∀ (y : Unit), True → ∃ (x_3 : List UInt8), [UInt8.ofNat 97, UInt8.ofNat 56, UInt8.ofNat 48, UInt8.ofNat 54, UInt8.ofNat
    49, UInt8.ofNat 100, UInt8.ofNat 99, UInt8.ofNat 49, UInt8.ofNat 51, UInt8.ofNat 48, UInt8.ofNat 53, UInt8.ofNat 49, UInt8.ofNat 51, UInt8.ofNat 54, UInt8.ofNat 99, UInt8.ofNat
    54, UInt8.ofNat 99, UInt8.ofNat 50, UInt8.ofNat 50, UInt8.ofNat 98, UInt8.ofNat 56, UInt8.ofNat 98, UInt8.ofNat 97, UInt8.ofNat 102, UInt8.ofNat 48, UInt8.ofNat 99, UInt8.ofNat
    48, UInt8.ofNat 49, UInt8.ofNat 50, UInt8.ofNat 55, UInt8.ofNat 97, UInt8.ofNat 57] = x_3 ∧ PL.StrOK x_3 ∧ ∀ (y : Unit), True → ∃ (x_4 : List UInt8 × List UInt8 × List UInt8),
    PL.hexF x_2 = x_4.fst ∧ [UInt8.ofNat 67, UInt8.ofNat 114, UInt8.ofNat 121, UInt8.ofNat 112, UInt8.ofNat 116, UInt8.ofNat 111, UInt8.ofNat 103, UInt8.ofNat 114, UInt8.ofNat 97,
    UInt8.ofNat 112, UInt8.ofNat 104, UInt8.ofNat 105, UInt8.ofNat 99, UInt8.ofNat 32, UInt8.ofNat 70, UInt8.ofNat 111, UInt8.ofNat 114, UInt8.ofNat 117, UInt8.ofNat 109,
    UInt8.ofNat 32, UInt8.ofNat 82, UInt8.ofNat 101, UInt8.ofNat 115, UInt8.ofNat 101, UInt8.ofNat 97, UInt8.ofNat 114, UInt8.ofNat 99, UInt8.ofNat 104, UInt8.ofNat 32, UInt8.ofNat
    71, UInt8.ofNat 114, UInt8.ofNat 111, UInt8.ofNat 117, UInt8.ofNat 112] = x_4.2.fst ∧ PL.hexF x_3 = x_4.2.snd ∧ PL.TagPre x_4.fst x_4.2.fst ∧ ∀ (y : Unit), True → ∃ (x_5 :
    Nat), 31 = (↑x_5 : Int) ∧ PL.SmallN x_5 ∧ ∀ (y : Unit), True → ar.le (ar.add (ar.slen [UInt8.ofNat 2]) (ar.slen (List.replicate x_5 (UInt8.ofNat 0)))) 9223372036854775807 ∧ ∀
    (t_1 : List UInt8), t_1 = ar.sapp [UInt8.ofNat 2] (List.replicate x_5 (UInt8.ofNat 0)) → ∃ (x_6 : List UInt8 × List UInt8 × List UInt8), t_1 = x_6.fst ∧ PL.hexF x = x_6.2.fst ∧
    t = x_6.2.snd ∧ PL.TagPre x_6.fst x_6.2.fst ∧ ∀ (y : Unit), True → ∃ (x_7 : Nat), 15 = (↑x_7 : Int) ∧ PL.SmallN x_7 ∧ ∀ (y : Unit), True → ar.le (ar.add (ar.slen [UInt8.ofNat
    2]) (ar.slen (List.replicate x_7 (UInt8.ofNat 0)))) 9223372036854775807 ∧ ∀ (t_2 : List UInt8), t_2 = ar.sapp [UInt8.ofNat 2] (List.replicate x_7 (UInt8.ofNat 0)) → ar.le
    (ar.add (ar.slen t_2) (ar.slen (PL.hexF x))) 9223372036854775807 ∧ ∀ (t_3 : List UInt8), t_3 = ar.sapp t_2 (PL.hexF x) → ∃ (x_8 : Nat), 15 = (↑x_8 : Int) ∧ PL.SmallN x_8 ∧ ∀ (y
    : Unit), True → ar.le (ar.add (ar.slen [UInt8.ofNat 2]) (ar.slen (List.replicate x_8 (UInt8.ofNat 0)))) 9223372036854775807 ∧ ∀ (t_4 : List UInt8), t_4 = ar.sapp [UInt8.ofNat
    2] (List.replicate x_8 (UInt8.ofNat 0)) → ∃ (x_9 : List UInt8 × List UInt8 × List UInt8), t_3 = x_9.fst ∧ t_4 = x_9.2.fst ∧ t = x_9.2.snd ∧ PL.TagPre x_9.fst x_9.2.fst ∧ ∀ (y :
    Unit), True → ∃ (x_10 : Nat), 31 = (↑x_10 : Int) ∧ PL.SmallN x_10 ∧ ∀ (y : Unit), True → ar.le (ar.add (ar.slen [UInt8.ofNat 1]) (ar.slen (List.replicate x_10 (UInt8.ofNat
    0)))) 9223372036854775807 ∧ ∀ (t : List UInt8), t = ar.sapp [UInt8.ofNat 1] (List.replicate x_10 (UInt8.ofNat 0)) → ∃ (x_11 : List UInt8), [UInt8.ofNat 102, UInt8.ofNat 48,
    UInt8.ofNat 102, UInt8.ofNat 102, UInt8.ofNat 102, UInt8.ofNat 102, UInt8.ofNat 102, UInt8.ofNat 102, UInt8.ofNat 102, UInt8.ofNat 102, UInt8.ofNat 102, UInt8.ofNat 102,
    UInt8.ofNat 102, UInt8.ofNat 102, UInt8.ofNat 102, UInt8.ofNat 102, UInt8.ofNat 102, UInt8.ofNat 102, UInt8.ofNat 102, UInt8.ofNat 102, UInt8.ofNat 102, UInt8.ofNat 102,
    UInt8.ofNat 102, UInt8.ofNat 102, UInt8.ofNat 102, UInt8.ofNat 102, UInt8.ofNat 102, UInt8.ofNat 102, UInt8.ofNat 102, UInt8.ofNat 102, UInt8.ofNat 102, UInt8.ofNat 102] = x_11
    ∧ PL.StrOK x_11 ∧ ∀ (y : Unit), True → ar.le (ar.add (ar.slen (PL.hexF x)) (ar.slen (PL.hexF x_11))) 9223372036854775807 ∧ ∀ (t_5 : List UInt8), t_5 = ar.sapp (PL.hexF x)
    (PL.hexF x_11) → ar.le (ar.add (ar.slen t_5) (ar.slen [UInt8.ofNat 17])) 9223372036854775807 ∧ ∀ (t_6 : List UInt8), t_6 = ar.sapp t_5 [UInt8.ofNat 17] → ∃ (x_12 : Nat), 15 =
    (↑x_12 : Int) ∧ PL.SmallN x_12 ∧ ∀ (y : Unit), True → ar.le (ar.add (ar.slen t_6) (ar.slen (List.replicate x_12 (UInt8.ofNat 0)))) 9223372036854775807 ∧ ∀ (t_7 : List UInt8),
    t_7 = ar.sapp t_6 (List.replicate x_12 (UInt8.ofNat 0)) → ∃ (x_13 : Nat), 15 = (↑x_13 : Int) ∧ PL.SmallN x_13 ∧ ∀ (y : Unit), True → ar.le (ar.add (ar.slen [UInt8.ofNat 5])
    (ar.slen (List.replicate x_13 (UInt8.ofNat 0)))) 9223372036854775807 ∧ ∀ (t_8 : List UInt8), t_8 = ar.sapp [UInt8.ofNat 5] (List.replicate x_13 (UInt8.ofNat 0)) → ∃ (x_14 :
    List UInt8 × List UInt8 × List UInt8), t = x_14.fst ∧ t_7 = x_14.2.fst ∧ t_8 = x_14.2.snd ∧ PL.TagPre x_14.fst x_14.2.fst ∧ ∀ (y : Unit), True → ∃ (x_15 : Nat), 31 = (↑x_15 :
    Int) ∧ PL.SmallN x_15 ∧ ∀ (y : Unit), True → ar.le (ar.add (ar.slen [UInt8.ofNat 1]) (ar.slen (List.replicate x_15 (UInt8.ofNat 0)))) 9223372036854775807 ∧ ∀ (t : List UInt8),
    t = ar.sapp [UInt8.ofNat 1] (List.replicate x_15 (UInt8.ofNat 0)) → ∃ (x_16 : List UInt8), [UInt8.ofNat 102, UInt8.ofNat 98, UInt8.ofNat 102, UInt8.ofNat 101, UInt8.ofNat 102,
    UInt8.ofNat 101, UInt8.ofNat 102, UInt8.ofNat 101, UInt8.ofNat 102, UInt8.ofNat 101, UInt8.ofNat 102, UInt8.ofNat 101, UInt8.ofNat 102, UInt8.ofNat 101, UInt8.ofNat 102,
    UInt8.ofNat 101, UInt8.ofNat 102, UInt8.ofNat 101, UInt8.ofNat 102, UInt8.ofNat 101, UInt8.ofNat 102, UInt8.ofNat 101, UInt8.ofNat 102, UInt8.ofNat 101, UInt8.ofNat 102,
    UInt8.ofNat 101, UInt8.ofNat 102, UInt8.ofNat 101, UInt8.ofNat 102, UInt8.ofNat 101, UInt8.ofNat 102, UInt8.ofNat 101] = x_16 ∧ PL.StrOK x_16 ∧ ∀ (y : Unit), True → ar.le
    (ar.add (ar.slen (PL.hexF x)) (ar.slen (PL.hexF x_16))) 9223372036854775807 ∧ ∀ (t_9 : List UInt8), t_9 = ar.sapp (PL.hexF x) (PL.hexF x_16) → ∃ (x : List UInt8), [UInt8.ofNat
    48, UInt8.ofNat 49, UInt8.ofNat 48, UInt8.ofNat 49, UInt8.ofNat 48, UInt8.ofNat 49, UInt8.ofNat 48, UInt8.ofNat 49, UInt8.ofNat 48, UInt8.ofNat 49, UInt8.ofNat 48, UInt8.ofNat
    49, UInt8.ofNat 48, UInt8.ofNat 49, UInt8.ofNat 48, UInt8.ofNat 49, UInt8.ofNat 48, UInt8.ofNat 49, UInt8.ofNat 48, UInt8.ofNat 49, UInt8.ofNat 48, UInt8.ofNat 49, UInt8.ofNat
    48, UInt8.ofNat 49, UInt8.ofNat 48, UInt8.ofNat 49, UInt8.ofNat 48, UInt8.ofNat 49, UInt8.ofNat 48, UInt8.ofNat 49, UInt8.ofNat 48, UInt8.ofNat 49] = x ∧ PL.StrOK x ∧ ∀ (y :
    Unit), True → ar.le (ar.add (ar.slen t_9) (ar.slen (PL.hexF x))) 9223372036854775807 ∧ ∀ (t_10 : List UInt8), t_10 = ar.sapp t_9 (PL.hexF x) → ∃ (x : Nat), 16 = (↑x : Int) ∧
    PL.SmallN x ∧ ∀ (y : Unit), True → ∃ (x_17 : List UInt8 × List UInt8 × List UInt8), t = x_17.fst ∧ t_10 = x_17.2.fst ∧ List.replicate x (UInt8.ofNat 0) = x_17.2.snd ∧ PL.TagPre
    x_17.fst x_17.2.fst ∧ ∀ (y : Unit), True → ∃ (x : Nat), 31 = (↑x : Int) ∧ PL.SmallN x ∧ ∀ (y : Unit), True → ar.le (ar.add (ar.slen [UInt8.ofNat 2]) (ar.slen (List.replicate x
    (UInt8.ofNat 0)))) 9223372036854775807 ∧ ∀ (t : List UInt8), t = ar.sapp [UInt8.ofNat 2] (List.replicate x (UInt8.ofNat 0)) → ∃ (x : List UInt8), [UInt8.ofNat 102, UInt8.ofNat
    100, UInt8.ofNat 102, UInt8.ofNat 102, UInt8.ofNat 102, UInt8.ofNat 102, UInt8.ofNat 102, UInt8.ofNat 102, UInt8.ofNat 102, UInt8.ofNat 102, UInt8.ofNat 102, UInt8.ofNat 102,
    UInt8.ofNat 102, UInt8.ofNat 102, UInt8.ofNat 102, UInt8.ofNat 102, UInt8.ofNat 102, UInt8.ofNat 102, UInt8.ofNat 102, UInt8.ofNat 102, UInt8.ofNat 102, UInt8.ofNat 102,
    UInt8.ofNat 102, UInt8.ofNat 102, UInt8.ofNat 102, UInt8.ofNat 102, UInt8.ofNat 102, UInt8.ofNat 102, UInt8.ofNat 102, UInt8.ofNat 102, UInt8.ofNat 102, UInt8.ofNat 102] = x ∧
    PL.StrOK x ∧ ∀ (y : Unit), True → ∃ (x_18 : List UInt8), [UInt8.ofNat 102, UInt8.ofNat 97, UInt8.ofNat 102, UInt8.ofNat 102, UInt8.ofNat 102, UInt8.ofNat 102, UInt8.ofNat 102,
    UInt8.ofNat 102, UInt8.ofNat 102, UInt8.ofNat 102, UInt8.ofNat 102, UInt8.ofNat 102, UInt8.ofNat 102, UInt8.ofNat 102, UInt8.ofNat 102, UInt8.ofNat 102, UInt8.ofNat 102,
    UInt8.ofNat 102, UInt8.ofNat 102, UInt8.ofNat 102, UInt8.ofNat 102, UInt8.ofNat 102, UInt8.ofNat 102, UInt8.ofNat 102, UInt8.ofNat 102, UInt8.ofNat 102, UInt8.ofNat 102,
    UInt8.ofNat 102, UInt8.ofNat 102, UInt8.ofNat 102, UInt8.ofNat 102, UInt8.ofNat 102] = x_18 ∧ PL.StrOK x_18 ∧ ∀ (y : Unit), True → ∃ (x_19 : List UInt8 × List UInt8 × List
    UInt8), t = x_19.fst ∧ PL.hexF x = x_19.2.fst ∧ PL.hexF x_18 = x_19.2.snd ∧ PL.TagPre x_19.fst x_19.2.fst ∧ ∀ (y : Unit), True → (PL.IsKey x_4.fst ∧ PL.tagOf x_4.fst x_4.2.fst
    = x_4.2.snd → (PL.IsKey x_6.fst ∧ PL.tagOf x_6.fst x_6.2.fst = x_6.2.snd → (PL.IsKey x_9.fst ∧ PL.tagOf x_9.fst x_9.2.fst = x_9.2.snd → (PL.IsKey x_14.fst ∧ PL.tagOf x_14.fst
    x_14.2.fst = x_14.2.snd → (PL.IsKey x_17.fst ∧ PL.tagOf x_17.fst x_17.2.fst = x_17.2.snd → ∃ (y : Unit), True ∧ (PL.IsKey x_19.fst ∧ PL.tagOf x_19.fst x_19.2.fst = x_19.2.snd ↔
    true = true) ∧ True) ∧ (¬(PL.IsKey x_17.fst ∧ PL.tagOf x_17.fst x_17.2.fst = x_17.2.snd) → ∃ (y : Unit), True ∧ False)) ∧ (¬(PL.IsKey x_14.fst ∧ PL.tagOf x_14.fst x_14.2.fst =
    x_14.2.snd) → ∃ (y : Unit), True ∧ False)) ∧ (¬(PL.IsKey x_9.fst ∧ PL.tagOf x_9.fst x_9.2.fst = x_9.2.snd) → ∃ (y : Unit), True ∧ False)) ∧ (¬(PL.IsKey x_6.fst ∧ PL.tagOf
    x_6.fst x_6.2.fst = x_6.2.snd) → ∃ (y : Unit), True ∧ False)) ∧ (¬(PL.IsKey x_4.fst ∧ PL.tagOf x_4.fst x_4.2.fst = x_4.2.snd) → ∃ (y : Unit), True ∧ False)) := by
  kernel_rfl
end Go.Eng


/- Poly: the laws of tags, in plain words. -/
set_option linter.unusedSimpArgs false
set_option linter.unusedVariables false
set_option maxRecDepth 100000
set_option linter.unusedSectionVars false
namespace Go.Eng
variable [CW : CWorld]
open Go.Proofs
open Go.PL (L5 MacS)

theorem keyed_isKey (s : List UInt8) : PL.IsKey (PL.keyedF s) := ⟨keyedF_length s⟩
theorem not_notKey {k : List UInt8} (h : k.length = 32) : ¬ PL.NotKey k := fun ⟨g⟩ => g h

theorem take16_append {a b : List UInt8} (h : a.length = 16) : (a ++ b).take 16 = a := by rw [← h]; exact List.take_left
theorem drop16_append {a b : List UInt8} (h : a.length = 16) : (a ++ b).drop 16 = b := by rw [← h]; exact List.drop_left

theorem rOf_take {a b : List UInt8} (h : a.length = 16) : PL.rOf (a ++ b) = PL.leI (PL.clampI (PL.ints a)) := by
  unfold PL.rOf; rw [take16_append h]
theorem sOf_drop {a b : List UInt8} (h : a.length = 16) : PL.sOf (a ++ b) = PL.leI (PL.ints b) := by
  unfold PL.sOf; rw [drop16_append h]

theorem leI_zero16 : PL.leI (PL.ints (List.replicate 16 0)) = 0 := by decide +kernel

theorem adds_one {K T : List UInt8} (h : K.length = 32) : PL.plusF (PL.tagOf (K.take 16 ++ List.replicate 16 0) T) (K.drop 16) = PL.tagOf K T := by
  have h16 : (K.take 16).length = 16 := by simp; omega
  have hd : (K.drop 16).length = 16 := by simp; omega
  unfold PL.plusF
  rw [List.take_of_length_le (l := K.drop 16) (by omega), List.take_of_length_le (by rw [PL.tagOf, leBytes_length]; omega)]
  unfold PL.tagOf
  rw [leI_leBytes, sOf_drop h16, leI_zero16, Int.add_zero, rOf_take h16]
  apply leBytes_cong
  show _ = (PL.lastN (PL.rOf K) T + PL.leI (PL.ints (K.drop 16))) % _
  rw [show PL.rOf K = PL.leI (PL.clampI (PL.ints (K.take 16))) from rfl]
  omega

theorem absorb_zero : ∀ (n : Nat) (t : List UInt8), PL.absorbN 0 n 0 t = 0
  | 0, _ => rfl
  | n + 1, t => by simp only [PL.absorbN, Int.mul_zero, Int.zero_emod]; exact absorb_zero n _

theorem adds_two {K T : List UInt8} (h : K.length = 32) : PL.tagOf (List.replicate 16 0 ++ K.drop 16) T = K.drop 16 := by
  have hd : (K.drop 16).length = 16 := by simp; omega
  have hr : PL.rOf (List.replicate 16 0 ++ K.drop 16) = 0 := by rw [rOf_take (by simp)]; decide +kernel
  unfold PL.tagOf
  rw [hr, sOf_drop (by simp)]
  have : PL.lastN 0 T = 0 := by
    unfold PL.lastN
    simp only [absorb_zero, Int.mul_zero, Int.zero_emod]
    split <;> rfl
  rw [this, Int.zero_add]
  have := leBytes_leI hd 0
  rw [Int.mul_zero, Int.add_zero] at this
  exact this

theorem clamp_tag {K l T : List UInt8} (h : PL.ClampOK K l) : PL.tagOf l T = PL.tagOf K T := by
  unfold PL.tagOf PL.rOf PL.sOf
  rw [h.first, h.rest]

/-- The number of a block, with its byte 1. -/
theorem one_val {t : List UInt8} (h : t.length ≤ 16) (hne : t ≠ []) : PL.lastN 1 t = PL.leI (PL.ints t ++ [1]) := by
  have b := leI_bound _ (PL.ints_bytes t)
  rw [PL.ints_length] at b
  have hv : PL.leI (PL.ints t ++ [1]) = PL.leI (PL.ints t) + 256 ^ t.length := by
    rw [leI_append, PL.ints_length]; simp [PL.leI]
  have hpos := List.length_pos_iff.2 hne
  have hp : (256 : Int) ^ t.length ≤ 340282366920938463463374607431768211456 := by
    have : (256 : Nat) ^ t.length ≤ 256 ^ 16 := Nat.pow_le_pow_right (by omega) h
    have h2 : ((256 ^ t.length : Nat) : Int) ≤ ((256 ^ 16 : Nat) : Int) := Int.ofNat_le.2 this
    rw [Int.natCast_pow] at h2
    exact h2
  have hmod : PL.leI (PL.ints t ++ [1]) % PL.PQ = PL.leI (PL.ints t ++ [1]) := by
    rw [hv]
    exact Int.emod_eq_of_lt (by omega) (by unfold PL.PQ; omega)
  rw [hv] at hmod ⊢
  unfold PL.lastN
  by_cases h16 : t.length = 16
  · have e1 : t.length / 16 = 1 := by omega
    have e2 : t.drop (16 * 1) = [] := List.drop_eq_nil_of_le (by omega)
    simp only [e1, e2, if_true, PL.absorbN, List.take_of_length_le (show t.length ≤ 16 by omega), Int.mul_one, Int.zero_add]
    rw [h16] at hmod ⊢
    rw [show (340282366920938463463374607431768211456 : Int) = 256 ^ 16 by decide, hmod, hmod]
  · have e1 : t.length / 16 = 0 := by omega
    simp only [e1, Nat.mul_zero, List.drop_zero, hne, if_false, PL.absorbN, Int.zero_add, Int.mul_one]
    rw [hv, hmod]

theorem r_one : PL.leI (PL.clampI (PL.ints ([1] ++ List.replicate 15 0))) = 1 := by decide +kernel

theorem one_tag {S t : List UInt8} (hS : S.length = 16) (h : t.length ≤ 16) :
    PL.tagOf (([1] ++ List.replicate 15 0) ++ S) t = PL.plusF (if t = [] then List.replicate 16 0 else ((t ++ [1]) ++ List.replicate 16 0).take 16) S := by
  unfold PL.tagOf PL.plusF
  rw [rOf_take (by simp), sOf_drop (by simp), r_one, List.take_of_length_le (l := S) (by omega)]
  by_cases he : t = []
  · subst he
    rw [if_pos rfl]
    rfl
  · rw [if_neg he, one_val h he, List.take_take, Nat.min_self]
    apply leBytes_cong
    have hl : (((t ++ [1]) ++ List.replicate 16 (0 : UInt8)).take 16).length = 16 := by rw [List.length_take]; simp
    have key : PL.leI (PL.ints (((t ++ [1]) ++ List.replicate 16 0).take 16)) % 340282366920938463463374607431768211456 = PL.leI (PL.ints t ++ [1]) % 340282366920938463463374607431768211456 := by
      have e1 : PL.leI (PL.ints ((t ++ [1]) ++ List.replicate 16 0)) = PL.leI (PL.ints t ++ [1]) := by
        rw [PL.ints_append, leI_append, show PL.ints (List.replicate 16 0) = List.replicate 16 0 from rfl, leI_zeros, Int.mul_zero, Int.add_zero, PL.ints_append]
        rfl
      have e2 : PL.leI (PL.ints ((t ++ [1]) ++ List.replicate 16 0)) = PL.leI (PL.ints (((t ++ [1]) ++ List.replicate 16 0).take 16) ++ PL.ints (((t ++ [1]) ++ List.replicate 16 0).drop 16)) := by
        rw [← PL.ints_append, List.take_append_drop]
      rw [leI_append, PL.ints_length, hl] at e2
      rw [← e1, e2, show (256 : Int) ^ 16 = 340282366920938463463374607431768211456 by decide, Int.add_mul_emod_self_left]
    omega

end Go.Eng

/- Poly: the statements about tags hold their contracts. -/
set_option linter.unusedSimpArgs false
set_option linter.unusedVariables false
set_option maxRecDepth 100000
set_option linter.unusedSectionVars false
namespace Go.Eng
variable [CW : CWorld]
open Go.Proofs
open Go.PL (L5 MacS)

theorem uSpecs_ok : SpecsOK PP uSpecs := by
  intro f xs _ S h
  unfold uSpecs at h
  split at h
  · cases h; exact tagSpec_ok
  · cases h

theorem taggedSpec_ok : taggedSpec.OK PP 22 := by
  refine Spec.ok_of_run (fn := Try.f22) (c := Try.f22.body.getD .skip) (by kernel_rfl) (by kernel_rfl) (by kernel_rfl) uSpecs_ok (fun _ => noInv) 1000 ?_
  rintro ⟨k, t, w⟩ h
  refine (vc22 ar0 (k, t, w)).mpr ?_
  exact ⟨(k, t), rfl, rfl, h, fun _ hn => ⟨(), trivial, ⟨fun e => absurd e Bool.false_ne_true, fun e => absurd e.1.len hn.ne⟩, trivial⟩, fun _ hk => ⟨(), trivial, ⟨fun e => ⟨hk, e⟩, fun e => e.2⟩, trivial⟩⟩

theorem lSpecs_ok : SpecsOK PP lSpecs := by
  intro f xs _ S h
  unfold lSpecs at h
  split at h
  · cases h; exact newSpec_ok
  · cases h; exact writeSpec_ok
  · cases h; exact sumSpec_ok
  · cases h; exact tagSpec_ok
  · cases h; exact taggedSpec_ok
  · cases h; exact keyedSpec_ok
  · cases h; exact hexSpec_ok
  · cases h; exact zerosSpec_ok
  · cases h; exact plusSpec_ok
  · cases h

theorem ex_nat {k : Nat} {P : Nat → Prop} : (∃ n : Nat, (OfNat.ofNat k : Int) = (n : Int) ∧ P n) ↔ P k :=
  ⟨fun ⟨n, h, hp⟩ => by
    have e : n = k := (Int.ofNat_inj.1 h).symm
    rw [← e]; exact hp, fun h => ⟨k, rfl, h⟩⟩
theorem tagOf_length (k t : List UInt8) : (PL.tagOf k t).length = 16 := leBytes_length _

theorem addsSpec_ok : addsSpec.OK PP 8 := by
  refine Spec.ok_of_run (fn := Try.f8) (c := Try.f8.body.getD .skip) (by kernel_rfl) (by kernel_rfl) (by kernel_rfl) lSpecs_ok (fun _ => noInv) 1000 ?_
  rintro ⟨s, t⟩ ⟨hs, ht⟩
  refine (vc8 ar0 (s, t)).mpr ?_
  have hl := keyedF_length s
  have htl := ht.len
  replace hs : PL.StrOK s := hs
  replace htl : t.length ≤ 140737488351232 := htl
  simp only [ars, Prod.exists, exists_and_left, exists_eq_left', exists_eq_left, true_and, and_true, and_false, exists_const, exists_false, false_or, or_false, forall_const, forall_eq, ex_nat, tagOf_length, imp_false, Classical.not_not, List.length_replicate, hl]
  generalize PL.keyedF s = K at hl
  have e1 : List.drop (Int.toNat 0) (List.take (Int.toNat 16) K) = K.take 16 := rfl
  have e2 : List.drop (Int.toNat 16) (List.take ((32 : Nat) : Int).toNat K) = K.drop 16 := by
    rw [Int.toNat_natCast, List.take_of_length_le (by omega)]; rfl
  simp only [e1, e2]
  have l1 : (K.take 16).length = 16 := by rw [List.length_take]; omega
  have l2 : (K.drop 16).length = 16 := by rw [List.length_drop]; omega
  have a1 := adds_one (T := t) hl
  have a2 := adds_two (T := t) hl
  have kk : PL.IsKey K := ⟨hl⟩
  have k1 : (K.take 16 ++ List.replicate 16 (0 : UInt8)).length = 32 := by simp; omega
  have k2 : (List.replicate 16 (0 : UInt8) ++ K.drop 16).length = 32 := by simp; omega
  have tp : ∀ k : List UInt8, k.length = 32 → PL.TagPre k t := fun k h => ⟨⟨by omega⟩, by omega⟩
  have sm : PL.SmallN 16 := ⟨by decide⟩
  have z : UInt8.ofNat 0 = 0 := rfl
  have tw : PL.Two16 (PL.tagOf (K.take 16 ++ List.replicate 16 0) t) (K.drop 16) := ⟨by rw [tagOf_length]; omega, by omega, by rw [tagOf_length]; omega, by omega⟩
  have i1 : PL.IsKey (K.take 16 ++ List.replicate 16 (0 : UInt8)) := ⟨k1⟩
  have i2 : PL.IsKey (List.replicate 16 (0 : UInt8) ++ K.drop 16) := ⟨k2⟩
  have n1 : ¬ PL.NotKey (K.take 16 ++ List.replicate 16 (0 : UInt8)) := not_notKey k1
  simp only [z, l1, l2, a1, a2, hs, sm, kk, tw, i1, i2, n1, tp _ k1, tp _ k2, tp _ hl, true_and, and_true, and_self, implies_true, true_implies, not_false_eq_true, iff_self]
  omega

theorem oneSpec_ok : addsSpec.OK PP 9 := by
  refine Spec.ok_of_run (fn := Try.f9) (c := Try.f9.body.getD .skip) (by kernel_rfl) (by kernel_rfl) (by kernel_rfl) lSpecs_ok (fun _ => noInv) 1000 ?_
  rintro ⟨s, t⟩ ⟨hs, ht⟩
  refine (vc9 ar0 (s, t)).mpr ?_
  have hl := keyedF_length s
  have htl := ht.len
  replace hs : PL.StrOK s := hs
  replace htl : t.length ≤ 140737488351232 := htl
  simp only [ars, Prod.exists, exists_and_left, exists_eq_left', exists_eq_left, true_and, and_true, and_false, exists_const, exists_false, false_or, or_false, forall_const, forall_eq, ex_nat, tagOf_length, imp_false, Classical.not_not, List.length_replicate, hl, List.length_append, List.length_cons, List.length_nil]
  generalize PL.keyedF s = K at hl
  have e1 : List.drop (Int.toNat 0) (List.take (Int.toNat 16) t) = t.take 16 := rfl
  have e2 : List.drop (Int.toNat 16) (List.take ((32 : Nat) : Int).toNat K) = K.drop 16 := by
    rw [Int.toNat_natCast, List.take_of_length_le (by omega)]; rfl
  have e3 : ∀ l : List UInt8, List.drop (Int.toNat 0) (List.take (Int.toNat 16) l) = l.take 16 := fun _ => rfl
  simp only [e1, e2, e3]
  have l2 : (K.drop 16).length = 16 := by rw [List.length_drop]; omega
  generalize K.drop 16 = S at l2
  have sm : PL.SmallN 16 := ⟨by decide⟩
  have sm5 : PL.SmallN 15 := ⟨by decide⟩
  have z : UInt8.ofNat 0 = 0 := rfl
  have o : UInt8.ofNat 1 = 1 := rfl
  have kl : (([1] ++ List.replicate 15 (0 : UInt8)) ++ S).length = 32 := by simp; omega
  have kk : PL.IsKey (([1] ++ List.replicate 15 (0 : UInt8)) ++ S) := ⟨kl⟩
  have tp : ∀ u : List UInt8, u.length ≤ 140737488351232 → PL.TagPre (([1] ++ List.replicate 15 (0 : UInt8)) ++ S) u := fun u h => ⟨⟨by omega⟩, by omega⟩
  have law := fun (u : List UInt8) (h : u.length ≤ 16) => one_tag (t := u) l2 h
  have tw1 : PL.Two16 (List.replicate 16 (0 : UInt8)) S := ⟨by simp, by omega, by simp, by omega⟩
  have pl : ∀ u : List UInt8, (((u ++ [1]) ++ List.replicate 16 (0 : UInt8)).take 16).length = 16 := fun u => by rw [List.length_take]; simp
  have tw2 : ∀ u : List UInt8, PL.Two16 (((u ++ [1]) ++ List.replicate 16 (0 : UInt8)).take 16) S := fun u => ⟨by rw [pl]; omega, by omega, by rw [pl]; omega, by omega⟩
  simp only [z, o, sm, sm5, kk, l2, tw1, tw2, true_and, and_true, hs]
  have go : ∀ u : List UInt8, u.length ≤ 16 → PL.TagPre (([1] ++ List.replicate 15 (0 : UInt8)) ++ S) u := fun u h => tp u (by omega)
  have lt : (t.take 16).length ≤ 16 := by rw [List.length_take]; omega
  refine ⟨by omega, fun h16 => ⟨by omega, fun hne => ?_, fun he => ?_⟩, fun h16 => ⟨fun hne => ?_, fun he => ?_⟩⟩
  · refine ⟨by omega, by omega, by omega, by omega, by omega, go _ lt, ?_⟩
    rw [law _ lt, if_neg hne]; simp
  · refine ⟨by omega, by omega, go _ lt, ?_⟩
    rw [law _ lt, if_pos he]; simp
  · refine ⟨by omega, by omega, by omega, by omega, by omega, go _ (by omega), ?_⟩
    rw [law _ (by omega), if_neg hne]; simp
  · refine ⟨by omega, by omega, go _ (by omega), ?_⟩
    rw [law _ (by omega), if_pos he]; simp
end Go.Eng

/- Poly: PolyClamps holds its contract. -/
set_option linter.unusedSimpArgs false
set_option linter.unusedVariables false
set_option maxRecDepth 100000
set_option linter.unusedSectionVars false
namespace Go.Eng
variable [CW : CWorld]
open Go.Proofs
open Go.PL (L5 MacS)

theorem clamp_set {K l : List UInt8} (h : PL.ClampOK K l) {j : Nat} {b : UInt8} (hj : j < 16)
    (hb : (j % 4 = 3 ∧ b.toNat % 16 = (l.getD j 0).toNat % 16) ∨ (j % 4 = 0 ∧ 0 < j ∧ b.toNat / 4 = (l.getD j 0).toNat / 4)) : PL.ClampOK K (l.set j b) := by
  have hl := h.len
  refine ⟨by simpa using hl, ?_, ?_⟩
  · rw [← h.first]
    unfold PL.clampI
    apply List.map_congr_left
    intro i hi
    have hi := List.mem_range.1 hi
    have g : ∀ m : List UInt8, m.length = 32 → (PL.ints (m.take 16)).getD i 0 = ((m.getD i 0).toNat : Int) := fun m hm => by
      have h1 : i < m.length := by omega
      simp [PL.ints, List.getD, List.getElem?_take, hi, h1]
    rw [g _ (by simpa using hl), g _ hl]
    by_cases e : j = i
    · subst e
      have : (l.set j b).getD j 0 = b := by
        have hjl : j < l.length := by omega
        simp [List.getD, hjl]
      rw [this]
      rcases hb with ⟨h3, hv⟩ | ⟨h0, hp, hv⟩
      · rw [h3]; simp only [if_true]; rw [show ((l.getD j 0).toNat : Int) % 16 = (((l.getD j 0).toNat % 16 : Nat) : Int) by omega, ← hv]; omega
      · have n3 : ¬ j % 4 = 3 := by omega
        simp only [n3, if_false, h0, hp, and_self, if_true]; omega
    · have : (l.set j b).getD i 0 = l.getD i 0 := by simp [List.getD, e]
      rw [this]
  · rw [← h.rest]
    apply List.ext_getElem?
    intro i
    simp only [List.getElem?_drop, List.getElem?_set]
    rw [if_neg (by omega)]

theorem xor_high : ∀ b : Nat, b < 256 → ∀ k : Nat, k < 4 → (b ^^^ (16 * 2 ^ k)) % 16 = b % 16 ∧ (b ^^^ (16 * 2 ^ k)) < 256 := by decide +kernel
theorem xor_low : ∀ b : Nat, b < 256 → ∀ k : Nat, k < 2 → (b ^^^ (1 * 2 ^ k)) / 4 = b / 4 ∧ (b ^^^ (1 * 2 ^ k)) < 256 := by decide +kernel

theorem bxor_nat {a b : Nat} (ha : a < 256) (hb : b < 256) : ar0.bxor .u8 (a : Int) (b : Int) = ((a ^^^ b : Nat) : Int) := by
  have := bxor_u8 (UInt8.ofNat a) (UInt8.ofNat b)
  rw [UInt8.toNat_xor, UInt8.toNat_ofNat_of_lt' ha, UInt8.toNat_ofNat_of_lt' hb] at this
  exact this
theorem shl_u8 {c k : Nat} (hk : k < 8) (h : c * 2 ^ k < 256) : ar0.shl .u8 (c : Int) (k : Int) = ((c * 2 ^ k : Nat) : Int) := by
  show IntKind.u8.wrap ((c : Int) * 2 ^ (min ((k : Nat) : Int).toNat 8)) = _
  rw [wrap_u8, Int.toNat_natCast, Nat.min_eq_left (by omega)]
  have : (c : Int) * 2 ^ k = ((c * 2 ^ k : Nat) : Int) := by rw [Int.natCast_mul, Int.natCast_pow]; rfl
  rw [this]
  omega

theorem ints_getD (l : List UInt8) (i : Nat) : (PL.ints l).getD i 0 = ((l.getD i 0).toNat : Int) := by
  by_cases h : i < l.length
  · simp [PL.ints, List.getD, h]
  · simp [PL.ints, List.getD, List.getElem?_eq_none (Nat.le_of_not_lt h)]
theorem ints_set (l : List UInt8) (i : Nat) {v : Nat} (hv : v < 256) : (PL.ints l).set i (v : Int) = PL.ints (l.set i (UInt8.ofNat v)) := by
  unfold PL.ints
  rw [List.map_set, UInt8.toNat_ofNat_of_lt' hv]

/-- One bit turned. -/
theorem clamp_turn {K l : List UInt8} (h : PL.ClampOK K l) {c j k : Nat} (hj : j < 16) (hk : (c = 16 ∧ k < 4 ∧ j % 4 = 3) ∨ (c = 1 ∧ k < 2 ∧ j % 4 = 0 ∧ 0 < j)) :
    ∃ l', PL.ClampOK K l' ∧ ar0.iset (PL.ints l) (j : Int) (ar0.bxor .u8 (ar0.iget (PL.ints l) (j : Int)) (ar0.shl .u8 (c : Int) (k : Int))) = PL.ints l' := by
  have hb := (l.getD j 0).toNat_lt
  have e0 : ar0.iget (PL.ints l) (j : Int) = ((l.getD j 0).toNat : Int) := by
    show (PL.ints l).getD (j : Int).toNat 0 = _
    rw [Int.toNat_natCast, ints_getD]
  have e2 : ∀ v : Int, ar0.iset (PL.ints l) (j : Int) v = (PL.ints l).set j v := fun v => rfl
  rcases hk with ⟨rfl, hk, hj3⟩ | ⟨rfl, hk, hj0, hjp⟩
  · obtain ⟨x1, x2⟩ := xor_high _ hb k hk
    have hlt : 16 * 2 ^ k < 256 := by
      have : 2 ^ k ≤ 2 ^ 3 := Nat.pow_le_pow_right (by omega) (by omega)
      omega
    refine ⟨l.set j (UInt8.ofNat ((l.getD j 0).toNat ^^^ (16 * 2 ^ k))), clamp_set h hj (.inl ⟨hj3, ?_⟩), ?_⟩
    · rw [UInt8.toNat_ofNat_of_lt' x2, x1]
    · rw [e0, shl_u8 (by omega) hlt, bxor_nat hb hlt, e2, ints_set _ _ x2]
  · obtain ⟨x1, x2⟩ := xor_low _ hb k hk
    have hlt : 1 * 2 ^ k < 256 := by
      have : 2 ^ k ≤ 2 ^ 1 := Nat.pow_le_pow_right (by omega) (by omega)
      omega
    refine ⟨l.set j (UInt8.ofNat ((l.getD j 0).toNat ^^^ (1 * 2 ^ k))), clamp_set h hj (.inr ⟨hj0, hjp, ?_⟩), ?_⟩
    · rw [UInt8.toNat_ofNat_of_lt' x2, x1]
    · rw [e0, shl_u8 (by omega) hlt, bxor_nat hb hlt, e2, ints_set _ _ x2]

theorem clampsSpec_ok : clampsSpec.OK PP 10 := by
  refine Spec.ok_of_run (fn := Try.f10) (c := Try.f10.body.getD .skip) (by kernel_rfl) (by kernel_rfl) (by kernel_rfl) lSpecs_ok (fun x => lawInvs x.1 x.2.1 []) 1000 ?_
  rintro ⟨s, t, n⟩ ⟨hs, ht, hn⟩
  refine (vc10 ar0 (s, t, n)).mpr ?_
  have hl := keyedF_length s
  have htl := ht.len
  replace hs : PL.StrOK s := hs
  replace htl : t.length ≤ 140737488351232 := htl
  replace hn : PL.I64 n := hn
  have hint : ar0.ints (PL.keyedF s) = PL.ints (PL.keyedF s) := rfl
  simp only [ars, Prod.exists, exists_and_left, exists_eq_left', exists_eq_left, true_and, and_true, and_false, exists_const, exists_false, false_or, or_false, forall_const, forall_eq, ex_nat, tagOf_length, imp_false, Classical.not_not, List.length_replicate, hl, hint, PL.ints_length]
  generalize PL.keyedF s = K at hl
  refine ⟨hs, fun c hc => ⟨⟨0, n, K, ⟨⟨by omega⟩, hn, ⟨hl, rfl, rfl⟩⟩, rfl, rfl, rfl⟩, ?_⟩⟩
  rintro ⟨i, bits, l⟩ ⟨⟨hi⟩, ⟨hb0, hb1⟩, hcl⟩
  have hll := hcl.len
  simp only at hi hb0 hb1 hcl hll ⊢
  have hqb : -9223372036854775808 ≤ bits.tdiv 2 ∧ bits.tdiv 2 < 9223372036854775808 := by
    rcases Int.le_total 0 bits with h | h
    · rw [Int.tdiv_eq_ediv_of_nonneg h]; omega
    · have e := Int.neg_tdiv (a := -bits) (b := 2)
      rw [Int.neg_neg] at e
      rw [e, Int.tdiv_eq_ediv_of_nonneg (by omega)]; omega
  have hq : IntKind.i64.wrap (bits.tdiv 2) = bits.tdiv 2 := wrap_i64 (by omega) (by omega)
  have hbits : PL.I64 (bits.tdiv 2) := ⟨by omega⟩
  refine ⟨fun hlt => ⟨fun hodd => ⟨fun h16 => ?_, fun h16 => ?_⟩, fun heven => ?_⟩, fun hge => ?_⟩
  · have q4 : (i : Int).tdiv 4 = ((i / 4 : Nat) : Int) := by rw [Int.tdiv_eq_ediv_of_nonneg (by omega)]; rfl
    have r4 : (i : Int).tmod 4 = ((i % 4 : Nat) : Int) := by rw [Int.tmod_eq_emod_of_nonneg (by omega)]; rfl
    have w1 : IntKind.i64.wrap ((i / 4 : Nat) : Int) = ((i / 4 : Nat) : Int) := wrap_i64 (by omega) (by omega)
    have w2 : IntKind.i64.wrap (4 * ((i / 4 : Nat) : Int)) = 4 * ((i / 4 : Nat) : Int) := wrap_i64 (by omega) (by omega)
    have w3 : IntKind.i64.wrap (3 + 4 * ((i / 4 : Nat) : Int)) = ((3 + 4 * (i / 4) : Nat) : Int) := by rw [wrap_i64 (by omega) (by omega)]; omega
    have w4 : IntKind.i64.wrap ((i : Int) + 1) = ((i + 1 : Nat) : Int) := by rw [wrap_i64 (by omega) (by omega)]; omega
    simp only [q4, r4, w1, w2, w3, w4, hq, hll]
    obtain ⟨l', hl', he⟩ := clamp_turn hcl (c := 16) (j := 3 + 4 * (i / 4)) (k := i % 4) (by omega) (.inl ⟨rfl, by omega, by omega⟩)
    refine ⟨by omega, by omega, by omega, by omega, by omega, by omega, by omega, by omega, by omega, ⟨i + 1, bits.tdiv 2, l', ⟨⟨by omega⟩, hbits, hl'⟩, by omega, rfl, rfl, he⟩⟩
  · have w0 : IntKind.i64.wrap ((i : Int) - 16) = ((i - 16 : Nat) : Int) := by rw [wrap_i64 (by omega) (by omega)]; omega
    have q4 : ((i - 16 : Nat) : Int).tdiv 2 = (((i - 16) / 2 : Nat) : Int) := by rw [Int.tdiv_eq_ediv_of_nonneg (by omega)]; rfl
    have r4 : ((i - 16 : Nat) : Int).tmod 2 = (((i - 16) % 2 : Nat) : Int) := by rw [Int.tmod_eq_emod_of_nonneg (by omega)]; rfl
    have w1 : IntKind.i64.wrap (((i - 16) / 2 : Nat) : Int) = (((i - 16) / 2 : Nat) : Int) := wrap_i64 (by omega) (by omega)
    have w2 : IntKind.i64.wrap (4 * (((i - 16) / 2 : Nat) : Int)) = 4 * (((i - 16) / 2 : Nat) : Int) := wrap_i64 (by omega) (by omega)
    have w3 : IntKind.i64.wrap (4 + 4 * (((i - 16) / 2 : Nat) : Int)) = ((4 + 4 * ((i - 16) / 2) : Nat) : Int) := by rw [wrap_i64 (by omega) (by omega)]; omega
    have w4 : IntKind.i64.wrap ((i : Int) + 1) = ((i + 1 : Nat) : Int) := by rw [wrap_i64 (by omega) (by omega)]; omega
    simp only [w0, q4, r4, w1, w2, w3, w4, hq, hll]
    obtain ⟨l', hl', he⟩ := clamp_turn hcl (c := 1) (j := 4 + 4 * ((i - 16) / 2)) (k := (i - 16) % 2) (by omega) (.inr ⟨rfl, by omega, by omega, by omega⟩)
    refine ⟨by omega, by omega, by omega, by omega, by omega, by omega, by omega, by omega, by omega, ⟨i + 1, bits.tdiv 2, l', ⟨⟨by omega⟩, hbits, hl'⟩, by omega, rfl, rfl, he⟩⟩
  · have w4 : IntKind.i64.wrap ((i : Int) + 1) = ((i + 1 : Nat) : Int) := by rw [wrap_i64 (by omega) (by omega)]; omega
    simp only [w4, hq]
    exact ⟨i + 1, bits.tdiv 2, l, ⟨⟨by omega⟩, hbits, hcl⟩, by omega, rfl, rfl, rfl⟩
  · have hb := acc_bytes l
    rw [hll] at hb
    have kl : PL.IsKey l := ⟨hll⟩
    refine ⟨⟨⟨by omega⟩, by omega⟩, not_notKey hl, fun _ => ?_⟩
    rw [hll, hb]
    simp only [clamp_tag hcl, kl, true_and, and_true]
    have tp : ∀ k : List UInt8, k.length = 32 → PL.TagPre k t := fun k h => ⟨⟨by omega⟩, by omega⟩
    exact ⟨fun _ => ⟨by omega, by omega, tp _ hll⟩, rfl⟩
end Go.Eng

set_option linter.unusedSimpArgs false
set_option linter.unusedVariables false
set_option maxRecDepth 100000
set_option linter.unusedSectionVars false
namespace Go.Eng
variable [CW : CWorld]
open Go.Proofs
open Go.PL (L5 MacS)

theorem hexF_len : ∀ s : List UInt8, (PL.hexF s).length = s.length / 2
  | [] => rfl
  | [_] => by simp [PL.hexF]
  | a :: b :: r => by
    have := hexF_len r
    simp only [PL.hexF, List.length_cons, this]
    omega

instance (k : List UInt8) : Decidable (PL.IsKey k) := decidable_of_iff (k.length = 32) ⟨fun h => ⟨h⟩, fun h => h.len⟩

instance (k : List UInt8) : Decidable (PL.StrOK k) := decidable_of_iff (k.length ≤ 140737488351232) ⟨fun h => ⟨h⟩, fun h => h.len⟩
instance (k : List UInt8) : Decidable (PL.LenOK k) := decidable_of_iff (k.length < 4611686018427387904) ⟨fun h => ⟨h⟩, fun h => h.len⟩
instance (k : Nat) : Decidable (PL.SmallN k) := decidable_of_iff (k < 1099511627776) ⟨fun h => ⟨h⟩, fun h => h.le⟩
instance (k t : List UInt8) : Decidable (PL.TagPre k t) := decidable_of_iff (PL.LenOK k ∧ t.length < 4611686018427387904) ⟨fun h => ⟨h.1, h.2⟩, fun h => ⟨h.key, h.len⟩⟩

set_option synthInstance.maxSize 1000000 in
set_option synthInstance.maxHeartbeats 0 in
set_option maxHeartbeats 4000000 in
theorem knownSpec_ok : knownSpec.OK PP 6 := by
  refine Spec.ok_of_run (fn := Try.f6) (c := Try.f6.body.getD .skip) (by kernel_rfl) (by kernel_rfl) (by kernel_rfl) lSpecs_ok (fun _ => noInv) 1000 ?_
  rintro x -
  refine (vc6 ar0 x).mpr ?_
  simp only [ars, Prod.exists, exists_and_left, exists_eq_left', exists_eq_left, true_and, and_true, and_false, exists_const, exists_false, false_or, or_false, forall_const, forall_eq, ex_nat, tagOf_length, imp_false, Classical.not_not, List.length_replicate, List.length_append, List.length_cons, List.length_nil, hexF_len]
  decide +kernel
end Go.Eng
