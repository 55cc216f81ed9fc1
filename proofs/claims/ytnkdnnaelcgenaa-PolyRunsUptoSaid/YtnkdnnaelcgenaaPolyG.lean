/- Poly: PolyTags holds its contract. -/
import Derived.Test.YtnkdnnaelcgenaaPolyF
import Derived.Test.YtnkdnnaelcgenaaPolyD
set_option linter.unusedVariables false
set_option linter.unusedSimpArgs false

/- Poly: the document's number, clamped, modulo, Tag: contracts. -/
namespace Go.PL
structure NumberPre (s : List UInt8) (b : Int) : Prop where
  len : s.length ≤ 32
  b : 0 ≤ b ∧ b < 256
structure numberPost (s : List UInt8) (b : Int) (y : List Int) : Prop where
  num : Num y
  val : b16 y = leI (ints s ++ [b])
def byteN (s : List UInt8) (i k : Nat) : Int := if k < i then ((s.getD k 0).toNat : Int) else 0
structure NumberOK (s : List UInt8) (i : Nat) (l : List Int) : Prop where
  hi : i ≤ s.length
  eq : l = tab 24 fun j => byteN s i (2 * j) + 256 * byteN s i (2 * j + 1)
def clampS (key : List UInt8) : List UInt8 := (clampI (ints (key.take 16))).map fun n => UInt8.ofNat n.toNat
structure ClampedPre (key : List UInt8) : Prop where
  lo : 16 ≤ key.length
  hi : key.length ≤ 140737488351232
structure ClampedOK (key l : List UInt8) : Prop where
  len : l.length ≤ 16
  eq : l = (clampS key).take l.length
structure moduloPost (x y : List Int) : Prop where
  num : Num y
  val : b16 y = b16 x % PQ
structure ModOK (x n lo hi : List Int) : Prop where
  nlen : n.length = 24
  nlo : Num lo
  nhi : Num hi
  lt : b16 lo < 1361129467683753853853498429727072845824
  le : b16 lo + 1361129467683753853853498429727072845824 * b16 hi ≤ b16 x
  val : (b16 lo + 1361129467683753853853498429727072845824 * b16 hi) % PQ = b16 x % PQ
structure RefOK (R : Int) (t : List UInt8) (k : Nat) (a : List Int) : Prop where
  num : Num a
  val : (k ≤ t.length / 16 ∧ b16 a = absorbN R k 0 t) ∨ (k = t.length / 16 + 1 ∧ t.length % 16 ≠ 0 ∧ b16 a = lastN R t)
def by2 (l : List Int) : List Int := l.flatMap fun d => [d % 256, d / 256]
structure FinOK (key t : List UInt8) (a : List Int) : Prop where
  num : Num a
  val : b16 a = lastN (rOf key) t + sOf key
structure OutOK (a : List Int) (i : Nat) (l : List UInt8) : Prop where
  hi : i ≤ 8
  eq : ints l = by2 (a.take i)
end Go.PL
namespace Go.Eng
variable [CW : CWorld]
open Go.Proofs
set_option maxRecDepth 100000

def numberSpec : Spec where
  X := List UInt8 × Int
  A x := [.str x.1, .int .i64 (.x x.2)]
  H _ := []
  pre x := PL.NumberPre x.1 x.2
  outs := [{ Y _ := List Int, post x y := PL.numberPost x.1 x.2 y, R _ y := .agg (aggN y), H' _ _ := [] }]
def clampedSpec : Spec where
  X := List UInt8
  A x := [.str x]
  H _ := []
  pre x := PL.ClampedPre x
  outs := [{ Y _ := Unit, post _ _ := True, R x _ := .str (PL.clampS x), H' _ _ := [] }]
def moduloSpec : Spec where
  X := List Int
  A x := [.agg (aggN x)]
  H _ := []
  pre x := PL.Num x
  outs := [{ Y _ := List Int, post x y := PL.moduloPost x y, R _ y := .agg (aggN y), H' _ _ := [] }]
def refTagSpec : Spec where
  X := List UInt8 × List UInt8
  A x := [.str x.1, .str x.2]
  H _ := []
  pre x := PL.TwoStr x.1 x.2
  outs := [{ Y _ := Unit, post x _ := PL.NotKey x.1, R _ _ := .tup [.str [], .int .i64 (.l 40)], H' _ _ := [] },
    { Y _ := Unit, post x _ := PL.IsKey x.1, R x _ := .tup [.str (PL.tagOf x.1 x.2), .int .i64 (.l 0)], H' _ _ := [] }]

noncomputable def r33 : Specs := fun f _ _ => match f with
  | 35 => some addSpec
  | 38 => some partedSpec
  | 39 => some zeroSpec
  | 40 => some fiveSpec
  | _ => none
noncomputable def r19 : Specs := fun f _ _ => match f with
  | 31 => some numberSpec
  | 32 => some clampedSpec
  | 33 => some moduloSpec
  | 34 => some timesSpec
  | 35 => some addSpec
  | _ => none
noncomputable def r5 : Specs := fun f _ _ => match f with
  | 18 => some tagSpec
  | 19 => some refTagSpec
  | _ => none

def numberInv (s : List UInt8) : Code → List SV → List Blk → List Inv := fun b fr hp => [
  { ι := Nat × List Int, fr := fun i => upd (havoc b fr) [(6, .int .i64 (.x (i.1 : Int)))],
    hp := fun i => match hp with
      | [r, _] => [r, arrN i.2]
      | _ => [],
    μ := fun i => s.length - i.1, ok := fun i => PL.NumberOK s i.1 i.2 }]
def clampedInv (s : List UInt8) : Code → List SV → List Blk → List Inv := fun b fr hp => [
  { ι := Unit, fr := fun _ => upd (havoc b fr) [(3, .nslc), (4, .int .i64 (.l 0))], hp := fun _ => hp, μ := fun _ => 17, ok := fun _ => True },
  { ι := List UInt8 × Int, fr := fun i => upd (havoc b fr) [(3, accSlc hp.length i.1 i.2), (4, .int .i64 (.x (i.1.length : Int)))], hp := fun i => hp ++ [accBlk i.1 i.2], μ := fun i => 16 - i.1.length, ok := fun i => PL.ClampedOK s i.1 ∧ PL.CapOK i.1.length i.2 }]
def moduloInv (x : List Int) : Code → List SV → List Blk → List Inv := fun b fr hp => [
  { ι := List Int × List Int × List Int, fr := fun _ => havoc b fr,
    hp := fun i => match hp with
      | [_, r, _, _] => [arrN i.1, r, arrN i.2.1, arrN i.2.2]
      | _ => [],
    μ := fun i => (PL.b16 i.2.1 + 1361129467683753853853498429727072845824 * PL.b16 i.2.2).toNat, ok := fun i => PL.ModOK x i.1 i.2.1 i.2.2 }]
def refInv (R : Int) (t : List UInt8) : Code → List SV → List Blk → List Inv := fun b fr hp => [
  { ι := Nat × List Int, fr := fun i => upd (havoc b fr) [(8, .int .i64 (.x ((16 * i.1 : Nat) : Int)))],
    hp := fun i => match hp with
      | [r, _] => [r, arrN i.2]
      | _ => [],
    μ := fun i => t.length + 16 - 16 * i.1, ok := fun i => PL.RefOK R t i.1 i.2 }]
def outInv (key t : List UInt8) : Code → List SV → List Blk → List Inv := fun b fr hp =>
  match hp with
  | [r, _] => [
    { ι := List Int, fr := fun _ => upd (havoc b fr) [(10, .nslc), (11, .int .i64 (.l 0))], hp := fun a => [r, arrN a], μ := fun _ => 9, ok := fun a => PL.FinOK key t a },
    { ι := List Int × Nat × List UInt8 × Int, fr := fun i => upd (havoc b fr) [(10, accSlc 2 i.2.2.1 i.2.2.2), (11, .int .i64 (.x (i.2.1 : Int)))], hp := fun i => [r, arrN i.1, accBlk i.2.2.1 i.2.2.2], μ := fun i => 8 - i.2.1,
      ok := fun i => PL.FinOK key t i.1 ∧ PL.OutOK i.1 i.2.1 i.2.2.1 ∧ PL.CapOK i.2.2.1.length i.2.2.2 }]
  | _ => []
def refInvs (x : List Int) (s t : List UInt8) : Invs := fun f n => match f, n with
  | 31, 3 => some (numberInv s)
  | 32, 3 => some (clampedInv s)
  | 33, 2 => some (moduloInv x)
  | 19, 6 => some (refInv (PL.rOf s) t)
  | 19, 15 => some (outInv s t)
  | _, _ => none
end Go.Eng

/- Poly: walks. -/
set_option linter.unusedVariables false
set_option linter.unusedSectionVars false
namespace Go.Eng
variable [CW : CWorld]
open Go.Proofs
open Go.PL (L5 MacS)
set_option maxRecDepth 100000
theorem vc31 (ar : AR) (x : List UInt8 × Int) : (run ar PP noSpec (refInvs [] x.1 []) 1000 31 0 (Try.f31.body.getD .skip) ([.str x.1, .int .i64 (.x x.2)] ++ List.replicate (Try.f31.ntmps - 2) .any) [] (endCall ar PP Try.f31.results.toList (numberSpec.fin x))) = (
    (∃ (i : Nat × List Int), PL.NumberOK x.fst i.fst i.snd ∧ x.fst = x.fst ∧ x.snd = x.snd ∧ 0 = (↑i.fst : Int) ∧ [0, 0, 0, 0, 0, 0, 0, 0, 0, 0, 0, 0, 0, 0, 0, 0, 0, 0, 0, 0, 0, 0,
    0, 0] = i.snd ∧ True) ∧ ∀ (i : Nat × List Int), PL.NumberOK x.fst i.fst i.snd → (ar.lt (↑i.fst : Int) (ar.slen x.fst) → ∀ (z : Int), z = ar.rem (↑i.fst : Int) 2 → (ar.eq z 0 →
    ∀ (z : Int), z = ar.wrap IntKind.i64 (ar.quo (↑i.fst : Int) 2) → ∀ (z_1 : Int), z_1 = ar.wrap IntKind.i64 (ar.quo (↑i.fst : Int) 2) → ar.le 0 z_1 ∧ ar.lt z_1 24 ∧ ar.le 0 z_1 ∧
    ar.lt z_1 (ar.ilen i.snd) ∧ ar.le 0 (↑i.fst : Int) ∧ ar.lt (↑i.fst : Int) (ar.slen x.fst) ∧ ∀ (z_2 : Int), z_2 = ar.sget x.fst (↑i.fst : Int) → ∀ (z_3 : Int), z_3 = ar.wrap
    IntKind.i64 z_2 → ∀ (z_4 : Int), z_4 = ar.wrap IntKind.i64 (ar.add (ar.iget i.snd z_1) z_3) → ar.le 0 z ∧ ar.lt z 24 ∧ ar.le 0 z ∧ ar.lt z (ar.ilen i.snd) ∧ ∀ (z_5 : Int), z_5
    = ar.wrap IntKind.i64 (ar.add (↑i.fst : Int) 1) → ∃ (j : Nat × List Int), PL.NumberOK x.fst j.fst j.snd ∧ (x.fst.length.sub j.fst).lt (x.fst.length.sub i.fst) ∧ x.fst = x.fst ∧
    x.snd = x.snd ∧ z_5 = (↑j.fst : Int) ∧ ar.iset i.snd z z_4 = j.snd ∧ True) ∧ (¬ar.eq z 0 → ∀ (z : Int), z = ar.wrap IntKind.i64 (ar.quo (↑i.fst : Int) 2) → ∀ (z_1 : Int), z_1 =
    ar.wrap IntKind.i64 (ar.quo (↑i.fst : Int) 2) → ar.le 0 z_1 ∧ ar.lt z_1 24 ∧ ar.le 0 z_1 ∧ ar.lt z_1 (ar.ilen i.snd) ∧ ar.le 0 (↑i.fst : Int) ∧ ar.lt (↑i.fst : Int) (ar.slen
    x.fst) ∧ ∀ (z_2 : Int), z_2 = ar.sget x.fst (↑i.fst : Int) → ∀ (z_3 : Int), z_3 = ar.wrap IntKind.i64 z_2 → ∀ (z_4 : Int), z_4 = ar.wrap IntKind.i64 (ar.mul 256 z_3) → ∀ (z_5 :
    Int), z_5 = ar.wrap IntKind.i64 (ar.add (ar.iget i.snd z_1) z_4) → ar.le 0 z ∧ ar.lt z 24 ∧ ar.le 0 z ∧ ar.lt z (ar.ilen i.snd) ∧ ∀ (z_6 : Int), z_6 = ar.wrap IntKind.i64
    (ar.add (↑i.fst : Int) 1) → ∃ (j : Nat × List Int), PL.NumberOK x.fst j.fst j.snd ∧ (x.fst.length.sub j.fst).lt (x.fst.length.sub i.fst) ∧ x.fst = x.fst ∧ x.snd = x.snd ∧ z_6 =
    (↑j.fst : Int) ∧ ar.iset i.snd z z_5 = j.snd ∧ True)) ∧ (¬ar.lt (↑i.fst : Int) (ar.slen x.fst) → ∀ (z : Int), z = ar.rem (ar.slen x.fst) 2 → (ar.eq z 0 → ∀ (z : Int), z =
    ar.wrap IntKind.i64 (ar.quo (ar.slen x.fst) 2) → ∀ (z_1 : Int), z_1 = ar.wrap IntKind.i64 (ar.quo (ar.slen x.fst) 2) → ar.le 0 z_1 ∧ ar.lt z_1 24 ∧ ar.le 0 z_1 ∧ ar.lt z_1
    (ar.ilen i.snd) ∧ ∀ (z_2 : Int), z_2 = ar.wrap IntKind.i64 (ar.add (ar.iget i.snd z_1) x.snd) → ar.le 0 z ∧ ar.lt z 24 ∧ ar.le 0 z ∧ ar.lt z (ar.ilen i.snd) ∧ ar.le 0 0 ∧ ar.lt
    0 (ar.ilen (ar.iset i.snd z z_2)) ∧ ar.le 0 1 ∧ ar.lt 1 (ar.ilen (ar.iset i.snd z z_2)) ∧ ar.le 0 2 ∧ ar.lt 2 (ar.ilen (ar.iset i.snd z z_2)) ∧ ar.le 0 3 ∧ ar.lt 3 (ar.ilen
    (ar.iset i.snd z z_2)) ∧ ar.le 0 4 ∧ ar.lt 4 (ar.ilen (ar.iset i.snd z z_2)) ∧ ar.le 0 5 ∧ ar.lt 5 (ar.ilen (ar.iset i.snd z z_2)) ∧ ar.le 0 6 ∧ ar.lt 6 (ar.ilen (ar.iset i.snd
    z z_2)) ∧ ar.le 0 7 ∧ ar.lt 7 (ar.ilen (ar.iset i.snd z z_2)) ∧ ar.le 0 8 ∧ ar.lt 8 (ar.ilen (ar.iset i.snd z z_2)) ∧ ar.le 0 9 ∧ ar.lt 9 (ar.ilen (ar.iset i.snd z z_2)) ∧
    ar.le 0 10 ∧ ar.lt 10 (ar.ilen (ar.iset i.snd z z_2)) ∧ ar.le 0 11 ∧ ar.lt 11 (ar.ilen (ar.iset i.snd z z_2)) ∧ ar.le 0 12 ∧ ar.lt 12 (ar.ilen (ar.iset i.snd z z_2)) ∧ ar.le 0
    13 ∧ ar.lt 13 (ar.ilen (ar.iset i.snd z z_2)) ∧ ar.le 0 14 ∧ ar.lt 14 (ar.ilen (ar.iset i.snd z z_2)) ∧ ar.le 0 15 ∧ ar.lt 15 (ar.ilen (ar.iset i.snd z z_2)) ∧ ar.le 0 16 ∧
    ar.lt 16 (ar.ilen (ar.iset i.snd z z_2)) ∧ ar.le 0 17 ∧ ar.lt 17 (ar.ilen (ar.iset i.snd z z_2)) ∧ ar.le 0 18 ∧ ar.lt 18 (ar.ilen (ar.iset i.snd z z_2)) ∧ ar.le 0 19 ∧ ar.lt 19
    (ar.ilen (ar.iset i.snd z z_2)) ∧ ar.le 0 20 ∧ ar.lt 20 (ar.ilen (ar.iset i.snd z z_2)) ∧ ar.le 0 21 ∧ ar.lt 21 (ar.ilen (ar.iset i.snd z z_2)) ∧ ar.le 0 22 ∧ ar.lt 22 (ar.ilen
    (ar.iset i.snd z z_2)) ∧ ar.le 0 23 ∧ ar.lt 23 (ar.ilen (ar.iset i.snd z z_2)) ∧ ∃ (y : List Int), PL.numberPost x.fst x.snd y ∧ ar.iget (ar.iset i.snd z z_2) 0 = y.getD 0 0 ∧
    ar.iget (ar.iset i.snd z z_2) 1 = y.getD 1 0 ∧ ar.iget (ar.iset i.snd z z_2) 2 = y.getD 2 0 ∧ ar.iget (ar.iset i.snd z z_2) 3 = y.getD 3 0 ∧ ar.iget (ar.iset i.snd z z_2) 4 =
    y.getD 4 0 ∧ ar.iget (ar.iset i.snd z z_2) 5 = y.getD 5 0 ∧ ar.iget (ar.iset i.snd z z_2) 6 = y.getD 6 0 ∧ ar.iget (ar.iset i.snd z z_2) 7 = y.getD 7 0 ∧ ar.iget (ar.iset i.snd
    z z_2) 8 = y.getD 8 0 ∧ ar.iget (ar.iset i.snd z z_2) 9 = y.getD 9 0 ∧ ar.iget (ar.iset i.snd z z_2) 10 = y.getD 10 0 ∧ ar.iget (ar.iset i.snd z z_2) 11 = y.getD 11 0 ∧ ar.iget
    (ar.iset i.snd z z_2) 12 = y.getD 12 0 ∧ ar.iget (ar.iset i.snd z z_2) 13 = y.getD 13 0 ∧ ar.iget (ar.iset i.snd z z_2) 14 = y.getD 14 0 ∧ ar.iget (ar.iset i.snd z z_2) 15 =
    y.getD 15 0 ∧ ar.iget (ar.iset i.snd z z_2) 16 = y.getD 16 0 ∧ ar.iget (ar.iset i.snd z z_2) 17 = y.getD 17 0 ∧ ar.iget (ar.iset i.snd z z_2) 18 = y.getD 18 0 ∧ ar.iget
    (ar.iset i.snd z z_2) 19 = y.getD 19 0 ∧ ar.iget (ar.iset i.snd z z_2) 20 = y.getD 20 0 ∧ ar.iget (ar.iset i.snd z z_2) 21 = y.getD 21 0 ∧ ar.iget (ar.iset i.snd z z_2) 22 =
    y.getD 22 0 ∧ ar.iget (ar.iset i.snd z z_2) 23 = y.getD 23 0 ∧ True) ∧ (¬ar.eq z 0 → ∀ (z : Int), z = ar.wrap IntKind.i64 (ar.quo (ar.slen x.fst) 2) → ∀ (z_1 : Int), z_1 =
    ar.wrap IntKind.i64 (ar.quo (ar.slen x.fst) 2) → ar.le 0 z_1 ∧ ar.lt z_1 24 ∧ ar.le 0 z_1 ∧ ar.lt z_1 (ar.ilen i.snd) ∧ ∀ (z_2 : Int), z_2 = ar.wrap IntKind.i64 (ar.mul 256
    x.snd) → ∀ (z_3 : Int), z_3 = ar.wrap IntKind.i64 (ar.add (ar.iget i.snd z_1) z_2) → ar.le 0 z ∧ ar.lt z 24 ∧ ar.le 0 z ∧ ar.lt z (ar.ilen i.snd) ∧ ar.le 0 0 ∧ ar.lt 0 (ar.ilen
    (ar.iset i.snd z z_3)) ∧ ar.le 0 1 ∧ ar.lt 1 (ar.ilen (ar.iset i.snd z z_3)) ∧ ar.le 0 2 ∧ ar.lt 2 (ar.ilen (ar.iset i.snd z z_3)) ∧ ar.le 0 3 ∧ ar.lt 3 (ar.ilen (ar.iset i.snd
    z z_3)) ∧ ar.le 0 4 ∧ ar.lt 4 (ar.ilen (ar.iset i.snd z z_3)) ∧ ar.le 0 5 ∧ ar.lt 5 (ar.ilen (ar.iset i.snd z z_3)) ∧ ar.le 0 6 ∧ ar.lt 6 (ar.ilen (ar.iset i.snd z z_3)) ∧
    ar.le 0 7 ∧ ar.lt 7 (ar.ilen (ar.iset i.snd z z_3)) ∧ ar.le 0 8 ∧ ar.lt 8 (ar.ilen (ar.iset i.snd z z_3)) ∧ ar.le 0 9 ∧ ar.lt 9 (ar.ilen (ar.iset i.snd z z_3)) ∧ ar.le 0 10 ∧
    ar.lt 10 (ar.ilen (ar.iset i.snd z z_3)) ∧ ar.le 0 11 ∧ ar.lt 11 (ar.ilen (ar.iset i.snd z z_3)) ∧ ar.le 0 12 ∧ ar.lt 12 (ar.ilen (ar.iset i.snd z z_3)) ∧ ar.le 0 13 ∧ ar.lt 13
    (ar.ilen (ar.iset i.snd z z_3)) ∧ ar.le 0 14 ∧ ar.lt 14 (ar.ilen (ar.iset i.snd z z_3)) ∧ ar.le 0 15 ∧ ar.lt 15 (ar.ilen (ar.iset i.snd z z_3)) ∧ ar.le 0 16 ∧ ar.lt 16 (ar.ilen
    (ar.iset i.snd z z_3)) ∧ ar.le 0 17 ∧ ar.lt 17 (ar.ilen (ar.iset i.snd z z_3)) ∧ ar.le 0 18 ∧ ar.lt 18 (ar.ilen (ar.iset i.snd z z_3)) ∧ ar.le 0 19 ∧ ar.lt 19 (ar.ilen (ar.iset
    i.snd z z_3)) ∧ ar.le 0 20 ∧ ar.lt 20 (ar.ilen (ar.iset i.snd z z_3)) ∧ ar.le 0 21 ∧ ar.lt 21 (ar.ilen (ar.iset i.snd z z_3)) ∧ ar.le 0 22 ∧ ar.lt 22 (ar.ilen (ar.iset i.snd z
    z_3)) ∧ ar.le 0 23 ∧ ar.lt 23 (ar.ilen (ar.iset i.snd z z_3)) ∧ ∃ (y : List Int), PL.numberPost x.fst x.snd y ∧ ar.iget (ar.iset i.snd z z_3) 0 = y.getD 0 0 ∧ ar.iget (ar.iset
    i.snd z z_3) 1 = y.getD 1 0 ∧ ar.iget (ar.iset i.snd z z_3) 2 = y.getD 2 0 ∧ ar.iget (ar.iset i.snd z z_3) 3 = y.getD 3 0 ∧ ar.iget (ar.iset i.snd z z_3) 4 = y.getD 4 0 ∧
    ar.iget (ar.iset i.snd z z_3) 5 = y.getD 5 0 ∧ ar.iget (ar.iset i.snd z z_3) 6 = y.getD 6 0 ∧ ar.iget (ar.iset i.snd z z_3) 7 = y.getD 7 0 ∧ ar.iget (ar.iset i.snd z z_3) 8 =
    y.getD 8 0 ∧ ar.iget (ar.iset i.snd z z_3) 9 = y.getD 9 0 ∧ ar.iget (ar.iset i.snd z z_3) 10 = y.getD 10 0 ∧ ar.iget (ar.iset i.snd z z_3) 11 = y.getD 11 0 ∧ ar.iget (ar.iset
    i.snd z z_3) 12 = y.getD 12 0 ∧ ar.iget (ar.iset i.snd z z_3) 13 = y.getD 13 0 ∧ ar.iget (ar.iset i.snd z z_3) 14 = y.getD 14 0 ∧ ar.iget (ar.iset i.snd z z_3) 15 = y.getD 15 0
    ∧ ar.iget (ar.iset i.snd z z_3) 16 = y.getD 16 0 ∧ ar.iget (ar.iset i.snd z z_3) 17 = y.getD 17 0 ∧ ar.iget (ar.iset i.snd z z_3) 18 = y.getD 18 0 ∧ ar.iget (ar.iset i.snd z
    z_3) 19 = y.getD 19 0 ∧ ar.iget (ar.iset i.snd z z_3) 20 = y.getD 20 0 ∧ ar.iget (ar.iset i.snd z z_3) 21 = y.getD 21 0 ∧ ar.iget (ar.iset i.snd z z_3) 22 = y.getD 22 0 ∧
    ar.iget (ar.iset i.snd z z_3) 23 = y.getD 23 0 ∧ True))) := by
  kernel_rfl
end Go.Eng


/- Poly: walks. -/
set_option linter.unusedVariables false
set_option linter.unusedSectionVars false
namespace Go.Eng
variable [CW : CWorld]
open Go.Proofs
open Go.PL (L5 MacS)
set_option maxRecDepth 100000
theorem vc32 (ar : AR) (x : List UInt8) : (run ar PP noSpec (refInvs [] x []) 1000 32 0 (Try.f32.body.getD .skip) ([.str x] ++ List.replicate (Try.f32.ntmps - 1) .any) [] (endCall ar PP Try.f32.results.toList (clampedSpec.fin x))) = (
    ((∃ (i : Unit), True ∧ x = x ∧ ([] : List UInt8) = [] ∧ True) ∨ ∃ (i : List UInt8 × Int), (PL.ClampedOK x i.fst ∧ PL.CapOK (↑i.fst.length : Int) i.snd) ∧ False) ∧ (∀ (i :
    Unit), True → ar.lt 0 (ar.slen x) ∧ ∀ (z : Int), z = ar.sget x 0 → ∀ (z_1 : Int), z_1 = ar.wrap IntKind.i64 z → ∀ (z : Int), z = ar.wrap IntKind.u8 z_1 → ∀ (c : Int), ar.le 1 c
    → (∃ (j : Unit), True ∧ Nat.lt 17 17 ∧ False) ∨ ∃ (j : List UInt8 × Int), (PL.ClampedOK x j.fst ∧ PL.CapOK (↑j.fst.length : Int) j.snd) ∧ (Nat.sub 16 j.fst.length).lt 17 ∧ x =
    x ∧ ([] : List UInt8) = [] ∧ 1 = (↑j.fst.length : Int) ∧ c = j.snd ∧ 1 = (↑j.fst.length : Int) ∧ c = j.snd ∧ [z] = PL.ints j.fst ∧ True) ∧ ∀ (i : List UInt8 × Int),
    PL.ClampedOK x i.fst ∧ PL.CapOK (↑i.fst.length : Int) i.snd → (ar.lt (↑i.fst.length : Int) 16 → ar.le 0 (↑i.fst.length : Int) ∧ ar.lt (↑i.fst.length : Int) (ar.slen x) ∧ ∀ (z :
    Int), z = ar.sget x (↑i.fst.length : Int) → ∀ (z_1 : Int), z_1 = ar.wrap IntKind.i64 z → ∀ (z : Int), z = ar.rem (↑i.fst.length : Int) 4 → (ar.eq z 3 → ∀ (z : Int), z = ar.rem
    z_1 16 → ∀ (z_2 : Int), z_2 = ar.rem (↑i.fst.length : Int) 4 → (ar.eq z_2 0 → (ar.lt 0 (↑i.fst.length : Int) → ∀ (z_3 : Int), z_3 = ar.wrap IntKind.i64 (ar.quo z 4) → ∀ (z :
    Int), z = ar.wrap IntKind.i64 (ar.mul z_3 4) → ∀ (z_4 : Int), z_4 = ar.wrap IntKind.u8 z → ar.le (ar.add 0 (↑i.fst.length : Int)) (ar.ilen (PL.ints i.fst)) ∧ i.snd = i.snd ∧
    ar.le (ar.mul (ar.add (↑i.fst.length : Int) 1) 1) 140737488355328 ∧ ∀ (c : Int), ar.le (ar.add (↑i.fst.length : Int) 1) c → ∀ (z : Int), z = ar.wrap IntKind.i64 (ar.add
    (↑i.fst.length : Int) 1) → (∃ (j : Unit), True ∧ Nat.lt 17 (Nat.sub 16 i.fst.length) ∧ False) ∨ ∃ (j : List UInt8 × Int), (PL.ClampedOK x j.fst ∧ PL.CapOK (↑j.fst.length : Int)
    j.snd) ∧ (Nat.sub 16 j.fst.length).lt (Nat.sub 16 i.fst.length) ∧ x = x ∧ ([] : List UInt8) = [] ∧ ar.add (↑i.fst.length : Int) 1 = (↑j.fst.length : Int) ∧ c = j.snd ∧ z =
    (↑j.fst.length : Int) ∧ c = j.snd ∧ ar.iapp (ar.isub (PL.ints i.fst) 0 (↑i.fst.length : Int)) [z_4] = PL.ints j.fst ∧ True) ∧ (¬ar.lt 0 (↑i.fst.length : Int) → ∀ (z_3 : Int),
    z_3 = ar.wrap IntKind.u8 z → ar.le (ar.add 0 (↑i.fst.length : Int)) (ar.ilen (PL.ints i.fst)) ∧ i.snd = i.snd ∧ ar.le (ar.mul (ar.add (↑i.fst.length : Int) 1) 1)
    140737488355328 ∧ ∀ (c : Int), ar.le (ar.add (↑i.fst.length : Int) 1) c → ∀ (z : Int), z = ar.wrap IntKind.i64 (ar.add (↑i.fst.length : Int) 1) → (∃ (j : Unit), True ∧ Nat.lt
    17 (Nat.sub 16 i.fst.length) ∧ False) ∨ ∃ (j : List UInt8 × Int), (PL.ClampedOK x j.fst ∧ PL.CapOK (↑j.fst.length : Int) j.snd) ∧ (Nat.sub 16 j.fst.length).lt (Nat.sub 16
    i.fst.length) ∧ x = x ∧ ([] : List UInt8) = [] ∧ ar.add (↑i.fst.length : Int) 1 = (↑j.fst.length : Int) ∧ c = j.snd ∧ z = (↑j.fst.length : Int) ∧ c = j.snd ∧ ar.iapp (ar.isub
    (PL.ints i.fst) 0 (↑i.fst.length : Int)) [z_3] = PL.ints j.fst ∧ True)) ∧ (¬ar.eq z_2 0 → ∀ (z_3 : Int), z_3 = ar.wrap IntKind.u8 z → ar.le (ar.add 0 (↑i.fst.length : Int))
    (ar.ilen (PL.ints i.fst)) ∧ i.snd = i.snd ∧ ar.le (ar.mul (ar.add (↑i.fst.length : Int) 1) 1) 140737488355328 ∧ ∀ (c : Int), ar.le (ar.add (↑i.fst.length : Int) 1) c → ∀ (z :
    Int), z = ar.wrap IntKind.i64 (ar.add (↑i.fst.length : Int) 1) → (∃ (j : Unit), True ∧ Nat.lt 17 (Nat.sub 16 i.fst.length) ∧ False) ∨ ∃ (j : List UInt8 × Int), (PL.ClampedOK x
    j.fst ∧ PL.CapOK (↑j.fst.length : Int) j.snd) ∧ (Nat.sub 16 j.fst.length).lt (Nat.sub 16 i.fst.length) ∧ x = x ∧ ([] : List UInt8) = [] ∧ ar.add (↑i.fst.length : Int) 1 =
    (↑j.fst.length : Int) ∧ c = j.snd ∧ z = (↑j.fst.length : Int) ∧ c = j.snd ∧ ar.iapp (ar.isub (PL.ints i.fst) 0 (↑i.fst.length : Int)) [z_3] = PL.ints j.fst ∧ True)) ∧ (¬ar.eq z
    3 → ∀ (z : Int), z = ar.rem (↑i.fst.length : Int) 4 → (ar.eq z 0 → (ar.lt 0 (↑i.fst.length : Int) → ∀ (z : Int), z = ar.wrap IntKind.i64 (ar.quo z_1 4) → ∀ (z_2 : Int), z_2 =
    ar.wrap IntKind.i64 (ar.mul z 4) → ∀ (z : Int), z = ar.wrap IntKind.u8 z_2 → ar.le (ar.add 0 (↑i.fst.length : Int)) (ar.ilen (PL.ints i.fst)) ∧ i.snd = i.snd ∧ ar.le (ar.mul
    (ar.add (↑i.fst.length : Int) 1) 1) 140737488355328 ∧ ∀ (c : Int), ar.le (ar.add (↑i.fst.length : Int) 1) c → ∀ (z_3 : Int), z_3 = ar.wrap IntKind.i64 (ar.add (↑i.fst.length :
    Int) 1) → (∃ (j : Unit), True ∧ Nat.lt 17 (Nat.sub 16 i.fst.length) ∧ False) ∨ ∃ (j : List UInt8 × Int), (PL.ClampedOK x j.fst ∧ PL.CapOK (↑j.fst.length : Int) j.snd) ∧
    (Nat.sub 16 j.fst.length).lt (Nat.sub 16 i.fst.length) ∧ x = x ∧ ([] : List UInt8) = [] ∧ ar.add (↑i.fst.length : Int) 1 = (↑j.fst.length : Int) ∧ c = j.snd ∧ z_3 =
    (↑j.fst.length : Int) ∧ c = j.snd ∧ ar.iapp (ar.isub (PL.ints i.fst) 0 (↑i.fst.length : Int)) [z] = PL.ints j.fst ∧ True) ∧ (¬ar.lt 0 (↑i.fst.length : Int) → ∀ (z : Int), z =
    ar.wrap IntKind.u8 z_1 → ar.le (ar.add 0 (↑i.fst.length : Int)) (ar.ilen (PL.ints i.fst)) ∧ i.snd = i.snd ∧ ar.le (ar.mul (ar.add (↑i.fst.length : Int) 1) 1) 140737488355328 ∧
    ∀ (c : Int), ar.le (ar.add (↑i.fst.length : Int) 1) c → ∀ (z_2 : Int), z_2 = ar.wrap IntKind.i64 (ar.add (↑i.fst.length : Int) 1) → (∃ (j : Unit), True ∧ Nat.lt 17 (Nat.sub 16
    i.fst.length) ∧ False) ∨ ∃ (j : List UInt8 × Int), (PL.ClampedOK x j.fst ∧ PL.CapOK (↑j.fst.length : Int) j.snd) ∧ (Nat.sub 16 j.fst.length).lt (Nat.sub 16 i.fst.length) ∧ x =
    x ∧ ([] : List UInt8) = [] ∧ ar.add (↑i.fst.length : Int) 1 = (↑j.fst.length : Int) ∧ c = j.snd ∧ z_2 = (↑j.fst.length : Int) ∧ c = j.snd ∧ ar.iapp (ar.isub (PL.ints i.fst) 0
    (↑i.fst.length : Int)) [z] = PL.ints j.fst ∧ True)) ∧ (¬ar.eq z 0 → ∀ (z : Int), z = ar.wrap IntKind.u8 z_1 → ar.le (ar.add 0 (↑i.fst.length : Int)) (ar.ilen (PL.ints i.fst)) ∧
    i.snd = i.snd ∧ ar.le (ar.mul (ar.add (↑i.fst.length : Int) 1) 1) 140737488355328 ∧ ∀ (c : Int), ar.le (ar.add (↑i.fst.length : Int) 1) c → ∀ (z_2 : Int), z_2 = ar.wrap
    IntKind.i64 (ar.add (↑i.fst.length : Int) 1) → (∃ (j : Unit), True ∧ Nat.lt 17 (Nat.sub 16 i.fst.length) ∧ False) ∨ ∃ (j : List UInt8 × Int), (PL.ClampedOK x j.fst ∧ PL.CapOK
    (↑j.fst.length : Int) j.snd) ∧ (Nat.sub 16 j.fst.length).lt (Nat.sub 16 i.fst.length) ∧ x = x ∧ ([] : List UInt8) = [] ∧ ar.add (↑i.fst.length : Int) 1 = (↑j.fst.length : Int)
    ∧ c = j.snd ∧ z_2 = (↑j.fst.length : Int) ∧ c = j.snd ∧ ar.iapp (ar.isub (PL.ints i.fst) 0 (↑i.fst.length : Int)) [z] = PL.ints j.fst ∧ True))) ∧ (¬ar.lt (↑i.fst.length : Int)
    16 → ar.le 0 0 ∧ ar.le (ar.add 0 (↑i.fst.length : Int)) (ar.ilen (PL.ints i.fst)) ∧ ∀ (t : List UInt8), t = ar.bytes (ar.isub (PL.ints i.fst) 0 (↑i.fst.length : Int)) → ∃ (y :
    Unit), True ∧ t = PL.clampS x ∧ True)) := by
  kernel_rfl
end Go.Eng


/- Poly: walks. -/
set_option linter.unusedVariables false
set_option linter.unusedSectionVars false
namespace Go.Eng
variable [CW : CWorld]
open Go.Proofs
open Go.PL (L5 MacS)
set_option maxRecDepth 100000
theorem vc33 (ar : AR) (x : List Int) : (run ar PP r33 (refInvs x [] []) 1000 33 0 (Try.f33.body.getD .skip) ([.agg (aggN x)] ++ List.replicate (Try.f33.ntmps - 1) .any) [] (endCall ar PP Try.f33.results.toList (moduloSpec.fin x))) = (
    ∃ (x_1 : List Int), x.getD 0 0 = x_1.getD 0 0 ∧ x.getD 1 0 = x_1.getD 1 0 ∧ x.getD 2 0 = x_1.getD 2 0 ∧ x.getD 3 0 = x_1.getD 3 0 ∧ x.getD 4 0 = x_1.getD 4 0 ∧ x.getD 5 0 =
    x_1.getD 5 0 ∧ x.getD 6 0 = x_1.getD 6 0 ∧ x.getD 7 0 = x_1.getD 7 0 ∧ x.getD 8 0 = x_1.getD 8 0 ∧ x.getD 9 0 = x_1.getD 9 0 ∧ x.getD 10 0 = x_1.getD 10 0 ∧ x.getD 11 0 =
    x_1.getD 11 0 ∧ x.getD 12 0 = x_1.getD 12 0 ∧ x.getD 13 0 = x_1.getD 13 0 ∧ x.getD 14 0 = x_1.getD 14 0 ∧ x.getD 15 0 = x_1.getD 15 0 ∧ x.getD 16 0 = x_1.getD 16 0 ∧ x.getD 17
    0 = x_1.getD 17 0 ∧ x.getD 18 0 = x_1.getD 18 0 ∧ x.getD 19 0 = x_1.getD 19 0 ∧ x.getD 20 0 = x_1.getD 20 0 ∧ x.getD 21 0 = x_1.getD 21 0 ∧ x.getD 22 0 = x_1.getD 22 0 ∧ x.getD
    23 0 = x_1.getD 23 0 ∧ PL.Num x_1 ∧ ∀ (y : List Int × List Int), PL.partedPost x_1 y.fst y.snd → (∃ (i : List Int × List Int × List Int), PL.ModOK x i.fst i.2.fst i.2.snd ∧
    x.getD 0 0 = x.getD 0 0 ∧ x.getD 1 0 = x.getD 1 0 ∧ x.getD 2 0 = x.getD 2 0 ∧ x.getD 3 0 = x.getD 3 0 ∧ x.getD 4 0 = x.getD 4 0 ∧ x.getD 5 0 = x.getD 5 0 ∧ x.getD 6 0 = x.getD
    6 0 ∧ x.getD 7 0 = x.getD 7 0 ∧ x.getD 8 0 = x.getD 8 0 ∧ x.getD 9 0 = x.getD 9 0 ∧ x.getD 10 0 = x.getD 10 0 ∧ x.getD 11 0 = x.getD 11 0 ∧ x.getD 12 0 = x.getD 12 0 ∧ x.getD
    13 0 = x.getD 13 0 ∧ x.getD 14 0 = x.getD 14 0 ∧ x.getD 15 0 = x.getD 15 0 ∧ x.getD 16 0 = x.getD 16 0 ∧ x.getD 17 0 = x.getD 17 0 ∧ x.getD 18 0 = x.getD 18 0 ∧ x.getD 19 0 =
    x.getD 19 0 ∧ x.getD 20 0 = x.getD 20 0 ∧ x.getD 21 0 = x.getD 21 0 ∧ x.getD 22 0 = x.getD 22 0 ∧ x.getD 23 0 = x.getD 23 0 ∧ y.fst.getD 0 0 = y.fst.getD 0 0 ∧ y.fst.getD 1 0 =
    y.fst.getD 1 0 ∧ y.fst.getD 2 0 = y.fst.getD 2 0 ∧ y.fst.getD 3 0 = y.fst.getD 3 0 ∧ y.fst.getD 4 0 = y.fst.getD 4 0 ∧ y.fst.getD 5 0 = y.fst.getD 5 0 ∧ y.fst.getD 6 0 =
    y.fst.getD 6 0 ∧ y.fst.getD 7 0 = y.fst.getD 7 0 ∧ y.fst.getD 8 0 = y.fst.getD 8 0 ∧ y.fst.getD 9 0 = y.fst.getD 9 0 ∧ y.fst.getD 10 0 = y.fst.getD 10 0 ∧ y.fst.getD 11 0 =
    y.fst.getD 11 0 ∧ y.fst.getD 12 0 = y.fst.getD 12 0 ∧ y.fst.getD 13 0 = y.fst.getD 13 0 ∧ y.fst.getD 14 0 = y.fst.getD 14 0 ∧ y.fst.getD 15 0 = y.fst.getD 15 0 ∧ y.fst.getD 16
    0 = y.fst.getD 16 0 ∧ y.fst.getD 17 0 = y.fst.getD 17 0 ∧ y.fst.getD 18 0 = y.fst.getD 18 0 ∧ y.fst.getD 19 0 = y.fst.getD 19 0 ∧ y.fst.getD 20 0 = y.fst.getD 20 0 ∧ y.fst.getD
    21 0 = y.fst.getD 21 0 ∧ y.fst.getD 22 0 = y.fst.getD 22 0 ∧ y.fst.getD 23 0 = y.fst.getD 23 0 ∧ y.snd.getD 0 0 = y.snd.getD 0 0 ∧ y.snd.getD 1 0 = y.snd.getD 1 0 ∧ y.snd.getD
    2 0 = y.snd.getD 2 0 ∧ y.snd.getD 3 0 = y.snd.getD 3 0 ∧ y.snd.getD 4 0 = y.snd.getD 4 0 ∧ y.snd.getD 5 0 = y.snd.getD 5 0 ∧ y.snd.getD 6 0 = y.snd.getD 6 0 ∧ y.snd.getD 7 0 =
    y.snd.getD 7 0 ∧ y.snd.getD 8 0 = y.snd.getD 8 0 ∧ y.snd.getD 9 0 = y.snd.getD 9 0 ∧ y.snd.getD 10 0 = y.snd.getD 10 0 ∧ y.snd.getD 11 0 = y.snd.getD 11 0 ∧ y.snd.getD 12 0 =
    y.snd.getD 12 0 ∧ y.snd.getD 13 0 = y.snd.getD 13 0 ∧ y.snd.getD 14 0 = y.snd.getD 14 0 ∧ y.snd.getD 15 0 = y.snd.getD 15 0 ∧ y.snd.getD 16 0 = y.snd.getD 16 0 ∧ y.snd.getD 17
    0 = y.snd.getD 17 0 ∧ y.snd.getD 18 0 = y.snd.getD 18 0 ∧ y.snd.getD 19 0 = y.snd.getD 19 0 ∧ y.snd.getD 20 0 = y.snd.getD 20 0 ∧ y.snd.getD 21 0 = y.snd.getD 21 0 ∧ y.snd.getD
    22 0 = y.snd.getD 22 0 ∧ y.snd.getD 23 0 = y.snd.getD 23 0 ∧ x.getD 0 0 = x.getD 0 0 ∧ x.getD 1 0 = x.getD 1 0 ∧ x.getD 2 0 = x.getD 2 0 ∧ x.getD 3 0 = x.getD 3 0 ∧ x.getD 4 0
    = x.getD 4 0 ∧ x.getD 5 0 = x.getD 5 0 ∧ x.getD 6 0 = x.getD 6 0 ∧ x.getD 7 0 = x.getD 7 0 ∧ x.getD 8 0 = x.getD 8 0 ∧ x.getD 9 0 = x.getD 9 0 ∧ x.getD 10 0 = x.getD 10 0 ∧
    x.getD 11 0 = x.getD 11 0 ∧ x.getD 12 0 = x.getD 12 0 ∧ x.getD 13 0 = x.getD 13 0 ∧ x.getD 14 0 = x.getD 14 0 ∧ x.getD 15 0 = x.getD 15 0 ∧ x.getD 16 0 = x.getD 16 0 ∧ x.getD
    17 0 = x.getD 17 0 ∧ x.getD 18 0 = x.getD 18 0 ∧ x.getD 19 0 = x.getD 19 0 ∧ x.getD 20 0 = x.getD 20 0 ∧ x.getD 21 0 = x.getD 21 0 ∧ x.getD 22 0 = x.getD 22 0 ∧ x.getD 23 0 =
    x.getD 23 0 ∧ y.fst.getD 0 0 = y.fst.getD 0 0 ∧ y.fst.getD 1 0 = y.fst.getD 1 0 ∧ y.fst.getD 2 0 = y.fst.getD 2 0 ∧ y.fst.getD 3 0 = y.fst.getD 3 0 ∧ y.fst.getD 4 0 =
    y.fst.getD 4 0 ∧ y.fst.getD 5 0 = y.fst.getD 5 0 ∧ y.fst.getD 6 0 = y.fst.getD 6 0 ∧ y.fst.getD 7 0 = y.fst.getD 7 0 ∧ y.fst.getD 8 0 = y.fst.getD 8 0 ∧ y.fst.getD 9 0 =
    y.fst.getD 9 0 ∧ y.fst.getD 10 0 = y.fst.getD 10 0 ∧ y.fst.getD 11 0 = y.fst.getD 11 0 ∧ y.fst.getD 12 0 = y.fst.getD 12 0 ∧ y.fst.getD 13 0 = y.fst.getD 13 0 ∧ y.fst.getD 14 0
    = y.fst.getD 14 0 ∧ y.fst.getD 15 0 = y.fst.getD 15 0 ∧ y.fst.getD 16 0 = y.fst.getD 16 0 ∧ y.fst.getD 17 0 = y.fst.getD 17 0 ∧ y.fst.getD 18 0 = y.fst.getD 18 0 ∧ y.fst.getD
    19 0 = y.fst.getD 19 0 ∧ y.fst.getD 20 0 = y.fst.getD 20 0 ∧ y.fst.getD 21 0 = y.fst.getD 21 0 ∧ y.fst.getD 22 0 = y.fst.getD 22 0 ∧ y.fst.getD 23 0 = y.fst.getD 23 0 ∧
    y.snd.getD 0 0 = y.snd.getD 0 0 ∧ y.snd.getD 1 0 = y.snd.getD 1 0 ∧ y.snd.getD 2 0 = y.snd.getD 2 0 ∧ y.snd.getD 3 0 = y.snd.getD 3 0 ∧ y.snd.getD 4 0 = y.snd.getD 4 0 ∧
    y.snd.getD 5 0 = y.snd.getD 5 0 ∧ y.snd.getD 6 0 = y.snd.getD 6 0 ∧ y.snd.getD 7 0 = y.snd.getD 7 0 ∧ y.snd.getD 8 0 = y.snd.getD 8 0 ∧ y.snd.getD 9 0 = y.snd.getD 9 0 ∧
    y.snd.getD 10 0 = y.snd.getD 10 0 ∧ y.snd.getD 11 0 = y.snd.getD 11 0 ∧ y.snd.getD 12 0 = y.snd.getD 12 0 ∧ y.snd.getD 13 0 = y.snd.getD 13 0 ∧ y.snd.getD 14 0 = y.snd.getD 14
    0 ∧ y.snd.getD 15 0 = y.snd.getD 15 0 ∧ y.snd.getD 16 0 = y.snd.getD 16 0 ∧ y.snd.getD 17 0 = y.snd.getD 17 0 ∧ y.snd.getD 18 0 = y.snd.getD 18 0 ∧ y.snd.getD 19 0 = y.snd.getD
    19 0 ∧ y.snd.getD 20 0 = y.snd.getD 20 0 ∧ y.snd.getD 21 0 = y.snd.getD 21 0 ∧ y.snd.getD 22 0 = y.snd.getD 22 0 ∧ y.snd.getD 23 0 = y.snd.getD 23 0 ∧ y.fst.getD 0 0 =
    y.fst.getD 0 0 ∧ y.fst.getD 1 0 = y.fst.getD 1 0 ∧ y.fst.getD 2 0 = y.fst.getD 2 0 ∧ y.fst.getD 3 0 = y.fst.getD 3 0 ∧ y.fst.getD 4 0 = y.fst.getD 4 0 ∧ y.fst.getD 5 0 =
    y.fst.getD 5 0 ∧ y.fst.getD 6 0 = y.fst.getD 6 0 ∧ y.fst.getD 7 0 = y.fst.getD 7 0 ∧ y.fst.getD 8 0 = y.fst.getD 8 0 ∧ y.fst.getD 9 0 = y.fst.getD 9 0 ∧ y.fst.getD 10 0 =
    y.fst.getD 10 0 ∧ y.fst.getD 11 0 = y.fst.getD 11 0 ∧ y.fst.getD 12 0 = y.fst.getD 12 0 ∧ y.fst.getD 13 0 = y.fst.getD 13 0 ∧ y.fst.getD 14 0 = y.fst.getD 14 0 ∧ y.fst.getD 15
    0 = y.fst.getD 15 0 ∧ y.fst.getD 16 0 = y.fst.getD 16 0 ∧ y.fst.getD 17 0 = y.fst.getD 17 0 ∧ y.fst.getD 18 0 = y.fst.getD 18 0 ∧ y.fst.getD 19 0 = y.fst.getD 19 0 ∧ y.fst.getD
    20 0 = y.fst.getD 20 0 ∧ y.fst.getD 21 0 = y.fst.getD 21 0 ∧ y.fst.getD 22 0 = y.fst.getD 22 0 ∧ y.fst.getD 23 0 = y.fst.getD 23 0 ∧ y.snd.getD 0 0 = y.snd.getD 0 0 ∧
    y.snd.getD 1 0 = y.snd.getD 1 0 ∧ y.snd.getD 2 0 = y.snd.getD 2 0 ∧ y.snd.getD 3 0 = y.snd.getD 3 0 ∧ y.snd.getD 4 0 = y.snd.getD 4 0 ∧ y.snd.getD 5 0 = y.snd.getD 5 0 ∧
    y.snd.getD 6 0 = y.snd.getD 6 0 ∧ y.snd.getD 7 0 = y.snd.getD 7 0 ∧ y.snd.getD 8 0 = y.snd.getD 8 0 ∧ y.snd.getD 9 0 = y.snd.getD 9 0 ∧ y.snd.getD 10 0 = y.snd.getD 10 0 ∧
    y.snd.getD 11 0 = y.snd.getD 11 0 ∧ y.snd.getD 12 0 = y.snd.getD 12 0 ∧ y.snd.getD 13 0 = y.snd.getD 13 0 ∧ y.snd.getD 14 0 = y.snd.getD 14 0 ∧ y.snd.getD 15 0 = y.snd.getD 15
    0 ∧ y.snd.getD 16 0 = y.snd.getD 16 0 ∧ y.snd.getD 17 0 = y.snd.getD 17 0 ∧ y.snd.getD 18 0 = y.snd.getD 18 0 ∧ y.snd.getD 19 0 = y.snd.getD 19 0 ∧ y.snd.getD 20 0 = y.snd.getD
    20 0 ∧ y.snd.getD 21 0 = y.snd.getD 21 0 ∧ y.snd.getD 22 0 = y.snd.getD 22 0 ∧ y.snd.getD 23 0 = y.snd.getD 23 0 ∧ [x.getD 0 0, x.getD 1 0, x.getD 2 0, x.getD 3 0, x.getD 4 0,
    x.getD 5 0, x.getD 6 0, x.getD 7 0, x.getD 8 0, x.getD 9 0, x.getD 10 0, x.getD 11 0, x.getD 12 0, x.getD 13 0, x.getD 14 0, x.getD 15 0, x.getD 16 0, x.getD 17 0, x.getD 18 0,
    x.getD 19 0, x.getD 20 0, x.getD 21 0, x.getD 22 0, x.getD 23 0] = i.fst ∧ [y.fst.getD 0 0, y.fst.getD 1 0, y.fst.getD 2 0, y.fst.getD 3 0, y.fst.getD 4 0, y.fst.getD 5 0,
    y.fst.getD 6 0, y.fst.getD 7 0, y.fst.getD 8 0, y.fst.getD 9 0, y.fst.getD 10 0, y.fst.getD 11 0, y.fst.getD 12 0, y.fst.getD 13 0, y.fst.getD 14 0, y.fst.getD 15 0, y.fst.getD
    16 0, y.fst.getD 17 0, y.fst.getD 18 0, y.fst.getD 19 0, y.fst.getD 20 0, y.fst.getD 21 0, y.fst.getD 22 0, y.fst.getD 23 0] = i.2.fst ∧ [y.snd.getD 0 0, y.snd.getD 1 0,
    y.snd.getD 2 0, y.snd.getD 3 0, y.snd.getD 4 0, y.snd.getD 5 0, y.snd.getD 6 0, y.snd.getD 7 0, y.snd.getD 8 0, y.snd.getD 9 0, y.snd.getD 10 0, y.snd.getD 11 0, y.snd.getD 12
    0, y.snd.getD 13 0, y.snd.getD 14 0, y.snd.getD 15 0, y.snd.getD 16 0, y.snd.getD 17 0, y.snd.getD 18 0, y.snd.getD 19 0, y.snd.getD 20 0, y.snd.getD 21 0, y.snd.getD 22 0,
    y.snd.getD 23 0] = i.2.snd ∧ True) ∧ ∀ (i : List Int × List Int × List Int), PL.ModOK x i.fst i.2.fst i.2.snd → ar.le 0 0 ∧ ar.lt 0 (ar.ilen i.2.snd) ∧ ar.le 0 1 ∧ ar.lt 1
    (ar.ilen i.2.snd) ∧ ar.le 0 2 ∧ ar.lt 2 (ar.ilen i.2.snd) ∧ ar.le 0 3 ∧ ar.lt 3 (ar.ilen i.2.snd) ∧ ar.le 0 4 ∧ ar.lt 4 (ar.ilen i.2.snd) ∧ ar.le 0 5 ∧ ar.lt 5 (ar.ilen
    i.2.snd) ∧ ar.le 0 6 ∧ ar.lt 6 (ar.ilen i.2.snd) ∧ ar.le 0 7 ∧ ar.lt 7 (ar.ilen i.2.snd) ∧ ar.le 0 8 ∧ ar.lt 8 (ar.ilen i.2.snd) ∧ ar.le 0 9 ∧ ar.lt 9 (ar.ilen i.2.snd) ∧ ar.le
    0 10 ∧ ar.lt 10 (ar.ilen i.2.snd) ∧ ar.le 0 11 ∧ ar.lt 11 (ar.ilen i.2.snd) ∧ ar.le 0 12 ∧ ar.lt 12 (ar.ilen i.2.snd) ∧ ar.le 0 13 ∧ ar.lt 13 (ar.ilen i.2.snd) ∧ ar.le 0 14 ∧
    ar.lt 14 (ar.ilen i.2.snd) ∧ ar.le 0 15 ∧ ar.lt 15 (ar.ilen i.2.snd) ∧ ar.le 0 16 ∧ ar.lt 16 (ar.ilen i.2.snd) ∧ ar.le 0 17 ∧ ar.lt 17 (ar.ilen i.2.snd) ∧ ar.le 0 18 ∧ ar.lt 18
    (ar.ilen i.2.snd) ∧ ar.le 0 19 ∧ ar.lt 19 (ar.ilen i.2.snd) ∧ ar.le 0 20 ∧ ar.lt 20 (ar.ilen i.2.snd) ∧ ar.le 0 21 ∧ ar.lt 21 (ar.ilen i.2.snd) ∧ ar.le 0 22 ∧ ar.lt 22 (ar.ilen
    i.2.snd) ∧ ar.le 0 23 ∧ ar.lt 23 (ar.ilen i.2.snd) ∧ ∃ (x_2 : List Int), ar.iget i.2.snd 0 = x_2.getD 0 0 ∧ ar.iget i.2.snd 1 = x_2.getD 1 0 ∧ ar.iget i.2.snd 2 = x_2.getD 2 0
    ∧ ar.iget i.2.snd 3 = x_2.getD 3 0 ∧ ar.iget i.2.snd 4 = x_2.getD 4 0 ∧ ar.iget i.2.snd 5 = x_2.getD 5 0 ∧ ar.iget i.2.snd 6 = x_2.getD 6 0 ∧ ar.iget i.2.snd 7 = x_2.getD 7 0 ∧
    ar.iget i.2.snd 8 = x_2.getD 8 0 ∧ ar.iget i.2.snd 9 = x_2.getD 9 0 ∧ ar.iget i.2.snd 10 = x_2.getD 10 0 ∧ ar.iget i.2.snd 11 = x_2.getD 11 0 ∧ ar.iget i.2.snd 12 = x_2.getD 12
    0 ∧ ar.iget i.2.snd 13 = x_2.getD 13 0 ∧ ar.iget i.2.snd 14 = x_2.getD 14 0 ∧ ar.iget i.2.snd 15 = x_2.getD 15 0 ∧ ar.iget i.2.snd 16 = x_2.getD 16 0 ∧ ar.iget i.2.snd 17 =
    x_2.getD 17 0 ∧ ar.iget i.2.snd 18 = x_2.getD 18 0 ∧ ar.iget i.2.snd 19 = x_2.getD 19 0 ∧ ar.iget i.2.snd 20 = x_2.getD 20 0 ∧ ar.iget i.2.snd 21 = x_2.getD 21 0 ∧ ar.iget
    i.2.snd 22 = x_2.getD 22 0 ∧ ar.iget i.2.snd 23 = x_2.getD 23 0 ∧ PL.Num x_2 ∧ ∀ (y_1 : Unit), True → (¬PL.b16 x_2 = 0 → ar.le 0 0 ∧ ar.lt 0 (ar.ilen i.2.fst) ∧ ar.le 0 1 ∧
    ar.lt 1 (ar.ilen i.2.fst) ∧ ar.le 0 2 ∧ ar.lt 2 (ar.ilen i.2.fst) ∧ ar.le 0 3 ∧ ar.lt 3 (ar.ilen i.2.fst) ∧ ar.le 0 4 ∧ ar.lt 4 (ar.ilen i.2.fst) ∧ ar.le 0 5 ∧ ar.lt 5 (ar.ilen
    i.2.fst) ∧ ar.le 0 6 ∧ ar.lt 6 (ar.ilen i.2.fst) ∧ ar.le 0 7 ∧ ar.lt 7 (ar.ilen i.2.fst) ∧ ar.le 0 8 ∧ ar.lt 8 (ar.ilen i.2.fst) ∧ ar.le 0 9 ∧ ar.lt 9 (ar.ilen i.2.fst) ∧ ar.le
    0 10 ∧ ar.lt 10 (ar.ilen i.2.fst) ∧ ar.le 0 11 ∧ ar.lt 11 (ar.ilen i.2.fst) ∧ ar.le 0 12 ∧ ar.lt 12 (ar.ilen i.2.fst) ∧ ar.le 0 13 ∧ ar.lt 13 (ar.ilen i.2.fst) ∧ ar.le 0 14 ∧
    ar.lt 14 (ar.ilen i.2.fst) ∧ ar.le 0 15 ∧ ar.lt 15 (ar.ilen i.2.fst) ∧ ar.le 0 16 ∧ ar.lt 16 (ar.ilen i.2.fst) ∧ ar.le 0 17 ∧ ar.lt 17 (ar.ilen i.2.fst) ∧ ar.le 0 18 ∧ ar.lt 18
    (ar.ilen i.2.fst) ∧ ar.le 0 19 ∧ ar.lt 19 (ar.ilen i.2.fst) ∧ ar.le 0 20 ∧ ar.lt 20 (ar.ilen i.2.fst) ∧ ar.le 0 21 ∧ ar.lt 21 (ar.ilen i.2.fst) ∧ ar.le 0 22 ∧ ar.lt 22 (ar.ilen
    i.2.fst) ∧ ar.le 0 23 ∧ ar.lt 23 (ar.ilen i.2.fst) ∧ ar.le 0 0 ∧ ar.lt 0 (ar.ilen i.2.snd) ∧ ar.le 0 1 ∧ ar.lt 1 (ar.ilen i.2.snd) ∧ ar.le 0 2 ∧ ar.lt 2 (ar.ilen i.2.snd) ∧
    ar.le 0 3 ∧ ar.lt 3 (ar.ilen i.2.snd) ∧ ar.le 0 4 ∧ ar.lt 4 (ar.ilen i.2.snd) ∧ ar.le 0 5 ∧ ar.lt 5 (ar.ilen i.2.snd) ∧ ar.le 0 6 ∧ ar.lt 6 (ar.ilen i.2.snd) ∧ ar.le 0 7 ∧
    ar.lt 7 (ar.ilen i.2.snd) ∧ ar.le 0 8 ∧ ar.lt 8 (ar.ilen i.2.snd) ∧ ar.le 0 9 ∧ ar.lt 9 (ar.ilen i.2.snd) ∧ ar.le 0 10 ∧ ar.lt 10 (ar.ilen i.2.snd) ∧ ar.le 0 11 ∧ ar.lt 11
    (ar.ilen i.2.snd) ∧ ar.le 0 12 ∧ ar.lt 12 (ar.ilen i.2.snd) ∧ ar.le 0 13 ∧ ar.lt 13 (ar.ilen i.2.snd) ∧ ar.le 0 14 ∧ ar.lt 14 (ar.ilen i.2.snd) ∧ ar.le 0 15 ∧ ar.lt 15 (ar.ilen
    i.2.snd) ∧ ar.le 0 16 ∧ ar.lt 16 (ar.ilen i.2.snd) ∧ ar.le 0 17 ∧ ar.lt 17 (ar.ilen i.2.snd) ∧ ar.le 0 18 ∧ ar.lt 18 (ar.ilen i.2.snd) ∧ ar.le 0 19 ∧ ar.lt 19 (ar.ilen i.2.snd)
    ∧ ar.le 0 20 ∧ ar.lt 20 (ar.ilen i.2.snd) ∧ ar.le 0 21 ∧ ar.lt 21 (ar.ilen i.2.snd) ∧ ar.le 0 22 ∧ ar.lt 22 (ar.ilen i.2.snd) ∧ ar.le 0 23 ∧ ar.lt 23 (ar.ilen i.2.snd) ∧ ∃ (x_3
    : List Int), ar.iget i.2.snd 0 = x_3.getD 0 0 ∧ ar.iget i.2.snd 1 = x_3.getD 1 0 ∧ ar.iget i.2.snd 2 = x_3.getD 2 0 ∧ ar.iget i.2.snd 3 = x_3.getD 3 0 ∧ ar.iget i.2.snd 4 =
    x_3.getD 4 0 ∧ ar.iget i.2.snd 5 = x_3.getD 5 0 ∧ ar.iget i.2.snd 6 = x_3.getD 6 0 ∧ ar.iget i.2.snd 7 = x_3.getD 7 0 ∧ ar.iget i.2.snd 8 = x_3.getD 8 0 ∧ ar.iget i.2.snd 9 =
    x_3.getD 9 0 ∧ ar.iget i.2.snd 10 = x_3.getD 10 0 ∧ ar.iget i.2.snd 11 = x_3.getD 11 0 ∧ ar.iget i.2.snd 12 = x_3.getD 12 0 ∧ ar.iget i.2.snd 13 = x_3.getD 13 0 ∧ ar.iget
    i.2.snd 14 = x_3.getD 14 0 ∧ ar.iget i.2.snd 15 = x_3.getD 15 0 ∧ ar.iget i.2.snd 16 = x_3.getD 16 0 ∧ ar.iget i.2.snd 17 = x_3.getD 17 0 ∧ ar.iget i.2.snd 18 = x_3.getD 18 0 ∧
    ar.iget i.2.snd 19 = x_3.getD 19 0 ∧ ar.iget i.2.snd 20 = x_3.getD 20 0 ∧ ar.iget i.2.snd 21 = x_3.getD 21 0 ∧ ar.iget i.2.snd 22 = x_3.getD 22 0 ∧ ar.iget i.2.snd 23 =
    x_3.getD 23 0 ∧ PL.Num x_3 ∧ ∀ (y_2 : List Int), PL.fivePost x_3 y_2 → ∃ (x_4 : List Int × List Int), ar.iget i.2.fst 0 = x_4.fst.getD 0 0 ∧ ar.iget i.2.fst 1 = x_4.fst.getD 1
    0 ∧ ar.iget i.2.fst 2 = x_4.fst.getD 2 0 ∧ ar.iget i.2.fst 3 = x_4.fst.getD 3 0 ∧ ar.iget i.2.fst 4 = x_4.fst.getD 4 0 ∧ ar.iget i.2.fst 5 = x_4.fst.getD 5 0 ∧ ar.iget i.2.fst
    6 = x_4.fst.getD 6 0 ∧ ar.iget i.2.fst 7 = x_4.fst.getD 7 0 ∧ ar.iget i.2.fst 8 = x_4.fst.getD 8 0 ∧ ar.iget i.2.fst 9 = x_4.fst.getD 9 0 ∧ ar.iget i.2.fst 10 = x_4.fst.getD 10
    0 ∧ ar.iget i.2.fst 11 = x_4.fst.getD 11 0 ∧ ar.iget i.2.fst 12 = x_4.fst.getD 12 0 ∧ ar.iget i.2.fst 13 = x_4.fst.getD 13 0 ∧ ar.iget i.2.fst 14 = x_4.fst.getD 14 0 ∧ ar.iget
    i.2.fst 15 = x_4.fst.getD 15 0 ∧ ar.iget i.2.fst 16 = x_4.fst.getD 16 0 ∧ ar.iget i.2.fst 17 = x_4.fst.getD 17 0 ∧ ar.iget i.2.fst 18 = x_4.fst.getD 18 0 ∧ ar.iget i.2.fst 19 =
    x_4.fst.getD 19 0 ∧ ar.iget i.2.fst 20 = x_4.fst.getD 20 0 ∧ ar.iget i.2.fst 21 = x_4.fst.getD 21 0 ∧ ar.iget i.2.fst 22 = x_4.fst.getD 22 0 ∧ ar.iget i.2.fst 23 = x_4.fst.getD
    23 0 ∧ y_2.getD 0 0 = x_4.snd.getD 0 0 ∧ y_2.getD 1 0 = x_4.snd.getD 1 0 ∧ y_2.getD 2 0 = x_4.snd.getD 2 0 ∧ y_2.getD 3 0 = x_4.snd.getD 3 0 ∧ y_2.getD 4 0 = x_4.snd.getD 4 0 ∧
    y_2.getD 5 0 = x_4.snd.getD 5 0 ∧ y_2.getD 6 0 = x_4.snd.getD 6 0 ∧ y_2.getD 7 0 = x_4.snd.getD 7 0 ∧ y_2.getD 8 0 = x_4.snd.getD 8 0 ∧ y_2.getD 9 0 = x_4.snd.getD 9 0 ∧
    y_2.getD 10 0 = x_4.snd.getD 10 0 ∧ y_2.getD 11 0 = x_4.snd.getD 11 0 ∧ y_2.getD 12 0 = x_4.snd.getD 12 0 ∧ y_2.getD 13 0 = x_4.snd.getD 13 0 ∧ y_2.getD 14 0 = x_4.snd.getD 14
    0 ∧ y_2.getD 15 0 = x_4.snd.getD 15 0 ∧ y_2.getD 16 0 = x_4.snd.getD 16 0 ∧ y_2.getD 17 0 = x_4.snd.getD 17 0 ∧ y_2.getD 18 0 = x_4.snd.getD 18 0 ∧ y_2.getD 19 0 = x_4.snd.getD
    19 0 ∧ y_2.getD 20 0 = x_4.snd.getD 20 0 ∧ y_2.getD 21 0 = x_4.snd.getD 21 0 ∧ y_2.getD 22 0 = x_4.snd.getD 22 0 ∧ y_2.getD 23 0 = x_4.snd.getD 23 0 ∧ PL.Two x_4.fst x_4.snd ∧
    ∀ (y_3 : List Int), PL.addPost x_4.fst x_4.snd y_3 → ∃ (x_5 : List Int), y_3.getD 0 0 = x_5.getD 0 0 ∧ y_3.getD 1 0 = x_5.getD 1 0 ∧ y_3.getD 2 0 = x_5.getD 2 0 ∧ y_3.getD 3 0
    = x_5.getD 3 0 ∧ y_3.getD 4 0 = x_5.getD 4 0 ∧ y_3.getD 5 0 = x_5.getD 5 0 ∧ y_3.getD 6 0 = x_5.getD 6 0 ∧ y_3.getD 7 0 = x_5.getD 7 0 ∧ y_3.getD 8 0 = x_5.getD 8 0 ∧ y_3.getD
    9 0 = x_5.getD 9 0 ∧ y_3.getD 10 0 = x_5.getD 10 0 ∧ y_3.getD 11 0 = x_5.getD 11 0 ∧ y_3.getD 12 0 = x_5.getD 12 0 ∧ y_3.getD 13 0 = x_5.getD 13 0 ∧ y_3.getD 14 0 = x_5.getD 14
    0 ∧ y_3.getD 15 0 = x_5.getD 15 0 ∧ y_3.getD 16 0 = x_5.getD 16 0 ∧ y_3.getD 17 0 = x_5.getD 17 0 ∧ y_3.getD 18 0 = x_5.getD 18 0 ∧ y_3.getD 19 0 = x_5.getD 19 0 ∧ y_3.getD 20
    0 = x_5.getD 20 0 ∧ y_3.getD 21 0 = x_5.getD 21 0 ∧ y_3.getD 22 0 = x_5.getD 22 0 ∧ y_3.getD 23 0 = x_5.getD 23 0 ∧ PL.Num x_5 ∧ ∀ (y_4 : List Int × List Int), PL.partedPost
    x_5 y_4.fst y_4.snd → ∃ (j : List Int × List Int × List Int), PL.ModOK x j.fst j.2.fst j.2.snd ∧ ((PL.b16 j.2.fst).add (Int.mul 1361129467683753853853498429727072845824 (PL.b16
    j.2.snd))).toNat.lt ((PL.b16 i.2.fst).add (Int.mul 1361129467683753853853498429727072845824 (PL.b16 i.2.snd))).toNat ∧ x.getD 0 0 = x.getD 0 0 ∧ x.getD 1 0 = x.getD 1 0 ∧
    x.getD 2 0 = x.getD 2 0 ∧ x.getD 3 0 = x.getD 3 0 ∧ x.getD 4 0 = x.getD 4 0 ∧ x.getD 5 0 = x.getD 5 0 ∧ x.getD 6 0 = x.getD 6 0 ∧ x.getD 7 0 = x.getD 7 0 ∧ x.getD 8 0 = x.getD
    8 0 ∧ x.getD 9 0 = x.getD 9 0 ∧ x.getD 10 0 = x.getD 10 0 ∧ x.getD 11 0 = x.getD 11 0 ∧ x.getD 12 0 = x.getD 12 0 ∧ x.getD 13 0 = x.getD 13 0 ∧ x.getD 14 0 = x.getD 14 0 ∧
    x.getD 15 0 = x.getD 15 0 ∧ x.getD 16 0 = x.getD 16 0 ∧ x.getD 17 0 = x.getD 17 0 ∧ x.getD 18 0 = x.getD 18 0 ∧ x.getD 19 0 = x.getD 19 0 ∧ x.getD 20 0 = x.getD 20 0 ∧ x.getD
    21 0 = x.getD 21 0 ∧ x.getD 22 0 = x.getD 22 0 ∧ x.getD 23 0 = x.getD 23 0 ∧ y.fst.getD 0 0 = y.fst.getD 0 0 ∧ y.fst.getD 1 0 = y.fst.getD 1 0 ∧ y.fst.getD 2 0 = y.fst.getD 2 0
    ∧ y.fst.getD 3 0 = y.fst.getD 3 0 ∧ y.fst.getD 4 0 = y.fst.getD 4 0 ∧ y.fst.getD 5 0 = y.fst.getD 5 0 ∧ y.fst.getD 6 0 = y.fst.getD 6 0 ∧ y.fst.getD 7 0 = y.fst.getD 7 0 ∧
    y.fst.getD 8 0 = y.fst.getD 8 0 ∧ y.fst.getD 9 0 = y.fst.getD 9 0 ∧ y.fst.getD 10 0 = y.fst.getD 10 0 ∧ y.fst.getD 11 0 = y.fst.getD 11 0 ∧ y.fst.getD 12 0 = y.fst.getD 12 0 ∧
    y.fst.getD 13 0 = y.fst.getD 13 0 ∧ y.fst.getD 14 0 = y.fst.getD 14 0 ∧ y.fst.getD 15 0 = y.fst.getD 15 0 ∧ y.fst.getD 16 0 = y.fst.getD 16 0 ∧ y.fst.getD 17 0 = y.fst.getD 17
    0 ∧ y.fst.getD 18 0 = y.fst.getD 18 0 ∧ y.fst.getD 19 0 = y.fst.getD 19 0 ∧ y.fst.getD 20 0 = y.fst.getD 20 0 ∧ y.fst.getD 21 0 = y.fst.getD 21 0 ∧ y.fst.getD 22 0 = y.fst.getD
    22 0 ∧ y.fst.getD 23 0 = y.fst.getD 23 0 ∧ y.snd.getD 0 0 = y.snd.getD 0 0 ∧ y.snd.getD 1 0 = y.snd.getD 1 0 ∧ y.snd.getD 2 0 = y.snd.getD 2 0 ∧ y.snd.getD 3 0 = y.snd.getD 3 0
    ∧ y.snd.getD 4 0 = y.snd.getD 4 0 ∧ y.snd.getD 5 0 = y.snd.getD 5 0 ∧ y.snd.getD 6 0 = y.snd.getD 6 0 ∧ y.snd.getD 7 0 = y.snd.getD 7 0 ∧ y.snd.getD 8 0 = y.snd.getD 8 0 ∧
    y.snd.getD 9 0 = y.snd.getD 9 0 ∧ y.snd.getD 10 0 = y.snd.getD 10 0 ∧ y.snd.getD 11 0 = y.snd.getD 11 0 ∧ y.snd.getD 12 0 = y.snd.getD 12 0 ∧ y.snd.getD 13 0 = y.snd.getD 13 0
    ∧ y.snd.getD 14 0 = y.snd.getD 14 0 ∧ y.snd.getD 15 0 = y.snd.getD 15 0 ∧ y.snd.getD 16 0 = y.snd.getD 16 0 ∧ y.snd.getD 17 0 = y.snd.getD 17 0 ∧ y.snd.getD 18 0 = y.snd.getD
    18 0 ∧ y.snd.getD 19 0 = y.snd.getD 19 0 ∧ y.snd.getD 20 0 = y.snd.getD 20 0 ∧ y.snd.getD 21 0 = y.snd.getD 21 0 ∧ y.snd.getD 22 0 = y.snd.getD 22 0 ∧ y.snd.getD 23 0 =
    y.snd.getD 23 0 ∧ x.getD 0 0 = x.getD 0 0 ∧ x.getD 1 0 = x.getD 1 0 ∧ x.getD 2 0 = x.getD 2 0 ∧ x.getD 3 0 = x.getD 3 0 ∧ x.getD 4 0 = x.getD 4 0 ∧ x.getD 5 0 = x.getD 5 0 ∧
    x.getD 6 0 = x.getD 6 0 ∧ x.getD 7 0 = x.getD 7 0 ∧ x.getD 8 0 = x.getD 8 0 ∧ x.getD 9 0 = x.getD 9 0 ∧ x.getD 10 0 = x.getD 10 0 ∧ x.getD 11 0 = x.getD 11 0 ∧ x.getD 12 0 =
    x.getD 12 0 ∧ x.getD 13 0 = x.getD 13 0 ∧ x.getD 14 0 = x.getD 14 0 ∧ x.getD 15 0 = x.getD 15 0 ∧ x.getD 16 0 = x.getD 16 0 ∧ x.getD 17 0 = x.getD 17 0 ∧ x.getD 18 0 = x.getD
    18 0 ∧ x.getD 19 0 = x.getD 19 0 ∧ x.getD 20 0 = x.getD 20 0 ∧ x.getD 21 0 = x.getD 21 0 ∧ x.getD 22 0 = x.getD 22 0 ∧ x.getD 23 0 = x.getD 23 0 ∧ y.fst.getD 0 0 = y.fst.getD 0
    0 ∧ y.fst.getD 1 0 = y.fst.getD 1 0 ∧ y.fst.getD 2 0 = y.fst.getD 2 0 ∧ y.fst.getD 3 0 = y.fst.getD 3 0 ∧ y.fst.getD 4 0 = y.fst.getD 4 0 ∧ y.fst.getD 5 0 = y.fst.getD 5 0 ∧
    y.fst.getD 6 0 = y.fst.getD 6 0 ∧ y.fst.getD 7 0 = y.fst.getD 7 0 ∧ y.fst.getD 8 0 = y.fst.getD 8 0 ∧ y.fst.getD 9 0 = y.fst.getD 9 0 ∧ y.fst.getD 10 0 = y.fst.getD 10 0 ∧
    y.fst.getD 11 0 = y.fst.getD 11 0 ∧ y.fst.getD 12 0 = y.fst.getD 12 0 ∧ y.fst.getD 13 0 = y.fst.getD 13 0 ∧ y.fst.getD 14 0 = y.fst.getD 14 0 ∧ y.fst.getD 15 0 = y.fst.getD 15
    0 ∧ y.fst.getD 16 0 = y.fst.getD 16 0 ∧ y.fst.getD 17 0 = y.fst.getD 17 0 ∧ y.fst.getD 18 0 = y.fst.getD 18 0 ∧ y.fst.getD 19 0 = y.fst.getD 19 0 ∧ y.fst.getD 20 0 = y.fst.getD
    20 0 ∧ y.fst.getD 21 0 = y.fst.getD 21 0 ∧ y.fst.getD 22 0 = y.fst.getD 22 0 ∧ y.fst.getD 23 0 = y.fst.getD 23 0 ∧ y.snd.getD 0 0 = y.snd.getD 0 0 ∧ y.snd.getD 1 0 = y.snd.getD
    1 0 ∧ y.snd.getD 2 0 = y.snd.getD 2 0 ∧ y.snd.getD 3 0 = y.snd.getD 3 0 ∧ y.snd.getD 4 0 = y.snd.getD 4 0 ∧ y.snd.getD 5 0 = y.snd.getD 5 0 ∧ y.snd.getD 6 0 = y.snd.getD 6 0 ∧
    y.snd.getD 7 0 = y.snd.getD 7 0 ∧ y.snd.getD 8 0 = y.snd.getD 8 0 ∧ y.snd.getD 9 0 = y.snd.getD 9 0 ∧ y.snd.getD 10 0 = y.snd.getD 10 0 ∧ y.snd.getD 11 0 = y.snd.getD 11 0 ∧
    y.snd.getD 12 0 = y.snd.getD 12 0 ∧ y.snd.getD 13 0 = y.snd.getD 13 0 ∧ y.snd.getD 14 0 = y.snd.getD 14 0 ∧ y.snd.getD 15 0 = y.snd.getD 15 0 ∧ y.snd.getD 16 0 = y.snd.getD 16
    0 ∧ y.snd.getD 17 0 = y.snd.getD 17 0 ∧ y.snd.getD 18 0 = y.snd.getD 18 0 ∧ y.snd.getD 19 0 = y.snd.getD 19 0 ∧ y.snd.getD 20 0 = y.snd.getD 20 0 ∧ y.snd.getD 21 0 = y.snd.getD
    21 0 ∧ y.snd.getD 22 0 = y.snd.getD 22 0 ∧ y.snd.getD 23 0 = y.snd.getD 23 0 ∧ y.fst.getD 0 0 = y.fst.getD 0 0 ∧ y.fst.getD 1 0 = y.fst.getD 1 0 ∧ y.fst.getD 2 0 = y.fst.getD 2
    0 ∧ y.fst.getD 3 0 = y.fst.getD 3 0 ∧ y.fst.getD 4 0 = y.fst.getD 4 0 ∧ y.fst.getD 5 0 = y.fst.getD 5 0 ∧ y.fst.getD 6 0 = y.fst.getD 6 0 ∧ y.fst.getD 7 0 = y.fst.getD 7 0 ∧
    y.fst.getD 8 0 = y.fst.getD 8 0 ∧ y.fst.getD 9 0 = y.fst.getD 9 0 ∧ y.fst.getD 10 0 = y.fst.getD 10 0 ∧ y.fst.getD 11 0 = y.fst.getD 11 0 ∧ y.fst.getD 12 0 = y.fst.getD 12 0 ∧
    y.fst.getD 13 0 = y.fst.getD 13 0 ∧ y.fst.getD 14 0 = y.fst.getD 14 0 ∧ y.fst.getD 15 0 = y.fst.getD 15 0 ∧ y.fst.getD 16 0 = y.fst.getD 16 0 ∧ y.fst.getD 17 0 = y.fst.getD 17
    0 ∧ y.fst.getD 18 0 = y.fst.getD 18 0 ∧ y.fst.getD 19 0 = y.fst.getD 19 0 ∧ y.fst.getD 20 0 = y.fst.getD 20 0 ∧ y.fst.getD 21 0 = y.fst.getD 21 0 ∧ y.fst.getD 22 0 = y.fst.getD
    22 0 ∧ y.fst.getD 23 0 = y.fst.getD 23 0 ∧ y.snd.getD 0 0 = y.snd.getD 0 0 ∧ y.snd.getD 1 0 = y.snd.getD 1 0 ∧ y.snd.getD 2 0 = y.snd.getD 2 0 ∧ y.snd.getD 3 0 = y.snd.getD 3 0
    ∧ y.snd.getD 4 0 = y.snd.getD 4 0 ∧ y.snd.getD 5 0 = y.snd.getD 5 0 ∧ y.snd.getD 6 0 = y.snd.getD 6 0 ∧ y.snd.getD 7 0 = y.snd.getD 7 0 ∧ y.snd.getD 8 0 = y.snd.getD 8 0 ∧
    y.snd.getD 9 0 = y.snd.getD 9 0 ∧ y.snd.getD 10 0 = y.snd.getD 10 0 ∧ y.snd.getD 11 0 = y.snd.getD 11 0 ∧ y.snd.getD 12 0 = y.snd.getD 12 0 ∧ y.snd.getD 13 0 = y.snd.getD 13 0
    ∧ y.snd.getD 14 0 = y.snd.getD 14 0 ∧ y.snd.getD 15 0 = y.snd.getD 15 0 ∧ y.snd.getD 16 0 = y.snd.getD 16 0 ∧ y.snd.getD 17 0 = y.snd.getD 17 0 ∧ y.snd.getD 18 0 = y.snd.getD
    18 0 ∧ y.snd.getD 19 0 = y.snd.getD 19 0 ∧ y.snd.getD 20 0 = y.snd.getD 20 0 ∧ y.snd.getD 21 0 = y.snd.getD 21 0 ∧ y.snd.getD 22 0 = y.snd.getD 22 0 ∧ y.snd.getD 23 0 =
    y.snd.getD 23 0 ∧ [y_3.getD 0 0, y_3.getD 1 0, y_3.getD 2 0, y_3.getD 3 0, y_3.getD 4 0, y_3.getD 5 0, y_3.getD 6 0, y_3.getD 7 0, y_3.getD 8 0, y_3.getD 9 0, y_3.getD 10 0,
    y_3.getD 11 0, y_3.getD 12 0, y_3.getD 13 0, y_3.getD 14 0, y_3.getD 15 0, y_3.getD 16 0, y_3.getD 17 0, y_3.getD 18 0, y_3.getD 19 0, y_3.getD 20 0, y_3.getD 21 0, y_3.getD 22
    0, y_3.getD 23 0] = j.fst ∧ [y_4.fst.getD 0 0, y_4.fst.getD 1 0, y_4.fst.getD 2 0, y_4.fst.getD 3 0, y_4.fst.getD 4 0, y_4.fst.getD 5 0, y_4.fst.getD 6 0, y_4.fst.getD 7 0,
    y_4.fst.getD 8 0, y_4.fst.getD 9 0, y_4.fst.getD 10 0, y_4.fst.getD 11 0, y_4.fst.getD 12 0, y_4.fst.getD 13 0, y_4.fst.getD 14 0, y_4.fst.getD 15 0, y_4.fst.getD 16 0,
    y_4.fst.getD 17 0, y_4.fst.getD 18 0, y_4.fst.getD 19 0, y_4.fst.getD 20 0, y_4.fst.getD 21 0, y_4.fst.getD 22 0, y_4.fst.getD 23 0] = j.2.fst ∧ [y_4.snd.getD 0 0, y_4.snd.getD
    1 0, y_4.snd.getD 2 0, y_4.snd.getD 3 0, y_4.snd.getD 4 0, y_4.snd.getD 5 0, y_4.snd.getD 6 0, y_4.snd.getD 7 0, y_4.snd.getD 8 0, y_4.snd.getD 9 0, y_4.snd.getD 10 0,
    y_4.snd.getD 11 0, y_4.snd.getD 12 0, y_4.snd.getD 13 0, y_4.snd.getD 14 0, y_4.snd.getD 15 0, y_4.snd.getD 16 0, y_4.snd.getD 17 0, y_4.snd.getD 18 0, y_4.snd.getD 19 0,
    y_4.snd.getD 20 0, y_4.snd.getD 21 0, y_4.snd.getD 22 0, y_4.snd.getD 23 0] = j.2.snd ∧ True) ∧ (¬¬PL.b16 x_2 = 0 → ar.le 0 0 ∧ ar.lt 0 (ar.ilen i.2.fst) ∧ ar.le 0 1 ∧ ar.lt 1
    (ar.ilen i.2.fst) ∧ ar.le 0 2 ∧ ar.lt 2 (ar.ilen i.2.fst) ∧ ar.le 0 3 ∧ ar.lt 3 (ar.ilen i.2.fst) ∧ ar.le 0 4 ∧ ar.lt 4 (ar.ilen i.2.fst) ∧ ar.le 0 5 ∧ ar.lt 5 (ar.ilen
    i.2.fst) ∧ ar.le 0 6 ∧ ar.lt 6 (ar.ilen i.2.fst) ∧ ar.le 0 7 ∧ ar.lt 7 (ar.ilen i.2.fst) ∧ ar.le 0 8 ∧ ar.lt 8 (ar.ilen i.2.fst) ∧ ar.le 0 9 ∧ ar.lt 9 (ar.ilen i.2.fst) ∧ ar.le
    0 10 ∧ ar.lt 10 (ar.ilen i.2.fst) ∧ ar.le 0 11 ∧ ar.lt 11 (ar.ilen i.2.fst) ∧ ar.le 0 12 ∧ ar.lt 12 (ar.ilen i.2.fst) ∧ ar.le 0 13 ∧ ar.lt 13 (ar.ilen i.2.fst) ∧ ar.le 0 14 ∧
    ar.lt 14 (ar.ilen i.2.fst) ∧ ar.le 0 15 ∧ ar.lt 15 (ar.ilen i.2.fst) ∧ ar.le 0 16 ∧ ar.lt 16 (ar.ilen i.2.fst) ∧ ar.le 0 17 ∧ ar.lt 17 (ar.ilen i.2.fst) ∧ ar.le 0 18 ∧ ar.lt 18
    (ar.ilen i.2.fst) ∧ ar.le 0 19 ∧ ar.lt 19 (ar.ilen i.2.fst) ∧ ar.le 0 20 ∧ ar.lt 20 (ar.ilen i.2.fst) ∧ ar.le 0 21 ∧ ar.lt 21 (ar.ilen i.2.fst) ∧ ar.le 0 22 ∧ ar.lt 22 (ar.ilen
    i.2.fst) ∧ ar.le 0 23 ∧ ar.lt 23 (ar.ilen i.2.fst) ∧ ∃ (x_3 : List Int × List Int), ar.iget i.2.fst 0 = x_3.fst.getD 0 0 ∧ ar.iget i.2.fst 1 = x_3.fst.getD 1 0 ∧ ar.iget
    i.2.fst 2 = x_3.fst.getD 2 0 ∧ ar.iget i.2.fst 3 = x_3.fst.getD 3 0 ∧ ar.iget i.2.fst 4 = x_3.fst.getD 4 0 ∧ ar.iget i.2.fst 5 = x_3.fst.getD 5 0 ∧ ar.iget i.2.fst 6 =
    x_3.fst.getD 6 0 ∧ ar.iget i.2.fst 7 = x_3.fst.getD 7 0 ∧ ar.iget i.2.fst 8 = x_3.fst.getD 8 0 ∧ ar.iget i.2.fst 9 = x_3.fst.getD 9 0 ∧ ar.iget i.2.fst 10 = x_3.fst.getD 10 0 ∧
    ar.iget i.2.fst 11 = x_3.fst.getD 11 0 ∧ ar.iget i.2.fst 12 = x_3.fst.getD 12 0 ∧ ar.iget i.2.fst 13 = x_3.fst.getD 13 0 ∧ ar.iget i.2.fst 14 = x_3.fst.getD 14 0 ∧ ar.iget
    i.2.fst 15 = x_3.fst.getD 15 0 ∧ ar.iget i.2.fst 16 = x_3.fst.getD 16 0 ∧ ar.iget i.2.fst 17 = x_3.fst.getD 17 0 ∧ ar.iget i.2.fst 18 = x_3.fst.getD 18 0 ∧ ar.iget i.2.fst 19 =
    x_3.fst.getD 19 0 ∧ ar.iget i.2.fst 20 = x_3.fst.getD 20 0 ∧ ar.iget i.2.fst 21 = x_3.fst.getD 21 0 ∧ ar.iget i.2.fst 22 = x_3.fst.getD 22 0 ∧ ar.iget i.2.fst 23 = x_3.fst.getD
    23 0 ∧ 5 = x_3.snd.getD 0 0 ∧ 0 = x_3.snd.getD 1 0 ∧ 0 = x_3.snd.getD 2 0 ∧ 0 = x_3.snd.getD 3 0 ∧ 0 = x_3.snd.getD 4 0 ∧ 0 = x_3.snd.getD 5 0 ∧ 0 = x_3.snd.getD 6 0 ∧ 0 =
    x_3.snd.getD 7 0 ∧ 0 = x_3.snd.getD 8 0 ∧ 0 = x_3.snd.getD 9 0 ∧ 0 = x_3.snd.getD 10 0 ∧ 0 = x_3.snd.getD 11 0 ∧ 0 = x_3.snd.getD 12 0 ∧ 0 = x_3.snd.getD 13 0 ∧ 0 =
    x_3.snd.getD 14 0 ∧ 0 = x_3.snd.getD 15 0 ∧ 0 = x_3.snd.getD 16 0 ∧ 0 = x_3.snd.getD 17 0 ∧ 0 = x_3.snd.getD 18 0 ∧ 0 = x_3.snd.getD 19 0 ∧ 0 = x_3.snd.getD 20 0 ∧ 0 =
    x_3.snd.getD 21 0 ∧ 0 = x_3.snd.getD 22 0 ∧ 0 = x_3.snd.getD 23 0 ∧ PL.Two x_3.fst x_3.snd ∧ ∀ (y : List Int), PL.addPost x_3.fst x_3.snd y → ∃ (x_4 : List Int), y.getD 0 0 =
    x_4.getD 0 0 ∧ y.getD 1 0 = x_4.getD 1 0 ∧ y.getD 2 0 = x_4.getD 2 0 ∧ y.getD 3 0 = x_4.getD 3 0 ∧ y.getD 4 0 = x_4.getD 4 0 ∧ y.getD 5 0 = x_4.getD 5 0 ∧ y.getD 6 0 = x_4.getD
    6 0 ∧ y.getD 7 0 = x_4.getD 7 0 ∧ y.getD 8 0 = x_4.getD 8 0 ∧ y.getD 9 0 = x_4.getD 9 0 ∧ y.getD 10 0 = x_4.getD 10 0 ∧ y.getD 11 0 = x_4.getD 11 0 ∧ y.getD 12 0 = x_4.getD 12
    0 ∧ y.getD 13 0 = x_4.getD 13 0 ∧ y.getD 14 0 = x_4.getD 14 0 ∧ y.getD 15 0 = x_4.getD 15 0 ∧ y.getD 16 0 = x_4.getD 16 0 ∧ y.getD 17 0 = x_4.getD 17 0 ∧ y.getD 18 0 = x_4.getD
    18 0 ∧ y.getD 19 0 = x_4.getD 19 0 ∧ y.getD 20 0 = x_4.getD 20 0 ∧ y.getD 21 0 = x_4.getD 21 0 ∧ y.getD 22 0 = x_4.getD 22 0 ∧ y.getD 23 0 = x_4.getD 23 0 ∧ PL.Num x_4 ∧ ∀ (y :
    List Int × List Int), PL.partedPost x_4 y.fst y.snd → ∃ (x_5 : List Int), y.snd.getD 0 0 = x_5.getD 0 0 ∧ y.snd.getD 1 0 = x_5.getD 1 0 ∧ y.snd.getD 2 0 = x_5.getD 2 0 ∧
    y.snd.getD 3 0 = x_5.getD 3 0 ∧ y.snd.getD 4 0 = x_5.getD 4 0 ∧ y.snd.getD 5 0 = x_5.getD 5 0 ∧ y.snd.getD 6 0 = x_5.getD 6 0 ∧ y.snd.getD 7 0 = x_5.getD 7 0 ∧ y.snd.getD 8 0 =
    x_5.getD 8 0 ∧ y.snd.getD 9 0 = x_5.getD 9 0 ∧ y.snd.getD 10 0 = x_5.getD 10 0 ∧ y.snd.getD 11 0 = x_5.getD 11 0 ∧ y.snd.getD 12 0 = x_5.getD 12 0 ∧ y.snd.getD 13 0 = x_5.getD
    13 0 ∧ y.snd.getD 14 0 = x_5.getD 14 0 ∧ y.snd.getD 15 0 = x_5.getD 15 0 ∧ y.snd.getD 16 0 = x_5.getD 16 0 ∧ y.snd.getD 17 0 = x_5.getD 17 0 ∧ y.snd.getD 18 0 = x_5.getD 18 0 ∧
    y.snd.getD 19 0 = x_5.getD 19 0 ∧ y.snd.getD 20 0 = x_5.getD 20 0 ∧ y.snd.getD 21 0 = x_5.getD 21 0 ∧ y.snd.getD 22 0 = x_5.getD 22 0 ∧ y.snd.getD 23 0 = x_5.getD 23 0 ∧ PL.Num
    x_5 ∧ ∀ (y_2 : Unit), True → (¬PL.b16 x_5 = 0 → ∃ (y_3 : List Int), PL.moduloPost x y_3 ∧ y.fst.getD 0 0 = y_3.getD 0 0 ∧ y.fst.getD 1 0 = y_3.getD 1 0 ∧ y.fst.getD 2 0 =
    y_3.getD 2 0 ∧ y.fst.getD 3 0 = y_3.getD 3 0 ∧ y.fst.getD 4 0 = y_3.getD 4 0 ∧ y.fst.getD 5 0 = y_3.getD 5 0 ∧ y.fst.getD 6 0 = y_3.getD 6 0 ∧ y.fst.getD 7 0 = y_3.getD 7 0 ∧
    y.fst.getD 8 0 = y_3.getD 8 0 ∧ y.fst.getD 9 0 = y_3.getD 9 0 ∧ y.fst.getD 10 0 = y_3.getD 10 0 ∧ y.fst.getD 11 0 = y_3.getD 11 0 ∧ y.fst.getD 12 0 = y_3.getD 12 0 ∧ y.fst.getD
    13 0 = y_3.getD 13 0 ∧ y.fst.getD 14 0 = y_3.getD 14 0 ∧ y.fst.getD 15 0 = y_3.getD 15 0 ∧ y.fst.getD 16 0 = y_3.getD 16 0 ∧ y.fst.getD 17 0 = y_3.getD 17 0 ∧ y.fst.getD 18 0 =
    y_3.getD 18 0 ∧ y.fst.getD 19 0 = y_3.getD 19 0 ∧ y.fst.getD 20 0 = y_3.getD 20 0 ∧ y.fst.getD 21 0 = y_3.getD 21 0 ∧ y.fst.getD 22 0 = y_3.getD 22 0 ∧ y.fst.getD 23 0 =
    y_3.getD 23 0 ∧ True) ∧ (¬¬PL.b16 x_5 = 0 → ar.le 0 0 ∧ ar.lt 0 (ar.ilen i.2.fst) ∧ ar.le 0 1 ∧ ar.lt 1 (ar.ilen i.2.fst) ∧ ar.le 0 2 ∧ ar.lt 2 (ar.ilen i.2.fst) ∧ ar.le 0 3 ∧
    ar.lt 3 (ar.ilen i.2.fst) ∧ ar.le 0 4 ∧ ar.lt 4 (ar.ilen i.2.fst) ∧ ar.le 0 5 ∧ ar.lt 5 (ar.ilen i.2.fst) ∧ ar.le 0 6 ∧ ar.lt 6 (ar.ilen i.2.fst) ∧ ar.le 0 7 ∧ ar.lt 7 (ar.ilen
    i.2.fst) ∧ ar.le 0 8 ∧ ar.lt 8 (ar.ilen i.2.fst) ∧ ar.le 0 9 ∧ ar.lt 9 (ar.ilen i.2.fst) ∧ ar.le 0 10 ∧ ar.lt 10 (ar.ilen i.2.fst) ∧ ar.le 0 11 ∧ ar.lt 11 (ar.ilen i.2.fst) ∧
    ar.le 0 12 ∧ ar.lt 12 (ar.ilen i.2.fst) ∧ ar.le 0 13 ∧ ar.lt 13 (ar.ilen i.2.fst) ∧ ar.le 0 14 ∧ ar.lt 14 (ar.ilen i.2.fst) ∧ ar.le 0 15 ∧ ar.lt 15 (ar.ilen i.2.fst) ∧ ar.le 0
    16 ∧ ar.lt 16 (ar.ilen i.2.fst) ∧ ar.le 0 17 ∧ ar.lt 17 (ar.ilen i.2.fst) ∧ ar.le 0 18 ∧ ar.lt 18 (ar.ilen i.2.fst) ∧ ar.le 0 19 ∧ ar.lt 19 (ar.ilen i.2.fst) ∧ ar.le 0 20 ∧
    ar.lt 20 (ar.ilen i.2.fst) ∧ ar.le 0 21 ∧ ar.lt 21 (ar.ilen i.2.fst) ∧ ar.le 0 22 ∧ ar.lt 22 (ar.ilen i.2.fst) ∧ ar.le 0 23 ∧ ar.lt 23 (ar.ilen i.2.fst) ∧ ∃ (y : List Int),
    PL.moduloPost x y ∧ ar.iget i.2.fst 0 = y.getD 0 0 ∧ ar.iget i.2.fst 1 = y.getD 1 0 ∧ ar.iget i.2.fst 2 = y.getD 2 0 ∧ ar.iget i.2.fst 3 = y.getD 3 0 ∧ ar.iget i.2.fst 4 =
    y.getD 4 0 ∧ ar.iget i.2.fst 5 = y.getD 5 0 ∧ ar.iget i.2.fst 6 = y.getD 6 0 ∧ ar.iget i.2.fst 7 = y.getD 7 0 ∧ ar.iget i.2.fst 8 = y.getD 8 0 ∧ ar.iget i.2.fst 9 = y.getD 9 0
    ∧ ar.iget i.2.fst 10 = y.getD 10 0 ∧ ar.iget i.2.fst 11 = y.getD 11 0 ∧ ar.iget i.2.fst 12 = y.getD 12 0 ∧ ar.iget i.2.fst 13 = y.getD 13 0 ∧ ar.iget i.2.fst 14 = y.getD 14 0 ∧
    ar.iget i.2.fst 15 = y.getD 15 0 ∧ ar.iget i.2.fst 16 = y.getD 16 0 ∧ ar.iget i.2.fst 17 = y.getD 17 0 ∧ ar.iget i.2.fst 18 = y.getD 18 0 ∧ ar.iget i.2.fst 19 = y.getD 19 0 ∧
    ar.iget i.2.fst 20 = y.getD 20 0 ∧ ar.iget i.2.fst 21 = y.getD 21 0 ∧ ar.iget i.2.fst 22 = y.getD 22 0 ∧ ar.iget i.2.fst 23 = y.getD 23 0 ∧ True))) := by
  kernel_rfl
end Go.Eng


/- Poly: the document's modulo, number, clamped hold their contracts. -/
set_option linter.unusedSimpArgs false
set_option linter.unusedVariables false
set_option linter.unusedSectionVars false
set_option maxRecDepth 100000
namespace Go.Eng
variable [CW : CWorld]
open Go.Proofs

theorem r33_ok : SpecsOK PP r33 := by
  intro f xs _ S h
  unfold r33 at h
  split at h
  · cases h; exact addSpec_ok
  · cases h; exact partedSpec_ok
  · cases h; exact zeroSpec_ok
  · cases h; exact fiveSpec_ok
  · cases h

theorem num_bound {x : List Int} (h : PL.Num x) : 0 ≤ PL.b16 x ∧ PL.b16 x < PL.M24 := by
  have := PL.b16_bound x h.dig
  rw [h.len, ← PL.M24_eq] at this
  exact this

theorem mod_arith {lo hi x f s : Int} (l0 : 0 ≤ lo) (l1 : lo < 1361129467683753853853498429727072845824) (h0 : 0 ≤ hi) (hle : lo + 1361129467683753853853498429727072845824 * hi ≤ x) (hx : x < PL.M24)
    (hf : f = 5 * hi % PL.M24) (hs : s = (lo + f) % PL.M24) : s = lo + 5 * hi := by
  unfold PL.M24 at *
  omega

theorem moduloSpec_ok : moduloSpec.OK PP 33 := by
  refine Spec.ok_of_run (fn := Try.f33) (c := Try.f33.body.getD .skip) (by kernel_rfl) (by kernel_rfl) (by kernel_rfl) r33_ok (fun x => refInvs x [] []) 1000 ?_
  intro (x : List Int) ⟨hx, hd⟩
  refine (vc33 ar0 x).mpr ?_
  have hxb := num_bound ⟨hx, hd⟩
  refine ⟨x, rfl, rfl, rfl, rfl, rfl, rfl, rfl, rfl, rfl, rfl, rfl, rfl, rfl, rfl, rfl, rfl, rfl, rfl, rfl, rfl, rfl, rfl, rfl, rfl, ⟨hx, hd⟩, fun y0 hy0 => ⟨⟨(x, y0.1, y0.2), ⟨hx, hy0.nlo, hy0.nhi, ?_, ?_, ?_⟩, ?_⟩, ?_⟩⟩
  · rw [hy0.vlo]; exact Int.emod_lt_of_pos _ (by decide)
  · rw [hy0.vlo, hy0.vhi]; exact Int.le_of_eq (Int.emod_add_mul_ediv _ _)
  · rw [hy0.vlo, hy0.vhi]; exact congrArg (· % PL.PQ) (Int.emod_add_mul_ediv _ _)
  · and_intros <;> first | rfl | trivial | exact ints24 hx | exact ints24 hy0.nlo.len | exact ints24 hy0.nhi.len
  rintro ⟨n, lo, hi⟩ hok
  dsimp only at hok ⊢
  have ln := lt24 hok.nlo.len
  have hn := lt24 hok.nhi.len
  have blo := num_bound hok.nlo
  have bhi := num_bound hok.nhi
  have hlt := hok.lt
  have hle := hok.le
  have hval := hok.val
  refine ⟨le_ar rfl, hn 0 (by decide), le_ar rfl, hn 1 (by decide), le_ar rfl, hn 2 (by decide), le_ar rfl, hn 3 (by decide), le_ar rfl, hn 4 (by decide), le_ar rfl, hn 5 (by decide), le_ar rfl, hn 6 (by decide), le_ar rfl, hn 7 (by decide), le_ar rfl, hn 8 (by decide), le_ar rfl, hn 9 (by decide), le_ar rfl, hn 10 (by decide), le_ar rfl, hn 11 (by decide), le_ar rfl, hn 12 (by decide), le_ar rfl, hn 13 (by decide), le_ar rfl, hn 14 (by decide), le_ar rfl, hn 15 (by decide), le_ar rfl, hn 16 (by decide), le_ar rfl, hn 17 (by decide), le_ar rfl, hn 18 (by decide), le_ar rfl, hn 19 (by decide), le_ar rfl, hn 20 (by decide), le_ar rfl, hn 21 (by decide), le_ar rfl, hn 22 (by decide), le_ar rfl, hn 23 (by decide), hi, rfl, rfl, rfl, rfl, rfl, rfl, rfl, rfl, rfl, rfl, rfl, rfl, rfl, rfl, rfl, rfl, rfl, rfl, rfl, rfl, rfl, rfl, rfl, rfl, hok.nhi, fun _ _ => ⟨fun hne => ?_, fun hz => ?_⟩⟩
  · refine ⟨le_ar rfl, ln 0 (by decide), le_ar rfl, ln 1 (by decide), le_ar rfl, ln 2 (by decide), le_ar rfl, ln 3 (by decide), le_ar rfl, ln 4 (by decide), le_ar rfl, ln 5 (by decide), le_ar rfl, ln 6 (by decide), le_ar rfl, ln 7 (by decide), le_ar rfl, ln 8 (by decide), le_ar rfl, ln 9 (by decide), le_ar rfl, ln 10 (by decide), le_ar rfl, ln 11 (by decide), le_ar rfl, ln 12 (by decide), le_ar rfl, ln 13 (by decide), le_ar rfl, ln 14 (by decide), le_ar rfl, ln 15 (by decide), le_ar rfl, ln 16 (by decide), le_ar rfl, ln 17 (by decide), le_ar rfl, ln 18 (by decide), le_ar rfl, ln 19 (by decide), le_ar rfl, ln 20 (by decide), le_ar rfl, ln 21 (by decide), le_ar rfl, ln 22 (by decide), le_ar rfl, ln 23 (by decide), le_ar rfl, hn 0 (by decide), le_ar rfl, hn 1 (by decide), le_ar rfl, hn 2 (by decide), le_ar rfl, hn 3 (by decide), le_ar rfl, hn 4 (by decide), le_ar rfl, hn 5 (by decide), le_ar rfl, hn 6 (by decide), le_ar rfl, hn 7 (by decide), le_ar rfl, hn 8 (by decide), le_ar rfl, hn 9 (by decide), le_ar rfl, hn 10 (by decide), le_ar rfl, hn 11 (by decide), le_ar rfl, hn 12 (by decide), le_ar rfl, hn 13 (by decide), le_ar rfl, hn 14 (by decide), le_ar rfl, hn 15 (by decide), le_ar rfl, hn 16 (by decide), le_ar rfl, hn 17 (by decide), le_ar rfl, hn 18 (by decide), le_ar rfl, hn 19 (by decide), le_ar rfl, hn 20 (by decide), le_ar rfl, hn 21 (by decide), le_ar rfl, hn 22 (by decide), le_ar rfl, hn 23 (by decide), hi, rfl, rfl, rfl, rfl, rfl, rfl, rfl, rfl, rfl, rfl, rfl, rfl, rfl, rfl, rfl, rfl, rfl, rfl, rfl, rfl, rfl, rfl, rfl, rfl, hok.nhi, fun f hf => ⟨(lo, f), rfl, rfl, rfl, rfl, rfl, rfl, rfl, rfl, rfl, rfl, rfl, rfl, rfl, rfl, rfl, rfl, rfl, rfl, rfl, rfl, rfl, rfl, rfl, rfl, rfl, rfl, rfl, rfl, rfl, rfl, rfl, rfl, rfl, rfl, rfl, rfl, rfl, rfl, rfl, rfl, rfl, rfl, rfl, rfl, rfl, rfl, rfl, rfl, ⟨hok.nlo, hf.num⟩, fun s hs => ⟨s, rfl, rfl, rfl, rfl, rfl, rfl, rfl, rfl, rfl, rfl, rfl, rfl, rfl, rfl, rfl, rfl, rfl, rfl, rfl, rfl, rfl, rfl, rfl, rfl, hs.num, fun y hy => ?_⟩⟩⟩
    have hs' : PL.b16 s = PL.b16 lo + 5 * PL.b16 hi := mod_arith blo.1 hlt bhi.1 hle hxb.2 hf.val hs.val
    have htot : PL.b16 y.1 + 1361129467683753853853498429727072845824 * PL.b16 y.2 = PL.b16 s := by
      rw [hy.vlo, hy.vhi]; exact Int.emod_add_mul_ediv _ _
    have hpos : 1 ≤ PL.b16 hi := by
      have : PL.b16 hi ≠ 0 := hne
      omega
    refine ⟨(s, y.1, y.2), ⟨hs.num.len, hy.nlo, hy.nhi, ?_, ?_, ?_⟩, ?_, ?_⟩
    · rw [hy.vlo]; exact Int.emod_lt_of_pos _ (by decide)
    · show PL.b16 y.1 + _ * PL.b16 y.2 ≤ PL.b16 x
      rw [htot, hs']; omega
    · show (PL.b16 y.1 + _ * PL.b16 y.2) % PL.PQ = PL.b16 x % PL.PQ
      rw [htot, hs', ← hval]
      have : PL.b16 lo + 1361129467683753853853498429727072845824 * PL.b16 hi = PL.b16 lo + 5 * PL.b16 hi + PL.PQ * PL.b16 hi := by
        unfold PL.PQ; omega
      rw [this, Int.add_mul_emod_self_left]
    · show (PL.b16 y.1 + 1361129467683753853853498429727072845824 * PL.b16 y.2).toNat < (PL.b16 lo + 1361129467683753853853498429727072845824 * PL.b16 hi).toNat
      rw [htot, hs']; omega
    · and_intros <;> first | rfl | trivial | exact ints24 hs.num.len | exact ints24 hy.nlo.len | exact ints24 hy.nhi.len
  · have hz0 : PL.b16 hi = 0 := Classical.byContradiction hz
    rw [hz0] at hle hval
    refine ⟨le_ar rfl, ln 0 (by decide), le_ar rfl, ln 1 (by decide), le_ar rfl, ln 2 (by decide), le_ar rfl, ln 3 (by decide), le_ar rfl, ln 4 (by decide), le_ar rfl, ln 5 (by decide), le_ar rfl, ln 6 (by decide), le_ar rfl, ln 7 (by decide), le_ar rfl, ln 8 (by decide), le_ar rfl, ln 9 (by decide), le_ar rfl, ln 10 (by decide), le_ar rfl, ln 11 (by decide), le_ar rfl, ln 12 (by decide), le_ar rfl, ln 13 (by decide), le_ar rfl, ln 14 (by decide), le_ar rfl, ln 15 (by decide), le_ar rfl, ln 16 (by decide), le_ar rfl, ln 17 (by decide), le_ar rfl, ln 18 (by decide), le_ar rfl, ln 19 (by decide), le_ar rfl, ln 20 (by decide), le_ar rfl, ln 21 (by decide), le_ar rfl, ln 22 (by decide), le_ar rfl, ln 23 (by decide), (lo, [5, 0, 0, 0, 0, 0, 0, 0, 0, 0, 0, 0, 0, 0, 0, 0, 0, 0, 0, 0, 0, 0, 0, 0]), rfl, rfl, rfl, rfl, rfl, rfl, rfl, rfl, rfl, rfl, rfl, rfl, rfl, rfl, rfl, rfl, rfl, rfl, rfl, rfl, rfl, rfl, rfl, rfl, rfl, rfl, rfl, rfl, rfl, rfl, rfl, rfl, rfl, rfl, rfl, rfl, rfl, rfl, rfl, rfl, rfl, rfl, rfl, rfl, rfl, rfl, rfl, rfl, ⟨hok.nlo, ⟨rfl, fun d hd => ?_⟩⟩, fun s hs => ⟨s, rfl, rfl, rfl, rfl, rfl, rfl, rfl, rfl, rfl, rfl, rfl, rfl, rfl, rfl, rfl, rfl, rfl, rfl, rfl, rfl, rfl, rfl, rfl, rfl, hs.num, fun y hy => ⟨y.2, rfl, rfl, rfl, rfl, rfl, rfl, rfl, rfl, rfl, rfl, rfl, rfl, rfl, rfl, rfl, rfl, rfl, rfl, rfl, rfl, rfl, rfl, rfl, rfl, hy.nhi, fun _ _ => ⟨fun hne => ⟨y.1, ⟨hy.nlo, ?_⟩, rfl, rfl, rfl, rfl, rfl, rfl, rfl, rfl, rfl, rfl, rfl, rfl, rfl, rfl, rfl, rfl, rfl, rfl, rfl, rfl, rfl, rfl, rfl, rfl, trivial⟩, fun heq => ⟨le_ar rfl, ln 0 (by decide), le_ar rfl, ln 1 (by decide), le_ar rfl, ln 2 (by decide), le_ar rfl, ln 3 (by decide), le_ar rfl, ln 4 (by decide), le_ar rfl, ln 5 (by decide), le_ar rfl, ln 6 (by decide), le_ar rfl, ln 7 (by decide), le_ar rfl, ln 8 (by decide), le_ar rfl, ln 9 (by decide), le_ar rfl, ln 10 (by decide), le_ar rfl, ln 11 (by decide), le_ar rfl, ln 12 (by decide), le_ar rfl, ln 13 (by decide), le_ar rfl, ln 14 (by decide), le_ar rfl, ln 15 (by decide), le_ar rfl, ln 16 (by decide), le_ar rfl, ln 17 (by decide), le_ar rfl, ln 18 (by decide), le_ar rfl, ln 19 (by decide), le_ar rfl, ln 20 (by decide), le_ar rfl, ln 21 (by decide), le_ar rfl, ln 22 (by decide), le_ar rfl, ln 23 (by decide), lo, ⟨hok.nlo, ?_⟩, rfl, rfl, rfl, rfl, rfl, rfl, rfl, rfl, rfl, rfl, rfl, rfl, rfl, rfl, rfl, rfl, rfl, rfl, rfl, rfl, rfl, rfl, rfl, rfl, trivial⟩⟩⟩⟩⟩
    · simp only [List.mem_cons, List.not_mem_nil, or_false] at hd
      omega
    · have h1 : PL.b16 s = (PL.b16 lo + 5) % PL.M24 := hs.val
      have h2 : PL.b16 s = PL.b16 lo + 5 := by rw [h1]; exact Int.emod_eq_of_lt (by omega) (by unfold PL.M24; omega)
      have h3 : PL.b16 y.2 ≠ 0 := hne
      rw [hy.vhi, h2] at h3
      rw [hy.vlo, h2, ← hval]
      unfold PL.PQ
      omega
    · have h1 : PL.b16 s = (PL.b16 lo + 5) % PL.M24 := hs.val
      have h2 : PL.b16 s = PL.b16 lo + 5 := by rw [h1]; exact Int.emod_eq_of_lt (by omega) (by unfold PL.M24; omega)
      have h3 : PL.b16 y.2 = 0 := Classical.byContradiction heq
      rw [hy.vhi, h2] at h3
      rw [← hval]
      unfold PL.PQ
      omega

theorem next_i64 {i : Nat} (h : i < 4611686018427387904) {z : Int} (hz : z = ar0.wrap .i64 (ar0.add (i : Int) 1)) : z = ((i + 1 : Nat) : Int) := by
  rw [hz]
  show IntKind.i64.wrap ((i : Int) + 1) = _
  rw [wrap_i64 (by omega) (by omega)]
  omega

/-- Bytes two by two. -/
def pairN (g : Nat → Int) : List Int := PL.tab 24 fun j => g (2 * j) + 256 * g (2 * j + 1)
theorem pair_put (g : Nat → Int) {i : Nat} (hi : i < 48) (hg : g i = 0) (v : Int) :
    (pairN g).set (i / 2) ((pairN g).getD (i / 2) 0 + (if i % 2 = 0 then v else 256 * v)) = pairN (fun k => if k = i then v else g k) := by
  unfold pairN
  rw [PL.tab_set, PL.tab_getD _ (by omega)]
  refine PL.tab_congr fun j hj => ?_
  by_cases e : j = i / 2
  · subst e
    rw [if_pos rfl]
    by_cases h2 : i % 2 = 0
    · show _ = (if 2 * (i / 2) = i then v else g (2 * (i / 2))) + 256 * (if 2 * (i / 2) + 1 = i then v else g (2 * (i / 2) + 1))
      rw [if_pos h2, if_pos (by omega), if_neg (by omega), show 2 * (i / 2) = i by omega, hg]
      omega
    · show _ = (if 2 * (i / 2) = i then v else g (2 * (i / 2))) + 256 * (if 2 * (i / 2) + 1 = i then v else g (2 * (i / 2) + 1))
      rw [if_neg h2, if_neg (by omega), if_pos (by omega), show 2 * (i / 2) + 1 = i by omega, hg]
      omega
  · show _ = (if 2 * j = i then v else g (2 * j)) + 256 * (if 2 * j + 1 = i then v else g (2 * j + 1))
    rw [if_neg e, if_neg (by omega), if_neg (by omega)]
theorem pair_val (g : Nat → Int) : ∀ n, PL.b16 (PL.tab n fun j => g (2 * j) + 256 * g (2 * j + 1)) = PL.leI (PL.tab (2 * n) g)
  | 0 => rfl
  | n + 1 => by
    have ih := pair_val g n
    rw [PL.b16_tab_succ, ih, show 2 * (n + 1) = 2 * n + 1 + 1 by omega, PL.tab_succ, PL.tab_succ, List.append_assoc, leI_append, PL.tab_length]
    have e : (256 : Int) ^ (2 * n) = 65536 ^ n := by rw [Int.pow_mul]; rfl
    rw [e]
    simp only [List.cons_append, List.nil_append, PL.leI]
    grind

theorem byteN_bound (s : List UInt8) (i k : Nat) : 0 ≤ PL.byteN s i k ∧ PL.byteN s i k < 256 := by
  unfold PL.byteN
  split
  · have := (s.getD k 0).toNat_lt
    omega
  · omega
theorem byteN_succ (s : List UInt8) (i : Nat) : (fun k => if k = i then ((s.getD i 0).toNat : Int) else PL.byteN s i k) = PL.byteN s (i + 1) := by
  funext k
  unfold PL.byteN
  by_cases e : k = i
  · subst e; rw [if_pos rfl, if_pos (by omega)]
  · rw [if_neg e]
    by_cases h : k < i
    · rw [if_pos h, if_pos (by omega)]
    · rw [if_neg h, if_neg (by omega)]
theorem byteN_end (s : List UInt8) (b : Int) (h : s.length ≤ 32) : PL.tab 48 (fun k => if k = s.length then b else PL.byteN s s.length k) = PL.ints s ++ [b] ++ List.replicate (47 - s.length) 0 := by
  apply List.ext_getElem?
  intro k
  by_cases h1 : k < s.length
  · rw [List.append_assoc, List.getElem?_append_left (by rw [PL.ints_length]; exact h1)]
    simp [PL.tab, PL.ints, PL.byteN, h1, show k < 48 by omega, show ¬ k = s.length by omega, List.getD]
  · rw [List.append_assoc, List.getElem?_append_right (by rw [PL.ints_length]; omega), PL.ints_length]
    by_cases h2 : k = s.length
    · subst h2
      simp [PL.tab, show s.length < 48 by omega]
    · rw [List.getElem?_append_right (by simp; omega)]
      by_cases h3 : k < 48
      · simp [PL.tab, h3, h2, PL.byteN, h1, show k - s.length - 1 < 47 - s.length by omega]
      · rw [List.getElem?_eq_none (by rw [PL.tab_length]; omega), List.getElem?_eq_none (by simp; omega)]

theorem pair_num {g : Nat → Int} (h : ∀ k, 0 ≤ g k ∧ g k < 256) : PL.Num (pairN g) := ⟨PL.tab_length _ _, fun x hx => by
  obtain ⟨j, hj, rfl⟩ := PL.tab_mem hx
  have h1 := h (2 * j)
  have h2 := h (2 * j + 1)
  omega⟩

theorem numberSpec_ok : numberSpec.OK PP 31 := by
  refine Spec.ok_of_run (fn := Try.f31) (c := Try.f31.body.getD .skip) (by kernel_rfl) (by kernel_rfl) (by kernel_rfl) (specs := noSpec) noSpec_ok (fun x => refInvs [] x.1 []) 1000 ?_
  rintro ⟨s, b⟩ ⟨hs, hb⟩
  replace hs : s.length ≤ 32 := hs
  replace hb : 0 ≤ b ∧ b < 256 := hb
  refine (vc31 ar0 (s, b)).mpr ?_
  have half : ∀ (n : Nat) (z : Int), n ≤ 32 → z = ar0.wrap .i64 (ar0.quo (n : Int) 2) → z = ((n / 2 : Nat) : Int) := fun n z hn hz => by
    rw [hz]
    show IntKind.i64.wrap ((n : Int).tdiv 2) = _
    rw [Int.tdiv_eq_ediv_of_nonneg (by omega), wrap_i64 (by omega) (by omega)]
    rfl
  have par : ∀ (n : Nat) (z : Int), z = ar0.rem (n : Int) 2 → z = ((n % 2 : Nat) : Int) := fun n z hz => by
    rw [hz]
    show (n : Int).tmod 2 = _
    rw [Int.tmod_eq_emod_of_nonneg (by omega)]
    rfl
  refine ⟨⟨(0, PL.tab 24 fun _ => 0), ⟨Nat.zero_le _, PL.tab_congr fun j _ => by simp [PL.byteN]⟩, ?_⟩, ?_⟩
  · and_intros <;> first | rfl | trivial
  rintro ⟨i, l⟩ hok
  dsimp only at hok ⊢
  have hi := hok.hi
  have he : l = pairN (PL.byteN s i) := hok.eq
  have hl : l.length = 24 := by rw [he]; exact PL.tab_length _ _
  have hlb := pair_num (byteN_bound s i)
  rw [← he] at hlb
  have g0 : PL.byteN s i i = 0 := by unfold PL.byteN; rw [if_neg (by omega)]
  refine ⟨fun hlt => ?_, fun hge => ?_⟩
  · replace hlt : i < s.length := by
      have : (i : Int) < (s.length : Int) := hlt
      omega
    obtain ⟨s1, s2, s3, s4⟩ := at24 (show i / 2 < 24 by omega) hl
    have gl := PL.getD_dig hlb.dig (show i / 2 < l.length by omega)
    have gb := (s.getD i 0).toNat_lt
    have fin : ∀ (v : Int), v = l.getD (i / 2) 0 + (if i % 2 = 0 then ((s.getD i 0).toNat : Int) else 256 * ((s.getD i 0).toNat : Int)) → PL.NumberOK s (i + 1) (l.set (i / 2) v) := fun v hv => ⟨by omega, by
      rw [hv, he, pair_put _ (by omega) g0]
      show pairN _ = pairN _
      rw [byteN_succ]⟩
    intro z hz
    replace hz := par i z hz
    refine ⟨fun heq => ?_, fun hne => ?_⟩
    · have h2 : i % 2 = 0 := by
        have : z = 0 := heq
        omega
      intro z0 hz0 z1 hz1
      replace hz0 := half i z0 (by omega) hz0
      replace hz1 := half i z1 (by omega) hz1
      have t1 := s1; have t2 := s2; have t3 := s3; have t4 := s4
      rw [← hz1] at s1 s2 s3 s4
      rw [← hz0] at t1 t2 t3 t4
      refine ⟨s1, s2, s3, s4, Int.natCast_nonneg i, by show (i : Int) < (s.length : Int); omega, ?_⟩
      intro z2 hz2 z3 hz3 z4 hz4
      replace hz2 : z2 = ((s.getD i 0).toNat : Int) := hz2
      replace hz3 : z3 = z2 := by rw [hz3]; exact wrap_i64 (by omega) (by omega)
      replace hz4 : z4 = l.getD (i / 2) 0 + z3 := by
        rw [hz4, hz1]
        exact wrap_i64 (by show _ ≤ l.getD (i / 2) 0 + z3; omega) (by show l.getD (i / 2) 0 + z3 < _; omega)
      refine ⟨t1, t2, t3, t4, ?_⟩
      intro z5 hz5
      replace hz5 := next_i64 (by omega) hz5
      refine ⟨(i + 1, l.set (i / 2) z4), fin z4 (by rw [if_pos h2, hz4, hz3, hz2]), by show s.length - (i + 1) < s.length - i; omega, ?_⟩
      have hset : ar0.iset l z0 z4 = l.set (i / 2) z4 := by rw [hz0]; rfl
      and_intros <;> first | rfl | trivial | exact hz5 | exact hset
    · have h2 : ¬ i % 2 = 0 := by
        have : ¬ z = 0 := hne
        omega
      intro z0 hz0 z1 hz1
      replace hz0 := half i z0 (by omega) hz0
      replace hz1 := half i z1 (by omega) hz1
      have t1 := s1; have t2 := s2; have t3 := s3; have t4 := s4
      rw [← hz1] at s1 s2 s3 s4
      rw [← hz0] at t1 t2 t3 t4
      refine ⟨s1, s2, s3, s4, Int.natCast_nonneg i, by show (i : Int) < (s.length : Int); omega, ?_⟩
      intro z2 hz2 z3 hz3 z4 hz4 z5 hz5
      replace hz2 : z2 = ((s.getD i 0).toNat : Int) := hz2
      replace hz3 : z3 = z2 := by rw [hz3]; exact wrap_i64 (by omega) (by omega)
      replace hz4 : z4 = 256 * z3 := by rw [hz4]; exact wrap_i64 (by show _ ≤ 256 * z3; omega) (by show 256 * z3 < _; omega)
      replace hz5 : z5 = l.getD (i / 2) 0 + z4 := by
        rw [hz5, hz1]
        exact wrap_i64 (by show _ ≤ l.getD (i / 2) 0 + z4; omega) (by show l.getD (i / 2) 0 + z4 < _; omega)
      refine ⟨t1, t2, t3, t4, ?_⟩
      intro z6 hz6
      replace hz6 := next_i64 (by omega) hz6
      refine ⟨(i + 1, l.set (i / 2) z5), fin z5 (by rw [if_neg h2, hz5, hz4, hz3, hz2]), by show s.length - (i + 1) < s.length - i; omega, ?_⟩
      have hset : ar0.iset l z0 z5 = l.set (i / 2) z5 := by rw [hz0]; rfl
      and_intros <;> first | rfl | trivial | exact hz6 | exact hset
  · obtain rfl : i = s.length := by
      have : ¬ (i : Int) < (s.length : Int) := hge
      omega
    obtain ⟨s1, s2, s3, s4⟩ := at24 (show s.length / 2 < 24 by omega) hl
    have gl := PL.getD_dig hlb.dig (show s.length / 2 < l.length by omega)
    have fin : ∀ (v : Int), v = l.getD (s.length / 2) 0 + (if s.length % 2 = 0 then b else 256 * b) → PL.numberPost s b (l.set (s.length / 2) v) := fun v hv => by
      have e : l.set (s.length / 2) v = pairN (fun k => if k = s.length then b else PL.byteN s s.length k) := by
        rw [hv, he, pair_put _ (by omega) g0]
      rw [e]
      refine ⟨pair_num fun k => ?_, ?_⟩
      · split
        · exact hb
        · exact byteN_bound _ _ _
      · refine (pair_val (fun k => if k = s.length then b else PL.byteN s s.length k) 24).trans ?_
        rw [show 2 * 24 = 48 from rfl, byteN_end s b hs, leI_append, leI_zeros, Int.mul_zero, Int.add_zero]
    intro z hz
    replace hz := par s.length z hz
    refine ⟨fun heq => ?_, fun hne => ?_⟩
    · have h2 : s.length % 2 = 0 := by
        have : z = 0 := heq
        omega
      intro z0 hz0 z1 hz1
      replace hz0 := half s.length z0 (by omega) hz0
      replace hz1 := half s.length z1 (by omega) hz1
      have t1 := s1; have t2 := s2; have t3 := s3; have t4 := s4
      rw [← hz1] at s1 s2 s3 s4
      rw [← hz0] at t1 t2 t3 t4
      refine ⟨s1, s2, s3, s4, ?_⟩
      intro z4 hz4
      replace hz4 : z4 = l.getD (s.length / 2) 0 + b := by
        rw [hz4, hz1]
        exact wrap_i64 (by show _ ≤ l.getD (s.length / 2) 0 + b; omega) (by show l.getD (s.length / 2) 0 + b < _; omega)
      have hset : ar0.iset l z0 z4 = l.set (s.length / 2) z4 := by rw [hz0]; rfl
      rw [hset]
      have hlt := lt24 (show (l.set (s.length / 2) z4).length = 24 by simpa using hl)
      refine ⟨t1, t2, t3, t4, le_ar rfl, hlt 0 (by decide), le_ar rfl, hlt 1 (by decide), le_ar rfl, hlt 2 (by decide), le_ar rfl, hlt 3 (by decide), le_ar rfl, hlt 4 (by decide), le_ar rfl, hlt 5 (by decide), le_ar rfl, hlt 6 (by decide), le_ar rfl, hlt 7 (by decide), le_ar rfl, hlt 8 (by decide), le_ar rfl, hlt 9 (by decide), le_ar rfl, hlt 10 (by decide), le_ar rfl, hlt 11 (by decide), le_ar rfl, hlt 12 (by decide), le_ar rfl, hlt 13 (by decide), le_ar rfl, hlt 14 (by decide), le_ar rfl, hlt 15 (by decide), le_ar rfl, hlt 16 (by decide), le_ar rfl, hlt 17 (by decide), le_ar rfl, hlt 18 (by decide), le_ar rfl, hlt 19 (by decide), le_ar rfl, hlt 20 (by decide), le_ar rfl, hlt 21 (by decide), le_ar rfl, hlt 22 (by decide), le_ar rfl, hlt 23 (by decide), _, fin z4 (by rw [if_pos h2, hz4]), rfl, rfl, rfl, rfl, rfl, rfl, rfl, rfl, rfl, rfl, rfl, rfl, rfl, rfl, rfl, rfl, rfl, rfl, rfl, rfl, rfl, rfl, rfl, rfl, trivial⟩
    · have h2 : ¬ s.length % 2 = 0 := by
        have : ¬ z = 0 := hne
        omega
      intro z0 hz0 z1 hz1
      replace hz0 := half s.length z0 (by omega) hz0
      replace hz1 := half s.length z1 (by omega) hz1
      have t1 := s1; have t2 := s2; have t3 := s3; have t4 := s4
      rw [← hz1] at s1 s2 s3 s4
      rw [← hz0] at t1 t2 t3 t4
      refine ⟨s1, s2, s3, s4, ?_⟩
      intro z3 hz3 z4 hz4
      replace hz3 : z3 = 256 * b := by rw [hz3]; exact wrap_i64 (by show _ ≤ 256 * b; omega) (by show 256 * b < _; omega)
      replace hz4 : z4 = l.getD (s.length / 2) 0 + z3 := by
        rw [hz4, hz1]
        exact wrap_i64 (by show _ ≤ l.getD (s.length / 2) 0 + z3; omega) (by show l.getD (s.length / 2) 0 + z3 < _; omega)
      have hset : ar0.iset l z0 z4 = l.set (s.length / 2) z4 := by rw [hz0]; rfl
      rw [hset]
      have hlt := lt24 (show (l.set (s.length / 2) z4).length = 24 by simpa using hl)
      refine ⟨t1, t2, t3, t4, le_ar rfl, hlt 0 (by decide), le_ar rfl, hlt 1 (by decide), le_ar rfl, hlt 2 (by decide), le_ar rfl, hlt 3 (by decide), le_ar rfl, hlt 4 (by decide), le_ar rfl, hlt 5 (by decide), le_ar rfl, hlt 6 (by decide), le_ar rfl, hlt 7 (by decide), le_ar rfl, hlt 8 (by decide), le_ar rfl, hlt 9 (by decide), le_ar rfl, hlt 10 (by decide), le_ar rfl, hlt 11 (by decide), le_ar rfl, hlt 12 (by decide), le_ar rfl, hlt 13 (by decide), le_ar rfl, hlt 14 (by decide), le_ar rfl, hlt 15 (by decide), le_ar rfl, hlt 16 (by decide), le_ar rfl, hlt 17 (by decide), le_ar rfl, hlt 18 (by decide), le_ar rfl, hlt 19 (by decide), le_ar rfl, hlt 20 (by decide), le_ar rfl, hlt 21 (by decide), le_ar rfl, hlt 22 (by decide), le_ar rfl, hlt 23 (by decide), _, fin z4 (by rw [if_neg h2, hz4, hz3]), rfl, rfl, rfl, rfl, rfl, rfl, rfl, rfl, rfl, rfl, rfl, rfl, rfl, rfl, rfl, rfl, rfl, rfl, rfl, rfl, rfl, rfl, rfl, rfl, trivial⟩
end Go.Eng

/- Poly: the document's clamped holds its contract. -/
set_option linter.unusedSimpArgs false
set_option linter.unusedVariables false
set_option linter.unusedSectionVars false
set_option maxRecDepth 100000
namespace Go.Eng
variable [CW : CWorld]
open Go.Proofs

/-- A clamped byte. -/
def clampB (key : List UInt8) (n : Nat) : Int := if n % 4 = 3 then ((key.getD n 0).toNat : Int) % 16 else if n % 4 = 0 ∧ 0 < n then ((key.getD n 0).toNat : Int) / 4 * 4 else ((key.getD n 0).toNat : Int)

theorem clampS_length (key : List UInt8) : (PL.clampS key).length = 16 := by simp [PL.clampS, PL.clampI]
theorem clampS_get {key : List UInt8} (hk : 16 ≤ key.length) {n : Nat} (hn : n < 16) : (PL.clampS key)[n]? = some (UInt8.ofNat (clampB key n).toNat) := by
  have hg : (PL.ints (key.take 16)).getD n 0 = ((key.getD n 0).toNat : Int) := by
    rw [ints_getD]
    simp [List.getD, List.getElem?_take, hn]
  unfold PL.clampS PL.clampI clampB
  rw [List.map_map, List.getElem?_map, List.getElem?_range hn, Option.map_some, ← hg]
  rfl
theorem clampB_bound (key : List UInt8) (n : Nat) : 0 ≤ clampB key n ∧ clampB key n < 256 := by
  have := (key.getD n 0).toNat_lt
  unfold clampB
  split
  · omega
  · split <;> omega

theorem clamped_step {key l : List UInt8} (h : PL.ClampedOK key l) (hk : 16 ≤ key.length) (hl : l.length < 16) {w : Int} (hw : w = clampB key l.length) : PL.ClampedOK key (l ++ [UInt8.ofNat w.toNat]) := by
  refine ⟨by simp; omega, ?_⟩
  have e := h.eq
  rw [List.length_append, show [UInt8.ofNat w.toNat].length = 1 from rfl, List.take_add_one, clampS_get hk hl, ← e, hw]
  rfl

theorem clampedSpec_ok : clampedSpec.OK PP 32 := by
  refine Spec.ok_of_run (fn := Try.f32) (c := Try.f32.body.getD .skip) (by kernel_rfl) (by kernel_rfl) (by kernel_rfl) (specs := noSpec) noSpec_ok (fun x => refInvs [] x []) 1000 ?_
  intro (x : List UInt8) ⟨hk, hx⟩
  refine (vc32 ar0 x).mpr ?_
  simp only [ars, PL.ints_length, true_and, and_true, and_false, exists_const, exists_false, false_or, or_false, forall_const]
  have z0 : PL.ClampedOK x [] := ⟨by simp, by simp⟩
  have rm : ∀ n : Nat, (n : Int).tmod 4 = ((n % 4 : Nat) : Int) := fun n => by
    rw [Int.tmod_eq_emod_of_nonneg (by omega)]; rfl
  refine ⟨⟨by omega, ?_⟩, ?_⟩
  · intro z hz z1 hz1 z2 hz2 c hc
    have hb := nat_of_sget x 0
    rw [wrap_i64 (by omega) (by omega)] at hz1
    rw [wrap_u8] at hz2
    have hw : z2 = clampB x 0 := by
      unfold clampB
      rw [if_neg (by omega), if_neg (by omega), hz2, hz1, hz]
      show ((x.getD 0 0).toNat : Int) % 256 = _
      have := (x.getD 0 0).toNat_lt
      omega
    exact ⟨([UInt8.ofNat z2.toNat], c), ⟨clamped_step (l := []) z0 hk (by simp) hw, ⟨by simpa using hc⟩⟩, by simp, rfl, rfl, rfl, rfl, acc_one (by omega) (by omega)⟩
  · rintro ⟨l, c⟩ ⟨hl, ⟨hc⟩⟩
    have hll := hl.len
    simp only at hl hc hll ⊢
    have hbb := clampB_bound x l.length
    refine ⟨fun hlt => ⟨by omega, by omega, ?_⟩, fun hge => ?_⟩
    · intro z hz z1 hz1
      have hb := nat_of_sget x (l.length : Int)
      rw [wrap_i64 (by omega) (by omega)] at hz1
      rw [Int.toNat_natCast] at hz hb
      have hv : z1 = ((x.getD l.length 0).toNat : Int) := hz1.trans hz
      intro m hm
      rw [rm] at hm
      refine ⟨fun h3 => ?_, fun h3 => ?_⟩
      · intro y hy m2 hm2
        rw [rm] at hm2
        rw [Int.tmod_eq_emod_of_nonneg (by omega)] at hy
        refine ⟨fun h0 => by omega, fun h0 => ?_⟩
        intro w hw
        rw [wrap_u8] at hw
        have hwc : w = clampB x l.length := by
          unfold clampB
          rw [if_pos (by omega)]
          omega
        refine ⟨by omega, by omega, ?_⟩
        intro c' hc' n hn
        rw [wrap_i64 (by omega) (by omega)] at hn
        exact ⟨(l ++ [UInt8.ofNat w.toNat], c'), ⟨clamped_step hl hk (by omega) hwc, ⟨by simpa using hc'⟩⟩, by simp; omega, by simp, rfl, by simp [hn], rfl, acc_app l (by omega) (by omega)⟩
      · intro m2 hm2
        rw [rm] at hm2
        refine ⟨fun h0 => ⟨fun hpos => ?_, fun hpos => ?_⟩, fun h0 => ?_⟩
        · intro y hy y2 hy2
          rw [Int.tdiv_eq_ediv_of_nonneg (by omega), wrap_i64 (by omega) (by omega)] at hy
          rw [wrap_i64 (by omega) (by omega)] at hy2
          intro w hw
          rw [wrap_u8] at hw
          have hwc : w = clampB x l.length := by
            unfold clampB
            rw [if_neg (by omega), if_pos (by omega)]
            omega
          refine ⟨by omega, by omega, ?_⟩
          intro c' hc' n hn
          rw [wrap_i64 (by omega) (by omega)] at hn
          exact ⟨(l ++ [UInt8.ofNat w.toNat], c'), ⟨clamped_step hl hk (by omega) hwc, ⟨by simpa using hc'⟩⟩, by simp; omega, by simp, rfl, by simp [hn], rfl, acc_app l (by omega) (by omega)⟩
        · intro w hw
          rw [wrap_u8] at hw
          have hwc : w = clampB x l.length := by
            unfold clampB
            rw [if_neg (by omega), if_neg (by omega)]
            omega
          refine ⟨by omega, by omega, ?_⟩
          intro c' hc' n hn
          rw [wrap_i64 (by omega) (by omega)] at hn
          exact ⟨(l ++ [UInt8.ofNat w.toNat], c'), ⟨clamped_step hl hk (by omega) hwc, ⟨by simpa using hc'⟩⟩, by simp; omega, by simp, rfl, by simp [hn], rfl, acc_app l (by omega) (by omega)⟩
        · intro w hw
          rw [wrap_u8] at hw
          have hwc : w = clampB x l.length := by
            unfold clampB
            rw [if_neg (by omega), if_neg (by omega)]
            omega
          refine ⟨by omega, by omega, ?_⟩
          intro c' hc' n hn
          rw [wrap_i64 (by omega) (by omega)] at hn
          exact ⟨(l ++ [UInt8.ofNat w.toNat], c'), ⟨clamped_step hl hk (by omega) hwc, ⟨by simpa using hc'⟩⟩, by simp; omega, by simp, rfl, by simp [hn], rfl, acc_app l (by omega) (by omega)⟩
    · refine ⟨by omega, by omega, ?_⟩
      rintro t rfl
      rw [acc_bytes, hl.eq, show l.length = 16 by omega, List.take_of_length_le (by rw [clampS_length]; omega)]
end Go.Eng

/- Poly: walks. -/
set_option linter.unusedVariables false
set_option linter.unusedSectionVars false
namespace Go.Eng
variable [CW : CWorld]
open Go.Proofs
open Go.PL (L5 MacS)
set_option maxRecDepth 100000
theorem vc19 (ar : AR) (x : List UInt8 × List UInt8) : (run ar PP r19 (refInvs [] x.1 x.2) 1000 19 0 (Try.f19.body.getD .skip) ([.str x.1, .str x.2] ++ List.replicate (Try.f19.ntmps - 2) .any) [] (endCall ar PP Try.f19.results.toList (refTagSpec.fin x))) = (
    (¬ar.eq (ar.slen x.fst) 32 → (∃ (y : Unit), PL.NotKey x.fst ∧ ([] : List UInt8) = [] ∧ True) ∨ ∃ (y : Unit), PL.IsKey x.fst ∧ False) ∧ (¬¬ar.eq (ar.slen x.fst) 32 → ∃ (x_1 :
    List UInt8), x.fst = x_1 ∧ PL.ClampedPre x_1 ∧ ∀ (y : Unit), True → ∃ (x_2 : List UInt8 × Int), PL.clampS x_1 = x_2.fst ∧ 0 = x_2.snd ∧ PL.NumberPre x_2.fst x_2.snd ∧ ∀ (y :
    List Int), PL.numberPost x_2.fst x_2.snd y → (∃ (i : Nat × List Int), PL.RefOK (PL.rOf x.fst) x.snd i.fst i.snd ∧ x.fst = x.fst ∧ x.snd = x.snd ∧ ([] : List UInt8) = [] ∧ 0 =
    (↑(Nat.mul 16 i.fst) : Int) ∧ x.fst = x.fst ∧ ar.slen x.fst = ar.slen x.fst ∧ (ar.eq (ar.slen x.fst) 32 → False ↔ ar.eq (ar.slen x.fst) 32 → False) ∧ x.fst = x.fst ∧ PL.clampS
    x_1 = PL.clampS x_1 ∧ y.getD 0 0 = y.getD 0 0 ∧ y.getD 1 0 = y.getD 1 0 ∧ y.getD 2 0 = y.getD 2 0 ∧ y.getD 3 0 = y.getD 3 0 ∧ y.getD 4 0 = y.getD 4 0 ∧ y.getD 5 0 = y.getD 5 0
    ∧ y.getD 6 0 = y.getD 6 0 ∧ y.getD 7 0 = y.getD 7 0 ∧ y.getD 8 0 = y.getD 8 0 ∧ y.getD 9 0 = y.getD 9 0 ∧ y.getD 10 0 = y.getD 10 0 ∧ y.getD 11 0 = y.getD 11 0 ∧ y.getD 12 0 =
    y.getD 12 0 ∧ y.getD 13 0 = y.getD 13 0 ∧ y.getD 14 0 = y.getD 14 0 ∧ y.getD 15 0 = y.getD 15 0 ∧ y.getD 16 0 = y.getD 16 0 ∧ y.getD 17 0 = y.getD 17 0 ∧ y.getD 18 0 = y.getD
    18 0 ∧ y.getD 19 0 = y.getD 19 0 ∧ y.getD 20 0 = y.getD 20 0 ∧ y.getD 21 0 = y.getD 21 0 ∧ y.getD 22 0 = y.getD 22 0 ∧ y.getD 23 0 = y.getD 23 0 ∧ y.getD 0 0 = y.getD 0 0 ∧
    y.getD 1 0 = y.getD 1 0 ∧ y.getD 2 0 = y.getD 2 0 ∧ y.getD 3 0 = y.getD 3 0 ∧ y.getD 4 0 = y.getD 4 0 ∧ y.getD 5 0 = y.getD 5 0 ∧ y.getD 6 0 = y.getD 6 0 ∧ y.getD 7 0 = y.getD
    7 0 ∧ y.getD 8 0 = y.getD 8 0 ∧ y.getD 9 0 = y.getD 9 0 ∧ y.getD 10 0 = y.getD 10 0 ∧ y.getD 11 0 = y.getD 11 0 ∧ y.getD 12 0 = y.getD 12 0 ∧ y.getD 13 0 = y.getD 13 0 ∧ y.getD
    14 0 = y.getD 14 0 ∧ y.getD 15 0 = y.getD 15 0 ∧ y.getD 16 0 = y.getD 16 0 ∧ y.getD 17 0 = y.getD 17 0 ∧ y.getD 18 0 = y.getD 18 0 ∧ y.getD 19 0 = y.getD 19 0 ∧ y.getD 20 0 =
    y.getD 20 0 ∧ y.getD 21 0 = y.getD 21 0 ∧ y.getD 22 0 = y.getD 22 0 ∧ y.getD 23 0 = y.getD 23 0 ∧ [0, 0, 0, 0, 0, 0, 0, 0, 0, 0, 0, 0, 0, 0, 0, 0, 0, 0, 0, 0, 0, 0, 0, 0] =
    i.snd ∧ True) ∧ ∀ (i : Nat × List Int), PL.RefOK (PL.rOf x.fst) x.snd i.fst i.snd → (ar.lt (↑(Nat.mul 16 i.fst) : Int) (ar.slen x.snd) → ∀ (z : Int), z = ar.wrap IntKind.i64
    (ar.add (↑(Nat.mul 16 i.fst) : Int) 16) → (ar.lt (ar.slen x.snd) z → ar.le 0 0 ∧ ar.lt 0 (ar.ilen i.snd) ∧ ar.le 0 1 ∧ ar.lt 1 (ar.ilen i.snd) ∧ ar.le 0 2 ∧ ar.lt 2 (ar.ilen
    i.snd) ∧ ar.le 0 3 ∧ ar.lt 3 (ar.ilen i.snd) ∧ ar.le 0 4 ∧ ar.lt 4 (ar.ilen i.snd) ∧ ar.le 0 5 ∧ ar.lt 5 (ar.ilen i.snd) ∧ ar.le 0 6 ∧ ar.lt 6 (ar.ilen i.snd) ∧ ar.le 0 7 ∧
    ar.lt 7 (ar.ilen i.snd) ∧ ar.le 0 8 ∧ ar.lt 8 (ar.ilen i.snd) ∧ ar.le 0 9 ∧ ar.lt 9 (ar.ilen i.snd) ∧ ar.le 0 10 ∧ ar.lt 10 (ar.ilen i.snd) ∧ ar.le 0 11 ∧ ar.lt 11 (ar.ilen
    i.snd) ∧ ar.le 0 12 ∧ ar.lt 12 (ar.ilen i.snd) ∧ ar.le 0 13 ∧ ar.lt 13 (ar.ilen i.snd) ∧ ar.le 0 14 ∧ ar.lt 14 (ar.ilen i.snd) ∧ ar.le 0 15 ∧ ar.lt 15 (ar.ilen i.snd) ∧ ar.le 0
    16 ∧ ar.lt 16 (ar.ilen i.snd) ∧ ar.le 0 17 ∧ ar.lt 17 (ar.ilen i.snd) ∧ ar.le 0 18 ∧ ar.lt 18 (ar.ilen i.snd) ∧ ar.le 0 19 ∧ ar.lt 19 (ar.ilen i.snd) ∧ ar.le 0 20 ∧ ar.lt 20
    (ar.ilen i.snd) ∧ ar.le 0 21 ∧ ar.lt 21 (ar.ilen i.snd) ∧ ar.le 0 22 ∧ ar.lt 22 (ar.ilen i.snd) ∧ ar.le 0 23 ∧ ar.lt 23 (ar.ilen i.snd) ∧ ar.le 0 (↑(Nat.mul 16 i.fst) : Int) ∧
    ar.le (↑(Nat.mul 16 i.fst) : Int) (ar.slen x.snd) ∧ ar.le (ar.slen x.snd) (ar.slen x.snd) ∧ ∀ (t : List UInt8), t = ar.sext x.snd (↑(Nat.mul 16 i.fst) : Int) (ar.slen x.snd) →
    ∃ (x_3 : List UInt8 × Int), t = x_3.fst ∧ 1 = x_3.snd ∧ PL.NumberPre x_3.fst x_3.snd ∧ ∀ (y_1 : List Int), PL.numberPost x_3.fst x_3.snd y_1 → ∃ (x_4 : List Int × List Int),
    ar.iget i.snd 0 = x_4.fst.getD 0 0 ∧ ar.iget i.snd 1 = x_4.fst.getD 1 0 ∧ ar.iget i.snd 2 = x_4.fst.getD 2 0 ∧ ar.iget i.snd 3 = x_4.fst.getD 3 0 ∧ ar.iget i.snd 4 =
    x_4.fst.getD 4 0 ∧ ar.iget i.snd 5 = x_4.fst.getD 5 0 ∧ ar.iget i.snd 6 = x_4.fst.getD 6 0 ∧ ar.iget i.snd 7 = x_4.fst.getD 7 0 ∧ ar.iget i.snd 8 = x_4.fst.getD 8 0 ∧ ar.iget
    i.snd 9 = x_4.fst.getD 9 0 ∧ ar.iget i.snd 10 = x_4.fst.getD 10 0 ∧ ar.iget i.snd 11 = x_4.fst.getD 11 0 ∧ ar.iget i.snd 12 = x_4.fst.getD 12 0 ∧ ar.iget i.snd 13 =
    x_4.fst.getD 13 0 ∧ ar.iget i.snd 14 = x_4.fst.getD 14 0 ∧ ar.iget i.snd 15 = x_4.fst.getD 15 0 ∧ ar.iget i.snd 16 = x_4.fst.getD 16 0 ∧ ar.iget i.snd 17 = x_4.fst.getD 17 0 ∧
    ar.iget i.snd 18 = x_4.fst.getD 18 0 ∧ ar.iget i.snd 19 = x_4.fst.getD 19 0 ∧ ar.iget i.snd 20 = x_4.fst.getD 20 0 ∧ ar.iget i.snd 21 = x_4.fst.getD 21 0 ∧ ar.iget i.snd 22 =
    x_4.fst.getD 22 0 ∧ ar.iget i.snd 23 = x_4.fst.getD 23 0 ∧ y_1.getD 0 0 = x_4.snd.getD 0 0 ∧ y_1.getD 1 0 = x_4.snd.getD 1 0 ∧ y_1.getD 2 0 = x_4.snd.getD 2 0 ∧ y_1.getD 3 0 =
    x_4.snd.getD 3 0 ∧ y_1.getD 4 0 = x_4.snd.getD 4 0 ∧ y_1.getD 5 0 = x_4.snd.getD 5 0 ∧ y_1.getD 6 0 = x_4.snd.getD 6 0 ∧ y_1.getD 7 0 = x_4.snd.getD 7 0 ∧ y_1.getD 8 0 =
    x_4.snd.getD 8 0 ∧ y_1.getD 9 0 = x_4.snd.getD 9 0 ∧ y_1.getD 10 0 = x_4.snd.getD 10 0 ∧ y_1.getD 11 0 = x_4.snd.getD 11 0 ∧ y_1.getD 12 0 = x_4.snd.getD 12 0 ∧ y_1.getD 13 0 =
    x_4.snd.getD 13 0 ∧ y_1.getD 14 0 = x_4.snd.getD 14 0 ∧ y_1.getD 15 0 = x_4.snd.getD 15 0 ∧ y_1.getD 16 0 = x_4.snd.getD 16 0 ∧ y_1.getD 17 0 = x_4.snd.getD 17 0 ∧ y_1.getD 18
    0 = x_4.snd.getD 18 0 ∧ y_1.getD 19 0 = x_4.snd.getD 19 0 ∧ y_1.getD 20 0 = x_4.snd.getD 20 0 ∧ y_1.getD 21 0 = x_4.snd.getD 21 0 ∧ y_1.getD 22 0 = x_4.snd.getD 22 0 ∧ y_1.getD
    23 0 = x_4.snd.getD 23 0 ∧ PL.Two x_4.fst x_4.snd ∧ ∀ (y_2 : List Int), PL.addPost x_4.fst x_4.snd y_2 → ∃ (x_5 : List Int × List Int), y_2.getD 0 0 = x_5.fst.getD 0 0 ∧
    y_2.getD 1 0 = x_5.fst.getD 1 0 ∧ y_2.getD 2 0 = x_5.fst.getD 2 0 ∧ y_2.getD 3 0 = x_5.fst.getD 3 0 ∧ y_2.getD 4 0 = x_5.fst.getD 4 0 ∧ y_2.getD 5 0 = x_5.fst.getD 5 0 ∧
    y_2.getD 6 0 = x_5.fst.getD 6 0 ∧ y_2.getD 7 0 = x_5.fst.getD 7 0 ∧ y_2.getD 8 0 = x_5.fst.getD 8 0 ∧ y_2.getD 9 0 = x_5.fst.getD 9 0 ∧ y_2.getD 10 0 = x_5.fst.getD 10 0 ∧
    y_2.getD 11 0 = x_5.fst.getD 11 0 ∧ y_2.getD 12 0 = x_5.fst.getD 12 0 ∧ y_2.getD 13 0 = x_5.fst.getD 13 0 ∧ y_2.getD 14 0 = x_5.fst.getD 14 0 ∧ y_2.getD 15 0 = x_5.fst.getD 15
    0 ∧ y_2.getD 16 0 = x_5.fst.getD 16 0 ∧ y_2.getD 17 0 = x_5.fst.getD 17 0 ∧ y_2.getD 18 0 = x_5.fst.getD 18 0 ∧ y_2.getD 19 0 = x_5.fst.getD 19 0 ∧ y_2.getD 20 0 = x_5.fst.getD
    20 0 ∧ y_2.getD 21 0 = x_5.fst.getD 21 0 ∧ y_2.getD 22 0 = x_5.fst.getD 22 0 ∧ y_2.getD 23 0 = x_5.fst.getD 23 0 ∧ y.getD 0 0 = x_5.snd.getD 0 0 ∧ y.getD 1 0 = x_5.snd.getD 1 0
    ∧ y.getD 2 0 = x_5.snd.getD 2 0 ∧ y.getD 3 0 = x_5.snd.getD 3 0 ∧ y.getD 4 0 = x_5.snd.getD 4 0 ∧ y.getD 5 0 = x_5.snd.getD 5 0 ∧ y.getD 6 0 = x_5.snd.getD 6 0 ∧ y.getD 7 0 =
    x_5.snd.getD 7 0 ∧ y.getD 8 0 = x_5.snd.getD 8 0 ∧ y.getD 9 0 = x_5.snd.getD 9 0 ∧ y.getD 10 0 = x_5.snd.getD 10 0 ∧ y.getD 11 0 = x_5.snd.getD 11 0 ∧ y.getD 12 0 =
    x_5.snd.getD 12 0 ∧ y.getD 13 0 = x_5.snd.getD 13 0 ∧ y.getD 14 0 = x_5.snd.getD 14 0 ∧ y.getD 15 0 = x_5.snd.getD 15 0 ∧ y.getD 16 0 = x_5.snd.getD 16 0 ∧ y.getD 17 0 =
    x_5.snd.getD 17 0 ∧ y.getD 18 0 = x_5.snd.getD 18 0 ∧ y.getD 19 0 = x_5.snd.getD 19 0 ∧ y.getD 20 0 = x_5.snd.getD 20 0 ∧ y.getD 21 0 = x_5.snd.getD 21 0 ∧ y.getD 22 0 =
    x_5.snd.getD 22 0 ∧ y.getD 23 0 = x_5.snd.getD 23 0 ∧ PL.Two x_5.fst x_5.snd ∧ ∀ (y_3 : List Int), PL.timesPost x_5.fst x_5.snd y_3 → ∃ (x_6 : List Int), y_3.getD 0 0 =
    x_6.getD 0 0 ∧ y_3.getD 1 0 = x_6.getD 1 0 ∧ y_3.getD 2 0 = x_6.getD 2 0 ∧ y_3.getD 3 0 = x_6.getD 3 0 ∧ y_3.getD 4 0 = x_6.getD 4 0 ∧ y_3.getD 5 0 = x_6.getD 5 0 ∧ y_3.getD 6
    0 = x_6.getD 6 0 ∧ y_3.getD 7 0 = x_6.getD 7 0 ∧ y_3.getD 8 0 = x_6.getD 8 0 ∧ y_3.getD 9 0 = x_6.getD 9 0 ∧ y_3.getD 10 0 = x_6.getD 10 0 ∧ y_3.getD 11 0 = x_6.getD 11 0 ∧
    y_3.getD 12 0 = x_6.getD 12 0 ∧ y_3.getD 13 0 = x_6.getD 13 0 ∧ y_3.getD 14 0 = x_6.getD 14 0 ∧ y_3.getD 15 0 = x_6.getD 15 0 ∧ y_3.getD 16 0 = x_6.getD 16 0 ∧ y_3.getD 17 0 =
    x_6.getD 17 0 ∧ y_3.getD 18 0 = x_6.getD 18 0 ∧ y_3.getD 19 0 = x_6.getD 19 0 ∧ y_3.getD 20 0 = x_6.getD 20 0 ∧ y_3.getD 21 0 = x_6.getD 21 0 ∧ y_3.getD 22 0 = x_6.getD 22 0 ∧
    y_3.getD 23 0 = x_6.getD 23 0 ∧ PL.Num x_6 ∧ ∀ (y_4 : List Int), PL.moduloPost x_6 y_4 → ∀ (z : Int), z = ar.wrap IntKind.i64 (ar.add (↑(Nat.mul 16 i.fst) : Int) 16) → ∃ (j :
    Nat × List Int), PL.RefOK (PL.rOf x.fst) x.snd j.fst j.snd ∧ ((x.snd.length.add 16).sub (Nat.mul 16 j.fst)).lt ((x.snd.length.add 16).sub (Nat.mul 16 i.fst)) ∧ x.fst = x.fst ∧
    x.snd = x.snd ∧ ([] : List UInt8) = [] ∧ z = (↑(Nat.mul 16 j.fst) : Int) ∧ x.fst = x.fst ∧ ar.slen x.fst = ar.slen x.fst ∧ (ar.eq (ar.slen x.fst) 32 → False ↔ ar.eq (ar.slen
    x.fst) 32 → False) ∧ x.fst = x.fst ∧ PL.clampS x_1 = PL.clampS x_1 ∧ y.getD 0 0 = y.getD 0 0 ∧ y.getD 1 0 = y.getD 1 0 ∧ y.getD 2 0 = y.getD 2 0 ∧ y.getD 3 0 = y.getD 3 0 ∧
    y.getD 4 0 = y.getD 4 0 ∧ y.getD 5 0 = y.getD 5 0 ∧ y.getD 6 0 = y.getD 6 0 ∧ y.getD 7 0 = y.getD 7 0 ∧ y.getD 8 0 = y.getD 8 0 ∧ y.getD 9 0 = y.getD 9 0 ∧ y.getD 10 0 = y.getD
    10 0 ∧ y.getD 11 0 = y.getD 11 0 ∧ y.getD 12 0 = y.getD 12 0 ∧ y.getD 13 0 = y.getD 13 0 ∧ y.getD 14 0 = y.getD 14 0 ∧ y.getD 15 0 = y.getD 15 0 ∧ y.getD 16 0 = y.getD 16 0 ∧
    y.getD 17 0 = y.getD 17 0 ∧ y.getD 18 0 = y.getD 18 0 ∧ y.getD 19 0 = y.getD 19 0 ∧ y.getD 20 0 = y.getD 20 0 ∧ y.getD 21 0 = y.getD 21 0 ∧ y.getD 22 0 = y.getD 22 0 ∧ y.getD
    23 0 = y.getD 23 0 ∧ y.getD 0 0 = y.getD 0 0 ∧ y.getD 1 0 = y.getD 1 0 ∧ y.getD 2 0 = y.getD 2 0 ∧ y.getD 3 0 = y.getD 3 0 ∧ y.getD 4 0 = y.getD 4 0 ∧ y.getD 5 0 = y.getD 5 0 ∧
    y.getD 6 0 = y.getD 6 0 ∧ y.getD 7 0 = y.getD 7 0 ∧ y.getD 8 0 = y.getD 8 0 ∧ y.getD 9 0 = y.getD 9 0 ∧ y.getD 10 0 = y.getD 10 0 ∧ y.getD 11 0 = y.getD 11 0 ∧ y.getD 12 0 =
    y.getD 12 0 ∧ y.getD 13 0 = y.getD 13 0 ∧ y.getD 14 0 = y.getD 14 0 ∧ y.getD 15 0 = y.getD 15 0 ∧ y.getD 16 0 = y.getD 16 0 ∧ y.getD 17 0 = y.getD 17 0 ∧ y.getD 18 0 = y.getD
    18 0 ∧ y.getD 19 0 = y.getD 19 0 ∧ y.getD 20 0 = y.getD 20 0 ∧ y.getD 21 0 = y.getD 21 0 ∧ y.getD 22 0 = y.getD 22 0 ∧ y.getD 23 0 = y.getD 23 0 ∧ [y_4.getD 0 0, y_4.getD 1 0,
    y_4.getD 2 0, y_4.getD 3 0, y_4.getD 4 0, y_4.getD 5 0, y_4.getD 6 0, y_4.getD 7 0, y_4.getD 8 0, y_4.getD 9 0, y_4.getD 10 0, y_4.getD 11 0, y_4.getD 12 0, y_4.getD 13 0,
    y_4.getD 14 0, y_4.getD 15 0, y_4.getD 16 0, y_4.getD 17 0, y_4.getD 18 0, y_4.getD 19 0, y_4.getD 20 0, y_4.getD 21 0, y_4.getD 22 0, y_4.getD 23 0] = j.snd ∧ True) ∧ (¬ar.lt
    (ar.slen x.snd) z → ar.le 0 0 ∧ ar.lt 0 (ar.ilen i.snd) ∧ ar.le 0 1 ∧ ar.lt 1 (ar.ilen i.snd) ∧ ar.le 0 2 ∧ ar.lt 2 (ar.ilen i.snd) ∧ ar.le 0 3 ∧ ar.lt 3 (ar.ilen i.snd) ∧
    ar.le 0 4 ∧ ar.lt 4 (ar.ilen i.snd) ∧ ar.le 0 5 ∧ ar.lt 5 (ar.ilen i.snd) ∧ ar.le 0 6 ∧ ar.lt 6 (ar.ilen i.snd) ∧ ar.le 0 7 ∧ ar.lt 7 (ar.ilen i.snd) ∧ ar.le 0 8 ∧ ar.lt 8
    (ar.ilen i.snd) ∧ ar.le 0 9 ∧ ar.lt 9 (ar.ilen i.snd) ∧ ar.le 0 10 ∧ ar.lt 10 (ar.ilen i.snd) ∧ ar.le 0 11 ∧ ar.lt 11 (ar.ilen i.snd) ∧ ar.le 0 12 ∧ ar.lt 12 (ar.ilen i.snd) ∧
    ar.le 0 13 ∧ ar.lt 13 (ar.ilen i.snd) ∧ ar.le 0 14 ∧ ar.lt 14 (ar.ilen i.snd) ∧ ar.le 0 15 ∧ ar.lt 15 (ar.ilen i.snd) ∧ ar.le 0 16 ∧ ar.lt 16 (ar.ilen i.snd) ∧ ar.le 0 17 ∧
    ar.lt 17 (ar.ilen i.snd) ∧ ar.le 0 18 ∧ ar.lt 18 (ar.ilen i.snd) ∧ ar.le 0 19 ∧ ar.lt 19 (ar.ilen i.snd) ∧ ar.le 0 20 ∧ ar.lt 20 (ar.ilen i.snd) ∧ ar.le 0 21 ∧ ar.lt 21
    (ar.ilen i.snd) ∧ ar.le 0 22 ∧ ar.lt 22 (ar.ilen i.snd) ∧ ar.le 0 23 ∧ ar.lt 23 (ar.ilen i.snd) ∧ ar.le 0 (↑(Nat.mul 16 i.fst) : Int) ∧ ar.le (↑(Nat.mul 16 i.fst) : Int) z ∧
    ar.le z (ar.slen x.snd) ∧ ∀ (t : List UInt8), t = ar.sext x.snd (↑(Nat.mul 16 i.fst) : Int) z → ∃ (x_3 : List UInt8 × Int), t = x_3.fst ∧ 1 = x_3.snd ∧ PL.NumberPre x_3.fst
    x_3.snd ∧ ∀ (y_1 : List Int), PL.numberPost x_3.fst x_3.snd y_1 → ∃ (x_4 : List Int × List Int), ar.iget i.snd 0 = x_4.fst.getD 0 0 ∧ ar.iget i.snd 1 = x_4.fst.getD 1 0 ∧
    ar.iget i.snd 2 = x_4.fst.getD 2 0 ∧ ar.iget i.snd 3 = x_4.fst.getD 3 0 ∧ ar.iget i.snd 4 = x_4.fst.getD 4 0 ∧ ar.iget i.snd 5 = x_4.fst.getD 5 0 ∧ ar.iget i.snd 6 =
    x_4.fst.getD 6 0 ∧ ar.iget i.snd 7 = x_4.fst.getD 7 0 ∧ ar.iget i.snd 8 = x_4.fst.getD 8 0 ∧ ar.iget i.snd 9 = x_4.fst.getD 9 0 ∧ ar.iget i.snd 10 = x_4.fst.getD 10 0 ∧ ar.iget
    i.snd 11 = x_4.fst.getD 11 0 ∧ ar.iget i.snd 12 = x_4.fst.getD 12 0 ∧ ar.iget i.snd 13 = x_4.fst.getD 13 0 ∧ ar.iget i.snd 14 = x_4.fst.getD 14 0 ∧ ar.iget i.snd 15 =
    x_4.fst.getD 15 0 ∧ ar.iget i.snd 16 = x_4.fst.getD 16 0 ∧ ar.iget i.snd 17 = x_4.fst.getD 17 0 ∧ ar.iget i.snd 18 = x_4.fst.getD 18 0 ∧ ar.iget i.snd 19 = x_4.fst.getD 19 0 ∧
    ar.iget i.snd 20 = x_4.fst.getD 20 0 ∧ ar.iget i.snd 21 = x_4.fst.getD 21 0 ∧ ar.iget i.snd 22 = x_4.fst.getD 22 0 ∧ ar.iget i.snd 23 = x_4.fst.getD 23 0 ∧ y_1.getD 0 0 =
    x_4.snd.getD 0 0 ∧ y_1.getD 1 0 = x_4.snd.getD 1 0 ∧ y_1.getD 2 0 = x_4.snd.getD 2 0 ∧ y_1.getD 3 0 = x_4.snd.getD 3 0 ∧ y_1.getD 4 0 = x_4.snd.getD 4 0 ∧ y_1.getD 5 0 =
    x_4.snd.getD 5 0 ∧ y_1.getD 6 0 = x_4.snd.getD 6 0 ∧ y_1.getD 7 0 = x_4.snd.getD 7 0 ∧ y_1.getD 8 0 = x_4.snd.getD 8 0 ∧ y_1.getD 9 0 = x_4.snd.getD 9 0 ∧ y_1.getD 10 0 =
    x_4.snd.getD 10 0 ∧ y_1.getD 11 0 = x_4.snd.getD 11 0 ∧ y_1.getD 12 0 = x_4.snd.getD 12 0 ∧ y_1.getD 13 0 = x_4.snd.getD 13 0 ∧ y_1.getD 14 0 = x_4.snd.getD 14 0 ∧ y_1.getD 15
    0 = x_4.snd.getD 15 0 ∧ y_1.getD 16 0 = x_4.snd.getD 16 0 ∧ y_1.getD 17 0 = x_4.snd.getD 17 0 ∧ y_1.getD 18 0 = x_4.snd.getD 18 0 ∧ y_1.getD 19 0 = x_4.snd.getD 19 0 ∧ y_1.getD
    20 0 = x_4.snd.getD 20 0 ∧ y_1.getD 21 0 = x_4.snd.getD 21 0 ∧ y_1.getD 22 0 = x_4.snd.getD 22 0 ∧ y_1.getD 23 0 = x_4.snd.getD 23 0 ∧ PL.Two x_4.fst x_4.snd ∧ ∀ (y_2 : List
    Int), PL.addPost x_4.fst x_4.snd y_2 → ∃ (x_5 : List Int × List Int), y_2.getD 0 0 = x_5.fst.getD 0 0 ∧ y_2.getD 1 0 = x_5.fst.getD 1 0 ∧ y_2.getD 2 0 = x_5.fst.getD 2 0 ∧
    y_2.getD 3 0 = x_5.fst.getD 3 0 ∧ y_2.getD 4 0 = x_5.fst.getD 4 0 ∧ y_2.getD 5 0 = x_5.fst.getD 5 0 ∧ y_2.getD 6 0 = x_5.fst.getD 6 0 ∧ y_2.getD 7 0 = x_5.fst.getD 7 0 ∧
    y_2.getD 8 0 = x_5.fst.getD 8 0 ∧ y_2.getD 9 0 = x_5.fst.getD 9 0 ∧ y_2.getD 10 0 = x_5.fst.getD 10 0 ∧ y_2.getD 11 0 = x_5.fst.getD 11 0 ∧ y_2.getD 12 0 = x_5.fst.getD 12 0 ∧
    y_2.getD 13 0 = x_5.fst.getD 13 0 ∧ y_2.getD 14 0 = x_5.fst.getD 14 0 ∧ y_2.getD 15 0 = x_5.fst.getD 15 0 ∧ y_2.getD 16 0 = x_5.fst.getD 16 0 ∧ y_2.getD 17 0 = x_5.fst.getD 17
    0 ∧ y_2.getD 18 0 = x_5.fst.getD 18 0 ∧ y_2.getD 19 0 = x_5.fst.getD 19 0 ∧ y_2.getD 20 0 = x_5.fst.getD 20 0 ∧ y_2.getD 21 0 = x_5.fst.getD 21 0 ∧ y_2.getD 22 0 = x_5.fst.getD
    22 0 ∧ y_2.getD 23 0 = x_5.fst.getD 23 0 ∧ y.getD 0 0 = x_5.snd.getD 0 0 ∧ y.getD 1 0 = x_5.snd.getD 1 0 ∧ y.getD 2 0 = x_5.snd.getD 2 0 ∧ y.getD 3 0 = x_5.snd.getD 3 0 ∧
    y.getD 4 0 = x_5.snd.getD 4 0 ∧ y.getD 5 0 = x_5.snd.getD 5 0 ∧ y.getD 6 0 = x_5.snd.getD 6 0 ∧ y.getD 7 0 = x_5.snd.getD 7 0 ∧ y.getD 8 0 = x_5.snd.getD 8 0 ∧ y.getD 9 0 =
    x_5.snd.getD 9 0 ∧ y.getD 10 0 = x_5.snd.getD 10 0 ∧ y.getD 11 0 = x_5.snd.getD 11 0 ∧ y.getD 12 0 = x_5.snd.getD 12 0 ∧ y.getD 13 0 = x_5.snd.getD 13 0 ∧ y.getD 14 0 =
    x_5.snd.getD 14 0 ∧ y.getD 15 0 = x_5.snd.getD 15 0 ∧ y.getD 16 0 = x_5.snd.getD 16 0 ∧ y.getD 17 0 = x_5.snd.getD 17 0 ∧ y.getD 18 0 = x_5.snd.getD 18 0 ∧ y.getD 19 0 =
    x_5.snd.getD 19 0 ∧ y.getD 20 0 = x_5.snd.getD 20 0 ∧ y.getD 21 0 = x_5.snd.getD 21 0 ∧ y.getD 22 0 = x_5.snd.getD 22 0 ∧ y.getD 23 0 = x_5.snd.getD 23 0 ∧ PL.Two x_5.fst
    x_5.snd ∧ ∀ (y_3 : List Int), PL.timesPost x_5.fst x_5.snd y_3 → ∃ (x_6 : List Int), y_3.getD 0 0 = x_6.getD 0 0 ∧ y_3.getD 1 0 = x_6.getD 1 0 ∧ y_3.getD 2 0 = x_6.getD 2 0 ∧
    y_3.getD 3 0 = x_6.getD 3 0 ∧ y_3.getD 4 0 = x_6.getD 4 0 ∧ y_3.getD 5 0 = x_6.getD 5 0 ∧ y_3.getD 6 0 = x_6.getD 6 0 ∧ y_3.getD 7 0 = x_6.getD 7 0 ∧ y_3.getD 8 0 = x_6.getD 8
    0 ∧ y_3.getD 9 0 = x_6.getD 9 0 ∧ y_3.getD 10 0 = x_6.getD 10 0 ∧ y_3.getD 11 0 = x_6.getD 11 0 ∧ y_3.getD 12 0 = x_6.getD 12 0 ∧ y_3.getD 13 0 = x_6.getD 13 0 ∧ y_3.getD 14 0
    = x_6.getD 14 0 ∧ y_3.getD 15 0 = x_6.getD 15 0 ∧ y_3.getD 16 0 = x_6.getD 16 0 ∧ y_3.getD 17 0 = x_6.getD 17 0 ∧ y_3.getD 18 0 = x_6.getD 18 0 ∧ y_3.getD 19 0 = x_6.getD 19 0
    ∧ y_3.getD 20 0 = x_6.getD 20 0 ∧ y_3.getD 21 0 = x_6.getD 21 0 ∧ y_3.getD 22 0 = x_6.getD 22 0 ∧ y_3.getD 23 0 = x_6.getD 23 0 ∧ PL.Num x_6 ∧ ∀ (y_4 : List Int), PL.moduloPost
    x_6 y_4 → ∀ (z : Int), z = ar.wrap IntKind.i64 (ar.add (↑(Nat.mul 16 i.fst) : Int) 16) → ∃ (j : Nat × List Int), PL.RefOK (PL.rOf x.fst) x.snd j.fst j.snd ∧ ((x.snd.length.add
    16).sub (Nat.mul 16 j.fst)).lt ((x.snd.length.add 16).sub (Nat.mul 16 i.fst)) ∧ x.fst = x.fst ∧ x.snd = x.snd ∧ ([] : List UInt8) = [] ∧ z = (↑(Nat.mul 16 j.fst) : Int) ∧ x.fst
    = x.fst ∧ ar.slen x.fst = ar.slen x.fst ∧ (ar.eq (ar.slen x.fst) 32 → False ↔ ar.eq (ar.slen x.fst) 32 → False) ∧ x.fst = x.fst ∧ PL.clampS x_1 = PL.clampS x_1 ∧ y.getD 0 0 =
    y.getD 0 0 ∧ y.getD 1 0 = y.getD 1 0 ∧ y.getD 2 0 = y.getD 2 0 ∧ y.getD 3 0 = y.getD 3 0 ∧ y.getD 4 0 = y.getD 4 0 ∧ y.getD 5 0 = y.getD 5 0 ∧ y.getD 6 0 = y.getD 6 0 ∧ y.getD
    7 0 = y.getD 7 0 ∧ y.getD 8 0 = y.getD 8 0 ∧ y.getD 9 0 = y.getD 9 0 ∧ y.getD 10 0 = y.getD 10 0 ∧ y.getD 11 0 = y.getD 11 0 ∧ y.getD 12 0 = y.getD 12 0 ∧ y.getD 13 0 = y.getD
    13 0 ∧ y.getD 14 0 = y.getD 14 0 ∧ y.getD 15 0 = y.getD 15 0 ∧ y.getD 16 0 = y.getD 16 0 ∧ y.getD 17 0 = y.getD 17 0 ∧ y.getD 18 0 = y.getD 18 0 ∧ y.getD 19 0 = y.getD 19 0 ∧
    y.getD 20 0 = y.getD 20 0 ∧ y.getD 21 0 = y.getD 21 0 ∧ y.getD 22 0 = y.getD 22 0 ∧ y.getD 23 0 = y.getD 23 0 ∧ y.getD 0 0 = y.getD 0 0 ∧ y.getD 1 0 = y.getD 1 0 ∧ y.getD 2 0 =
    y.getD 2 0 ∧ y.getD 3 0 = y.getD 3 0 ∧ y.getD 4 0 = y.getD 4 0 ∧ y.getD 5 0 = y.getD 5 0 ∧ y.getD 6 0 = y.getD 6 0 ∧ y.getD 7 0 = y.getD 7 0 ∧ y.getD 8 0 = y.getD 8 0 ∧ y.getD
    9 0 = y.getD 9 0 ∧ y.getD 10 0 = y.getD 10 0 ∧ y.getD 11 0 = y.getD 11 0 ∧ y.getD 12 0 = y.getD 12 0 ∧ y.getD 13 0 = y.getD 13 0 ∧ y.getD 14 0 = y.getD 14 0 ∧ y.getD 15 0 =
    y.getD 15 0 ∧ y.getD 16 0 = y.getD 16 0 ∧ y.getD 17 0 = y.getD 17 0 ∧ y.getD 18 0 = y.getD 18 0 ∧ y.getD 19 0 = y.getD 19 0 ∧ y.getD 20 0 = y.getD 20 0 ∧ y.getD 21 0 = y.getD
    21 0 ∧ y.getD 22 0 = y.getD 22 0 ∧ y.getD 23 0 = y.getD 23 0 ∧ [y_4.getD 0 0, y_4.getD 1 0, y_4.getD 2 0, y_4.getD 3 0, y_4.getD 4 0, y_4.getD 5 0, y_4.getD 6 0, y_4.getD 7 0,
    y_4.getD 8 0, y_4.getD 9 0, y_4.getD 10 0, y_4.getD 11 0, y_4.getD 12 0, y_4.getD 13 0, y_4.getD 14 0, y_4.getD 15 0, y_4.getD 16 0, y_4.getD 17 0, y_4.getD 18 0, y_4.getD 19
    0, y_4.getD 20 0, y_4.getD 21 0, y_4.getD 22 0, y_4.getD 23 0] = j.snd ∧ True)) ∧ (¬ar.lt (↑(Nat.mul 16 i.fst) : Int) (ar.slen x.snd) → ar.le 0 0 ∧ ar.lt 0 (ar.ilen i.snd) ∧
    ar.le 0 1 ∧ ar.lt 1 (ar.ilen i.snd) ∧ ar.le 0 2 ∧ ar.lt 2 (ar.ilen i.snd) ∧ ar.le 0 3 ∧ ar.lt 3 (ar.ilen i.snd) ∧ ar.le 0 4 ∧ ar.lt 4 (ar.ilen i.snd) ∧ ar.le 0 5 ∧ ar.lt 5
    (ar.ilen i.snd) ∧ ar.le 0 6 ∧ ar.lt 6 (ar.ilen i.snd) ∧ ar.le 0 7 ∧ ar.lt 7 (ar.ilen i.snd) ∧ ar.le 0 8 ∧ ar.lt 8 (ar.ilen i.snd) ∧ ar.le 0 9 ∧ ar.lt 9 (ar.ilen i.snd) ∧ ar.le
    0 10 ∧ ar.lt 10 (ar.ilen i.snd) ∧ ar.le 0 11 ∧ ar.lt 11 (ar.ilen i.snd) ∧ ar.le 0 12 ∧ ar.lt 12 (ar.ilen i.snd) ∧ ar.le 0 13 ∧ ar.lt 13 (ar.ilen i.snd) ∧ ar.le 0 14 ∧ ar.lt 14
    (ar.ilen i.snd) ∧ ar.le 0 15 ∧ ar.lt 15 (ar.ilen i.snd) ∧ ar.le 0 16 ∧ ar.lt 16 (ar.ilen i.snd) ∧ ar.le 0 17 ∧ ar.lt 17 (ar.ilen i.snd) ∧ ar.le 0 18 ∧ ar.lt 18 (ar.ilen i.snd)
    ∧ ar.le 0 19 ∧ ar.lt 19 (ar.ilen i.snd) ∧ ar.le 0 20 ∧ ar.lt 20 (ar.ilen i.snd) ∧ ar.le 0 21 ∧ ar.lt 21 (ar.ilen i.snd) ∧ ar.le 0 22 ∧ ar.lt 22 (ar.ilen i.snd) ∧ ar.le 0 23 ∧
    ar.lt 23 (ar.ilen i.snd) ∧ ar.le 16 (ar.slen x.fst) ∧ ∀ (t : List UInt8), t = ar.sext x.fst 16 (ar.slen x.fst) → ∃ (x_3 : List UInt8 × Int), t = x_3.fst ∧ 0 = x_3.snd ∧
    PL.NumberPre x_3.fst x_3.snd ∧ ∀ (y_1 : List Int), PL.numberPost x_3.fst x_3.snd y_1 → ∃ (x_4 : List Int × List Int), ar.iget i.snd 0 = x_4.fst.getD 0 0 ∧ ar.iget i.snd 1 =
    x_4.fst.getD 1 0 ∧ ar.iget i.snd 2 = x_4.fst.getD 2 0 ∧ ar.iget i.snd 3 = x_4.fst.getD 3 0 ∧ ar.iget i.snd 4 = x_4.fst.getD 4 0 ∧ ar.iget i.snd 5 = x_4.fst.getD 5 0 ∧ ar.iget
    i.snd 6 = x_4.fst.getD 6 0 ∧ ar.iget i.snd 7 = x_4.fst.getD 7 0 ∧ ar.iget i.snd 8 = x_4.fst.getD 8 0 ∧ ar.iget i.snd 9 = x_4.fst.getD 9 0 ∧ ar.iget i.snd 10 = x_4.fst.getD 10 0
    ∧ ar.iget i.snd 11 = x_4.fst.getD 11 0 ∧ ar.iget i.snd 12 = x_4.fst.getD 12 0 ∧ ar.iget i.snd 13 = x_4.fst.getD 13 0 ∧ ar.iget i.snd 14 = x_4.fst.getD 14 0 ∧ ar.iget i.snd 15 =
    x_4.fst.getD 15 0 ∧ ar.iget i.snd 16 = x_4.fst.getD 16 0 ∧ ar.iget i.snd 17 = x_4.fst.getD 17 0 ∧ ar.iget i.snd 18 = x_4.fst.getD 18 0 ∧ ar.iget i.snd 19 = x_4.fst.getD 19 0 ∧
    ar.iget i.snd 20 = x_4.fst.getD 20 0 ∧ ar.iget i.snd 21 = x_4.fst.getD 21 0 ∧ ar.iget i.snd 22 = x_4.fst.getD 22 0 ∧ ar.iget i.snd 23 = x_4.fst.getD 23 0 ∧ y_1.getD 0 0 =
    x_4.snd.getD 0 0 ∧ y_1.getD 1 0 = x_4.snd.getD 1 0 ∧ y_1.getD 2 0 = x_4.snd.getD 2 0 ∧ y_1.getD 3 0 = x_4.snd.getD 3 0 ∧ y_1.getD 4 0 = x_4.snd.getD 4 0 ∧ y_1.getD 5 0 =
    x_4.snd.getD 5 0 ∧ y_1.getD 6 0 = x_4.snd.getD 6 0 ∧ y_1.getD 7 0 = x_4.snd.getD 7 0 ∧ y_1.getD 8 0 = x_4.snd.getD 8 0 ∧ y_1.getD 9 0 = x_4.snd.getD 9 0 ∧ y_1.getD 10 0 =
    x_4.snd.getD 10 0 ∧ y_1.getD 11 0 = x_4.snd.getD 11 0 ∧ y_1.getD 12 0 = x_4.snd.getD 12 0 ∧ y_1.getD 13 0 = x_4.snd.getD 13 0 ∧ y_1.getD 14 0 = x_4.snd.getD 14 0 ∧ y_1.getD 15
    0 = x_4.snd.getD 15 0 ∧ y_1.getD 16 0 = x_4.snd.getD 16 0 ∧ y_1.getD 17 0 = x_4.snd.getD 17 0 ∧ y_1.getD 18 0 = x_4.snd.getD 18 0 ∧ y_1.getD 19 0 = x_4.snd.getD 19 0 ∧ y_1.getD
    20 0 = x_4.snd.getD 20 0 ∧ y_1.getD 21 0 = x_4.snd.getD 21 0 ∧ y_1.getD 22 0 = x_4.snd.getD 22 0 ∧ y_1.getD 23 0 = x_4.snd.getD 23 0 ∧ PL.Two x_4.fst x_4.snd ∧ ∀ (y_2 : List
    Int), PL.addPost x_4.fst x_4.snd y_2 → ((∃ (i_1 : List Int), PL.FinOK x.fst x.snd i_1 ∧ x.fst = x.fst ∧ x.snd = x.snd ∧ ([] : List UInt8) = [] ∧ (↑(Nat.mul 16 i.fst) : Int) =
    (↑(Nat.mul 16 i.fst) : Int) ∧ x.fst = x.fst ∧ ar.slen x.fst = ar.slen x.fst ∧ (ar.eq (ar.slen x.fst) 32 → False ↔ ar.eq (ar.slen x.fst) 32 → False) ∧ x.fst = x.fst ∧ PL.clampS
    x_1 = PL.clampS x_1 ∧ y.getD 0 0 = y.getD 0 0 ∧ y.getD 1 0 = y.getD 1 0 ∧ y.getD 2 0 = y.getD 2 0 ∧ y.getD 3 0 = y.getD 3 0 ∧ y.getD 4 0 = y.getD 4 0 ∧ y.getD 5 0 = y.getD 5 0
    ∧ y.getD 6 0 = y.getD 6 0 ∧ y.getD 7 0 = y.getD 7 0 ∧ y.getD 8 0 = y.getD 8 0 ∧ y.getD 9 0 = y.getD 9 0 ∧ y.getD 10 0 = y.getD 10 0 ∧ y.getD 11 0 = y.getD 11 0 ∧ y.getD 12 0 =
    y.getD 12 0 ∧ y.getD 13 0 = y.getD 13 0 ∧ y.getD 14 0 = y.getD 14 0 ∧ y.getD 15 0 = y.getD 15 0 ∧ y.getD 16 0 = y.getD 16 0 ∧ y.getD 17 0 = y.getD 17 0 ∧ y.getD 18 0 = y.getD
    18 0 ∧ y.getD 19 0 = y.getD 19 0 ∧ y.getD 20 0 = y.getD 20 0 ∧ y.getD 21 0 = y.getD 21 0 ∧ y.getD 22 0 = y.getD 22 0 ∧ y.getD 23 0 = y.getD 23 0 ∧ (↑(Nat.mul 16 i.fst) : Int) =
    (↑(Nat.mul 16 i.fst) : Int) ∧ x.snd = x.snd ∧ ar.slen x.snd = ar.slen x.snd ∧ (ar.lt (↑(Nat.mul 16 i.fst) : Int) (ar.slen x.snd) ↔ ar.lt (↑(Nat.mul 16 i.fst) : Int) (ar.slen
    x.snd)) ∧ ar.iget i.snd 0 = ar.iget i.snd 0 ∧ ar.iget i.snd 1 = ar.iget i.snd 1 ∧ ar.iget i.snd 2 = ar.iget i.snd 2 ∧ ar.iget i.snd 3 = ar.iget i.snd 3 ∧ ar.iget i.snd 4 =
    ar.iget i.snd 4 ∧ ar.iget i.snd 5 = ar.iget i.snd 5 ∧ ar.iget i.snd 6 = ar.iget i.snd 6 ∧ ar.iget i.snd 7 = ar.iget i.snd 7 ∧ ar.iget i.snd 8 = ar.iget i.snd 8 ∧ ar.iget i.snd
    9 = ar.iget i.snd 9 ∧ ar.iget i.snd 10 = ar.iget i.snd 10 ∧ ar.iget i.snd 11 = ar.iget i.snd 11 ∧ ar.iget i.snd 12 = ar.iget i.snd 12 ∧ ar.iget i.snd 13 = ar.iget i.snd 13 ∧
    ar.iget i.snd 14 = ar.iget i.snd 14 ∧ ar.iget i.snd 15 = ar.iget i.snd 15 ∧ ar.iget i.snd 16 = ar.iget i.snd 16 ∧ ar.iget i.snd 17 = ar.iget i.snd 17 ∧ ar.iget i.snd 18 =
    ar.iget i.snd 18 ∧ ar.iget i.snd 19 = ar.iget i.snd 19 ∧ ar.iget i.snd 20 = ar.iget i.snd 20 ∧ ar.iget i.snd 21 = ar.iget i.snd 21 ∧ ar.iget i.snd 22 = ar.iget i.snd 22 ∧
    ar.iget i.snd 23 = ar.iget i.snd 23 ∧ x.fst = x.fst ∧ t = t ∧ y_1.getD 0 0 = y_1.getD 0 0 ∧ y_1.getD 1 0 = y_1.getD 1 0 ∧ y_1.getD 2 0 = y_1.getD 2 0 ∧ y_1.getD 3 0 = y_1.getD
    3 0 ∧ y_1.getD 4 0 = y_1.getD 4 0 ∧ y_1.getD 5 0 = y_1.getD 5 0 ∧ y_1.getD 6 0 = y_1.getD 6 0 ∧ y_1.getD 7 0 = y_1.getD 7 0 ∧ y_1.getD 8 0 = y_1.getD 8 0 ∧ y_1.getD 9 0 =
    y_1.getD 9 0 ∧ y_1.getD 10 0 = y_1.getD 10 0 ∧ y_1.getD 11 0 = y_1.getD 11 0 ∧ y_1.getD 12 0 = y_1.getD 12 0 ∧ y_1.getD 13 0 = y_1.getD 13 0 ∧ y_1.getD 14 0 = y_1.getD 14 0 ∧
    y_1.getD 15 0 = y_1.getD 15 0 ∧ y_1.getD 16 0 = y_1.getD 16 0 ∧ y_1.getD 17 0 = y_1.getD 17 0 ∧ y_1.getD 18 0 = y_1.getD 18 0 ∧ y_1.getD 19 0 = y_1.getD 19 0 ∧ y_1.getD 20 0 =
    y_1.getD 20 0 ∧ y_1.getD 21 0 = y_1.getD 21 0 ∧ y_1.getD 22 0 = y_1.getD 22 0 ∧ y_1.getD 23 0 = y_1.getD 23 0 ∧ y_2.getD 0 0 = y_2.getD 0 0 ∧ y_2.getD 1 0 = y_2.getD 1 0 ∧
    y_2.getD 2 0 = y_2.getD 2 0 ∧ y_2.getD 3 0 = y_2.getD 3 0 ∧ y_2.getD 4 0 = y_2.getD 4 0 ∧ y_2.getD 5 0 = y_2.getD 5 0 ∧ y_2.getD 6 0 = y_2.getD 6 0 ∧ y_2.getD 7 0 = y_2.getD 7
    0 ∧ y_2.getD 8 0 = y_2.getD 8 0 ∧ y_2.getD 9 0 = y_2.getD 9 0 ∧ y_2.getD 10 0 = y_2.getD 10 0 ∧ y_2.getD 11 0 = y_2.getD 11 0 ∧ y_2.getD 12 0 = y_2.getD 12 0 ∧ y_2.getD 13 0 =
    y_2.getD 13 0 ∧ y_2.getD 14 0 = y_2.getD 14 0 ∧ y_2.getD 15 0 = y_2.getD 15 0 ∧ y_2.getD 16 0 = y_2.getD 16 0 ∧ y_2.getD 17 0 = y_2.getD 17 0 ∧ y_2.getD 18 0 = y_2.getD 18 0 ∧
    y_2.getD 19 0 = y_2.getD 19 0 ∧ y_2.getD 20 0 = y_2.getD 20 0 ∧ y_2.getD 21 0 = y_2.getD 21 0 ∧ y_2.getD 22 0 = y_2.getD 22 0 ∧ y_2.getD 23 0 = y_2.getD 23 0 ∧ y.getD 0 0 =
    y.getD 0 0 ∧ y.getD 1 0 = y.getD 1 0 ∧ y.getD 2 0 = y.getD 2 0 ∧ y.getD 3 0 = y.getD 3 0 ∧ y.getD 4 0 = y.getD 4 0 ∧ y.getD 5 0 = y.getD 5 0 ∧ y.getD 6 0 = y.getD 6 0 ∧ y.getD
    7 0 = y.getD 7 0 ∧ y.getD 8 0 = y.getD 8 0 ∧ y.getD 9 0 = y.getD 9 0 ∧ y.getD 10 0 = y.getD 10 0 ∧ y.getD 11 0 = y.getD 11 0 ∧ y.getD 12 0 = y.getD 12 0 ∧ y.getD 13 0 = y.getD
    13 0 ∧ y.getD 14 0 = y.getD 14 0 ∧ y.getD 15 0 = y.getD 15 0 ∧ y.getD 16 0 = y.getD 16 0 ∧ y.getD 17 0 = y.getD 17 0 ∧ y.getD 18 0 = y.getD 18 0 ∧ y.getD 19 0 = y.getD 19 0 ∧
    y.getD 20 0 = y.getD 20 0 ∧ y.getD 21 0 = y.getD 21 0 ∧ y.getD 22 0 = y.getD 22 0 ∧ y.getD 23 0 = y.getD 23 0 ∧ [y_2.getD 0 0, y_2.getD 1 0, y_2.getD 2 0, y_2.getD 3 0,
    y_2.getD 4 0, y_2.getD 5 0, y_2.getD 6 0, y_2.getD 7 0, y_2.getD 8 0, y_2.getD 9 0, y_2.getD 10 0, y_2.getD 11 0, y_2.getD 12 0, y_2.getD 13 0, y_2.getD 14 0, y_2.getD 15 0,
    y_2.getD 16 0, y_2.getD 17 0, y_2.getD 18 0, y_2.getD 19 0, y_2.getD 20 0, y_2.getD 21 0, y_2.getD 22 0, y_2.getD 23 0] = i_1 ∧ True) ∨ ∃ (i : List Int × Nat × List UInt8 ×
    Int), (PL.FinOK x.fst x.snd i.fst ∧ PL.OutOK i.fst i.2.fst i.snd.snd.fst ∧ PL.CapOK (↑i.snd.snd.fst.length : Int) i.snd.snd.snd) ∧ False) ∧ (∀ (i_1 : List Int), PL.FinOK x.fst
    x.snd i_1 → ar.le 0 0 ∧ ar.lt 0 (ar.ilen i_1) ∧ ∀ (z : Int), z = ar.rem (ar.iget i_1 0) 256 → ∀ (z_1 : Int), z_1 = ar.wrap IntKind.u8 z → ∀ (c : Int), ar.le 1 c → ar.le 0 0 ∧
    ar.lt 0 (ar.ilen i_1) ∧ ∀ (z : Int), z = ar.wrap IntKind.i64 (ar.quo (ar.iget i_1 0) 256) → ∀ (z_2 : Int), z_2 = ar.wrap IntKind.u8 z → ar.le (ar.add 0 1) (ar.ilen [z_1]) ∧ c =
    c ∧ ∀ (c : Int), ar.le 2 c → (∃ (j : List Int), PL.FinOK x.fst x.snd j ∧ Nat.lt 9 9 ∧ False) ∨ ∃ (j : List Int × Nat × List UInt8 × Int), (PL.FinOK x.fst x.snd j.fst ∧ PL.OutOK
    j.fst j.2.fst j.snd.snd.fst ∧ PL.CapOK (↑j.snd.snd.fst.length : Int) j.snd.snd.snd) ∧ (Nat.sub 8 j.2.fst).lt 9 ∧ x.fst = x.fst ∧ x.snd = x.snd ∧ ([] : List UInt8) = [] ∧
    (↑(Nat.mul 16 i.fst) : Int) = (↑(Nat.mul 16 i.fst) : Int) ∧ 2 = (↑j.snd.snd.fst.length : Int) ∧ c = j.snd.snd.snd ∧ 1 = (↑j.2.fst : Int) ∧ x.fst = x.fst ∧ ar.slen x.fst =
    ar.slen x.fst ∧ (ar.eq (ar.slen x.fst) 32 → False ↔ ar.eq (ar.slen x.fst) 32 → False) ∧ x.fst = x.fst ∧ PL.clampS x_1 = PL.clampS x_1 ∧ y.getD 0 0 = y.getD 0 0 ∧ y.getD 1 0 =
    y.getD 1 0 ∧ y.getD 2 0 = y.getD 2 0 ∧ y.getD 3 0 = y.getD 3 0 ∧ y.getD 4 0 = y.getD 4 0 ∧ y.getD 5 0 = y.getD 5 0 ∧ y.getD 6 0 = y.getD 6 0 ∧ y.getD 7 0 = y.getD 7 0 ∧ y.getD
    8 0 = y.getD 8 0 ∧ y.getD 9 0 = y.getD 9 0 ∧ y.getD 10 0 = y.getD 10 0 ∧ y.getD 11 0 = y.getD 11 0 ∧ y.getD 12 0 = y.getD 12 0 ∧ y.getD 13 0 = y.getD 13 0 ∧ y.getD 14 0 =
    y.getD 14 0 ∧ y.getD 15 0 = y.getD 15 0 ∧ y.getD 16 0 = y.getD 16 0 ∧ y.getD 17 0 = y.getD 17 0 ∧ y.getD 18 0 = y.getD 18 0 ∧ y.getD 19 0 = y.getD 19 0 ∧ y.getD 20 0 = y.getD
    20 0 ∧ y.getD 21 0 = y.getD 21 0 ∧ y.getD 22 0 = y.getD 22 0 ∧ y.getD 23 0 = y.getD 23 0 ∧ (↑(Nat.mul 16 i.fst) : Int) = (↑(Nat.mul 16 i.fst) : Int) ∧ x.snd = x.snd ∧ ar.slen
    x.snd = ar.slen x.snd ∧ (ar.lt (↑(Nat.mul 16 i.fst) : Int) (ar.slen x.snd) ↔ ar.lt (↑(Nat.mul 16 i.fst) : Int) (ar.slen x.snd)) ∧ ar.iget i.snd 0 = ar.iget i.snd 0 ∧ ar.iget
    i.snd 1 = ar.iget i.snd 1 ∧ ar.iget i.snd 2 = ar.iget i.snd 2 ∧ ar.iget i.snd 3 = ar.iget i.snd 3 ∧ ar.iget i.snd 4 = ar.iget i.snd 4 ∧ ar.iget i.snd 5 = ar.iget i.snd 5 ∧
    ar.iget i.snd 6 = ar.iget i.snd 6 ∧ ar.iget i.snd 7 = ar.iget i.snd 7 ∧ ar.iget i.snd 8 = ar.iget i.snd 8 ∧ ar.iget i.snd 9 = ar.iget i.snd 9 ∧ ar.iget i.snd 10 = ar.iget i.snd
    10 ∧ ar.iget i.snd 11 = ar.iget i.snd 11 ∧ ar.iget i.snd 12 = ar.iget i.snd 12 ∧ ar.iget i.snd 13 = ar.iget i.snd 13 ∧ ar.iget i.snd 14 = ar.iget i.snd 14 ∧ ar.iget i.snd 15 =
    ar.iget i.snd 15 ∧ ar.iget i.snd 16 = ar.iget i.snd 16 ∧ ar.iget i.snd 17 = ar.iget i.snd 17 ∧ ar.iget i.snd 18 = ar.iget i.snd 18 ∧ ar.iget i.snd 19 = ar.iget i.snd 19 ∧
    ar.iget i.snd 20 = ar.iget i.snd 20 ∧ ar.iget i.snd 21 = ar.iget i.snd 21 ∧ ar.iget i.snd 22 = ar.iget i.snd 22 ∧ ar.iget i.snd 23 = ar.iget i.snd 23 ∧ x.fst = x.fst ∧ t = t ∧
    y_1.getD 0 0 = y_1.getD 0 0 ∧ y_1.getD 1 0 = y_1.getD 1 0 ∧ y_1.getD 2 0 = y_1.getD 2 0 ∧ y_1.getD 3 0 = y_1.getD 3 0 ∧ y_1.getD 4 0 = y_1.getD 4 0 ∧ y_1.getD 5 0 = y_1.getD 5
    0 ∧ y_1.getD 6 0 = y_1.getD 6 0 ∧ y_1.getD 7 0 = y_1.getD 7 0 ∧ y_1.getD 8 0 = y_1.getD 8 0 ∧ y_1.getD 9 0 = y_1.getD 9 0 ∧ y_1.getD 10 0 = y_1.getD 10 0 ∧ y_1.getD 11 0 =
    y_1.getD 11 0 ∧ y_1.getD 12 0 = y_1.getD 12 0 ∧ y_1.getD 13 0 = y_1.getD 13 0 ∧ y_1.getD 14 0 = y_1.getD 14 0 ∧ y_1.getD 15 0 = y_1.getD 15 0 ∧ y_1.getD 16 0 = y_1.getD 16 0 ∧
    y_1.getD 17 0 = y_1.getD 17 0 ∧ y_1.getD 18 0 = y_1.getD 18 0 ∧ y_1.getD 19 0 = y_1.getD 19 0 ∧ y_1.getD 20 0 = y_1.getD 20 0 ∧ y_1.getD 21 0 = y_1.getD 21 0 ∧ y_1.getD 22 0 =
    y_1.getD 22 0 ∧ y_1.getD 23 0 = y_1.getD 23 0 ∧ y_2.getD 0 0 = y_2.getD 0 0 ∧ y_2.getD 1 0 = y_2.getD 1 0 ∧ y_2.getD 2 0 = y_2.getD 2 0 ∧ y_2.getD 3 0 = y_2.getD 3 0 ∧ y_2.getD
    4 0 = y_2.getD 4 0 ∧ y_2.getD 5 0 = y_2.getD 5 0 ∧ y_2.getD 6 0 = y_2.getD 6 0 ∧ y_2.getD 7 0 = y_2.getD 7 0 ∧ y_2.getD 8 0 = y_2.getD 8 0 ∧ y_2.getD 9 0 = y_2.getD 9 0 ∧
    y_2.getD 10 0 = y_2.getD 10 0 ∧ y_2.getD 11 0 = y_2.getD 11 0 ∧ y_2.getD 12 0 = y_2.getD 12 0 ∧ y_2.getD 13 0 = y_2.getD 13 0 ∧ y_2.getD 14 0 = y_2.getD 14 0 ∧ y_2.getD 15 0 =
    y_2.getD 15 0 ∧ y_2.getD 16 0 = y_2.getD 16 0 ∧ y_2.getD 17 0 = y_2.getD 17 0 ∧ y_2.getD 18 0 = y_2.getD 18 0 ∧ y_2.getD 19 0 = y_2.getD 19 0 ∧ y_2.getD 20 0 = y_2.getD 20 0 ∧
    y_2.getD 21 0 = y_2.getD 21 0 ∧ y_2.getD 22 0 = y_2.getD 22 0 ∧ y_2.getD 23 0 = y_2.getD 23 0 ∧ y.getD 0 0 = y.getD 0 0 ∧ y.getD 1 0 = y.getD 1 0 ∧ y.getD 2 0 = y.getD 2 0 ∧
    y.getD 3 0 = y.getD 3 0 ∧ y.getD 4 0 = y.getD 4 0 ∧ y.getD 5 0 = y.getD 5 0 ∧ y.getD 6 0 = y.getD 6 0 ∧ y.getD 7 0 = y.getD 7 0 ∧ y.getD 8 0 = y.getD 8 0 ∧ y.getD 9 0 = y.getD
    9 0 ∧ y.getD 10 0 = y.getD 10 0 ∧ y.getD 11 0 = y.getD 11 0 ∧ y.getD 12 0 = y.getD 12 0 ∧ y.getD 13 0 = y.getD 13 0 ∧ y.getD 14 0 = y.getD 14 0 ∧ y.getD 15 0 = y.getD 15 0 ∧
    y.getD 16 0 = y.getD 16 0 ∧ y.getD 17 0 = y.getD 17 0 ∧ y.getD 18 0 = y.getD 18 0 ∧ y.getD 19 0 = y.getD 19 0 ∧ y.getD 20 0 = y.getD 20 0 ∧ y.getD 21 0 = y.getD 21 0 ∧ y.getD
    22 0 = y.getD 22 0 ∧ y.getD 23 0 = y.getD 23 0 ∧ i_1 = j.fst ∧ c = j.snd.snd.snd ∧ ar.iapp (ar.isub [z_1] 0 1) [z_2] = PL.ints j.snd.snd.fst ∧ True) ∧ ∀ (i_1 : List Int × Nat ×
    List UInt8 × Int), PL.FinOK x.fst x.snd i_1.fst ∧ PL.OutOK i_1.fst i_1.2.fst i_1.snd.snd.fst ∧ PL.CapOK (↑i_1.snd.snd.fst.length : Int) i_1.snd.snd.snd → (ar.lt (↑i_1.2.fst :
    Int) 8 → ar.le 0 (↑i_1.2.fst : Int) ∧ ar.lt (↑i_1.2.fst : Int) 24 ∧ ar.le 0 (↑i_1.2.fst : Int) ∧ ar.lt (↑i_1.2.fst : Int) (ar.ilen i_1.fst) ∧ ∀ (z : Int), z = ar.rem (ar.iget
    i_1.fst (↑i_1.2.fst : Int)) 256 → ∀ (z_1 : Int), z_1 = ar.wrap IntKind.u8 z → ar.le (ar.add 0 (↑i_1.snd.snd.fst.length : Int)) (ar.ilen (PL.ints i_1.snd.snd.fst)) ∧
    i_1.snd.snd.snd = i_1.snd.snd.snd ∧ ar.le (ar.mul (ar.add (↑i_1.snd.snd.fst.length : Int) 1) 1) 140737488355328 ∧ ∀ (c : Int), ar.le (ar.add (↑i_1.snd.snd.fst.length : Int) 1)
    c → ar.le 0 (↑i_1.2.fst : Int) ∧ ar.lt (↑i_1.2.fst : Int) 24 ∧ ar.le 0 (↑i_1.2.fst : Int) ∧ ar.lt (↑i_1.2.fst : Int) (ar.ilen i_1.fst) ∧ ∀ (z : Int), z = ar.wrap IntKind.i64
    (ar.quo (ar.iget i_1.fst (↑i_1.2.fst : Int)) 256) → ∀ (z_2 : Int), z_2 = ar.wrap IntKind.u8 z → ar.le (ar.add 0 (ar.add (↑i_1.snd.snd.fst.length : Int) 1)) (ar.ilen (ar.iapp
    (ar.isub (PL.ints i_1.snd.snd.fst) 0 (↑i_1.snd.snd.fst.length : Int)) [z_1])) ∧ c = c ∧ ar.le (ar.mul (ar.add (ar.add (↑i_1.snd.snd.fst.length : Int) 1) 1) 1) 140737488355328 ∧
    ∀ (c : Int), ar.le (ar.add (ar.add (↑i_1.snd.snd.fst.length : Int) 1) 1) c → ∀ (z : Int), z = ar.wrap IntKind.i64 (ar.add (↑i_1.2.fst : Int) 1) → (∃ (j : List Int), PL.FinOK
    x.fst x.snd j ∧ Nat.lt 9 (Nat.sub 8 i_1.2.fst) ∧ False) ∨ ∃ (j : List Int × Nat × List UInt8 × Int), (PL.FinOK x.fst x.snd j.fst ∧ PL.OutOK j.fst j.2.fst j.snd.snd.fst ∧
    PL.CapOK (↑j.snd.snd.fst.length : Int) j.snd.snd.snd) ∧ (Nat.sub 8 j.2.fst).lt (Nat.sub 8 i_1.2.fst) ∧ x.fst = x.fst ∧ x.snd = x.snd ∧ ([] : List UInt8) = [] ∧ (↑(Nat.mul 16
    i.fst) : Int) = (↑(Nat.mul 16 i.fst) : Int) ∧ ar.add (ar.add (↑i_1.snd.snd.fst.length : Int) 1) 1 = (↑j.snd.snd.fst.length : Int) ∧ c = j.snd.snd.snd ∧ z = (↑j.2.fst : Int) ∧
    x.fst = x.fst ∧ ar.slen x.fst = ar.slen x.fst ∧ (ar.eq (ar.slen x.fst) 32 → False ↔ ar.eq (ar.slen x.fst) 32 → False) ∧ x.fst = x.fst ∧ PL.clampS x_1 = PL.clampS x_1 ∧ y.getD 0
    0 = y.getD 0 0 ∧ y.getD 1 0 = y.getD 1 0 ∧ y.getD 2 0 = y.getD 2 0 ∧ y.getD 3 0 = y.getD 3 0 ∧ y.getD 4 0 = y.getD 4 0 ∧ y.getD 5 0 = y.getD 5 0 ∧ y.getD 6 0 = y.getD 6 0 ∧
    y.getD 7 0 = y.getD 7 0 ∧ y.getD 8 0 = y.getD 8 0 ∧ y.getD 9 0 = y.getD 9 0 ∧ y.getD 10 0 = y.getD 10 0 ∧ y.getD 11 0 = y.getD 11 0 ∧ y.getD 12 0 = y.getD 12 0 ∧ y.getD 13 0 =
    y.getD 13 0 ∧ y.getD 14 0 = y.getD 14 0 ∧ y.getD 15 0 = y.getD 15 0 ∧ y.getD 16 0 = y.getD 16 0 ∧ y.getD 17 0 = y.getD 17 0 ∧ y.getD 18 0 = y.getD 18 0 ∧ y.getD 19 0 = y.getD
    19 0 ∧ y.getD 20 0 = y.getD 20 0 ∧ y.getD 21 0 = y.getD 21 0 ∧ y.getD 22 0 = y.getD 22 0 ∧ y.getD 23 0 = y.getD 23 0 ∧ (↑(Nat.mul 16 i.fst) : Int) = (↑(Nat.mul 16 i.fst) : Int)
    ∧ x.snd = x.snd ∧ ar.slen x.snd = ar.slen x.snd ∧ (ar.lt (↑(Nat.mul 16 i.fst) : Int) (ar.slen x.snd) ↔ ar.lt (↑(Nat.mul 16 i.fst) : Int) (ar.slen x.snd)) ∧ ar.iget i.snd 0 =
    ar.iget i.snd 0 ∧ ar.iget i.snd 1 = ar.iget i.snd 1 ∧ ar.iget i.snd 2 = ar.iget i.snd 2 ∧ ar.iget i.snd 3 = ar.iget i.snd 3 ∧ ar.iget i.snd 4 = ar.iget i.snd 4 ∧ ar.iget i.snd
    5 = ar.iget i.snd 5 ∧ ar.iget i.snd 6 = ar.iget i.snd 6 ∧ ar.iget i.snd 7 = ar.iget i.snd 7 ∧ ar.iget i.snd 8 = ar.iget i.snd 8 ∧ ar.iget i.snd 9 = ar.iget i.snd 9 ∧ ar.iget
    i.snd 10 = ar.iget i.snd 10 ∧ ar.iget i.snd 11 = ar.iget i.snd 11 ∧ ar.iget i.snd 12 = ar.iget i.snd 12 ∧ ar.iget i.snd 13 = ar.iget i.snd 13 ∧ ar.iget i.snd 14 = ar.iget i.snd
    14 ∧ ar.iget i.snd 15 = ar.iget i.snd 15 ∧ ar.iget i.snd 16 = ar.iget i.snd 16 ∧ ar.iget i.snd 17 = ar.iget i.snd 17 ∧ ar.iget i.snd 18 = ar.iget i.snd 18 ∧ ar.iget i.snd 19 =
    ar.iget i.snd 19 ∧ ar.iget i.snd 20 = ar.iget i.snd 20 ∧ ar.iget i.snd 21 = ar.iget i.snd 21 ∧ ar.iget i.snd 22 = ar.iget i.snd 22 ∧ ar.iget i.snd 23 = ar.iget i.snd 23 ∧ x.fst
    = x.fst ∧ t = t ∧ y_1.getD 0 0 = y_1.getD 0 0 ∧ y_1.getD 1 0 = y_1.getD 1 0 ∧ y_1.getD 2 0 = y_1.getD 2 0 ∧ y_1.getD 3 0 = y_1.getD 3 0 ∧ y_1.getD 4 0 = y_1.getD 4 0 ∧ y_1.getD
    5 0 = y_1.getD 5 0 ∧ y_1.getD 6 0 = y_1.getD 6 0 ∧ y_1.getD 7 0 = y_1.getD 7 0 ∧ y_1.getD 8 0 = y_1.getD 8 0 ∧ y_1.getD 9 0 = y_1.getD 9 0 ∧ y_1.getD 10 0 = y_1.getD 10 0 ∧
    y_1.getD 11 0 = y_1.getD 11 0 ∧ y_1.getD 12 0 = y_1.getD 12 0 ∧ y_1.getD 13 0 = y_1.getD 13 0 ∧ y_1.getD 14 0 = y_1.getD 14 0 ∧ y_1.getD 15 0 = y_1.getD 15 0 ∧ y_1.getD 16 0 =
    y_1.getD 16 0 ∧ y_1.getD 17 0 = y_1.getD 17 0 ∧ y_1.getD 18 0 = y_1.getD 18 0 ∧ y_1.getD 19 0 = y_1.getD 19 0 ∧ y_1.getD 20 0 = y_1.getD 20 0 ∧ y_1.getD 21 0 = y_1.getD 21 0 ∧
    y_1.getD 22 0 = y_1.getD 22 0 ∧ y_1.getD 23 0 = y_1.getD 23 0 ∧ y_2.getD 0 0 = y_2.getD 0 0 ∧ y_2.getD 1 0 = y_2.getD 1 0 ∧ y_2.getD 2 0 = y_2.getD 2 0 ∧ y_2.getD 3 0 =
    y_2.getD 3 0 ∧ y_2.getD 4 0 = y_2.getD 4 0 ∧ y_2.getD 5 0 = y_2.getD 5 0 ∧ y_2.getD 6 0 = y_2.getD 6 0 ∧ y_2.getD 7 0 = y_2.getD 7 0 ∧ y_2.getD 8 0 = y_2.getD 8 0 ∧ y_2.getD 9
    0 = y_2.getD 9 0 ∧ y_2.getD 10 0 = y_2.getD 10 0 ∧ y_2.getD 11 0 = y_2.getD 11 0 ∧ y_2.getD 12 0 = y_2.getD 12 0 ∧ y_2.getD 13 0 = y_2.getD 13 0 ∧ y_2.getD 14 0 = y_2.getD 14 0
    ∧ y_2.getD 15 0 = y_2.getD 15 0 ∧ y_2.getD 16 0 = y_2.getD 16 0 ∧ y_2.getD 17 0 = y_2.getD 17 0 ∧ y_2.getD 18 0 = y_2.getD 18 0 ∧ y_2.getD 19 0 = y_2.getD 19 0 ∧ y_2.getD 20 0
    = y_2.getD 20 0 ∧ y_2.getD 21 0 = y_2.getD 21 0 ∧ y_2.getD 22 0 = y_2.getD 22 0 ∧ y_2.getD 23 0 = y_2.getD 23 0 ∧ y.getD 0 0 = y.getD 0 0 ∧ y.getD 1 0 = y.getD 1 0 ∧ y.getD 2 0
    = y.getD 2 0 ∧ y.getD 3 0 = y.getD 3 0 ∧ y.getD 4 0 = y.getD 4 0 ∧ y.getD 5 0 = y.getD 5 0 ∧ y.getD 6 0 = y.getD 6 0 ∧ y.getD 7 0 = y.getD 7 0 ∧ y.getD 8 0 = y.getD 8 0 ∧
    y.getD 9 0 = y.getD 9 0 ∧ y.getD 10 0 = y.getD 10 0 ∧ y.getD 11 0 = y.getD 11 0 ∧ y.getD 12 0 = y.getD 12 0 ∧ y.getD 13 0 = y.getD 13 0 ∧ y.getD 14 0 = y.getD 14 0 ∧ y.getD 15
    0 = y.getD 15 0 ∧ y.getD 16 0 = y.getD 16 0 ∧ y.getD 17 0 = y.getD 17 0 ∧ y.getD 18 0 = y.getD 18 0 ∧ y.getD 19 0 = y.getD 19 0 ∧ y.getD 20 0 = y.getD 20 0 ∧ y.getD 21 0 =
    y.getD 21 0 ∧ y.getD 22 0 = y.getD 22 0 ∧ y.getD 23 0 = y.getD 23 0 ∧ i_1.fst = j.fst ∧ c = j.snd.snd.snd ∧ ar.iapp (ar.isub (ar.iapp (ar.isub (PL.ints i_1.snd.snd.fst) 0
    (↑i_1.snd.snd.fst.length : Int)) [z_1]) 0 (ar.add (↑i_1.snd.snd.fst.length : Int) 1)) [z_2] = PL.ints j.snd.snd.fst ∧ True) ∧ (¬ar.lt (↑i_1.2.fst : Int) 8 → ar.le 0 0 ∧ ar.le
    (ar.add 0 (↑i_1.snd.snd.fst.length : Int)) (ar.ilen (PL.ints i_1.snd.snd.fst)) ∧ ∀ (t : List UInt8), t = ar.bytes (ar.isub (PL.ints i_1.snd.snd.fst) 0 (↑i_1.snd.snd.fst.length
    : Int)) → (∃ (y : Unit), PL.NotKey x.fst ∧ False) ∨ ∃ (y : Unit), PL.IsKey x.fst ∧ t = PL.tagOf x.fst x.snd ∧ True)))) := by
  kernel_rfl
end Go.Eng


/- Poly: the document's Tag holds its contract. -/
set_option linter.unusedSimpArgs false
set_option linter.unusedVariables false
set_option linter.unusedSectionVars false
set_option maxRecDepth 100000
namespace Go.Eng
variable [CW : CWorld]
open Go.Proofs

theorem r19_ok : SpecsOK PP r19 := by
  intro f xs _ S h
  unfold r19 at h
  split at h
  · cases h; exact numberSpec_ok
  · cases h; exact clampedSpec_ok
  · cases h; exact moduloSpec_ok
  · cases h; exact timesSpec_ok
  · cases h; exact addSpec_ok
  · cases h

theorem ints_clampS (key : List UInt8) : PL.ints (PL.clampS key) = PL.clampI (PL.ints (key.take 16)) := by
  unfold PL.clampS PL.ints
  rw [List.map_map]
  conv => rhs; rw [← List.map_id (PL.clampI _)]
  apply List.map_congr_left
  intro x hx
  have hb : 0 ≤ x ∧ x < 256 := by
    unfold PL.clampI at hx
    simp only [List.mem_map, List.mem_range] at hx
    obtain ⟨i, hi, rfl⟩ := hx
    have hg : ∀ i, 0 ≤ (PL.ints (key.take 16)).getD i 0 ∧ (PL.ints (key.take 16)).getD i 0 < 256 := fun i => by
      rw [ints_getD]
      have := ((key.take 16).getD i 0).toNat_lt
      omega
    have := hg i
    unfold PL.ints at this
    split
    · show 0 ≤ _ % 16 ∧ _ % 16 < _
      omega
    · split
      · show 0 ≤ _ / 4 * 4 ∧ _ / 4 * 4 < _
        omega
      · exact this
  show (((UInt8.ofNat x.toNat).toNat : Nat) : Int) = x
  rw [UInt8.toNat_ofNat_of_lt' (by show x.toNat < 256; omega), Int.toNat_of_nonneg hb.1]

theorem leI_snoc0 (l : List Int) : PL.leI (l ++ [0]) = PL.leI l := by rw [leI_append]; simp [PL.leI]

theorem take9 {l : List Int} (h : PL.Num l) (hb : PL.b16 l < 22300745198530623141535718272648361505980416) : PL.b16 (l.take 9) = PL.b16 l := by
  have e := PL.b16_append (l.take 9) (l.drop 9)
  rw [List.take_append_drop, List.length_take, h.len] at e
  have h1 := PL.b16_bound (l.take 9) (fun x hx => h.dig x (List.mem_of_mem_take hx))
  have h2 := PL.b16_bound (l.drop 9) (fun x hx => h.dig x (List.mem_of_mem_drop hx))
  rw [show min 9 24 = 9 from rfl, show (65536 : Int) ^ 9 = 22300745198530623141535718272648361505980416 by decide +kernel] at e
  omega

theorem absorbN_range (R : Int) : ∀ (n : Nat) (a : Int) (t : List UInt8), 0 ≤ a ∧ a < PL.PQ → 0 ≤ PL.absorbN R n a t ∧ PL.absorbN R n a t < PL.PQ
  | 0, _, _, h => h
  | n + 1, a, t, _ => absorbN_range R n _ _ ⟨Int.emod_nonneg _ (by decide), Int.emod_lt_of_pos _ (by decide)⟩

theorem by2_leI : ∀ m : List Int, PL.leI (PL.by2 m) = PL.b16 m
  | [] => rfl
  | d :: m => by
    have ih := by2_leI m
    show d % 256 + 256 * (d / 256 + 256 * PL.leI (PL.by2 m)) = d + 65536 * PL.b16 m
    rw [ih]
    omega
theorem by2_length : ∀ m : List Int, (PL.by2 m).length = 2 * m.length
  | [] => rfl
  | d :: m => by
    have ih := by2_length m
    show (PL.by2 m).length + 1 + 1 = _
    rw [ih]; simp; omega
theorem by2_succ {a : List Int} {i : Nat} (h : i < a.length) : PL.by2 (a.take (i + 1)) = PL.by2 (a.take i) ++ [a.getD i 0 % 256, a.getD i 0 / 256] := by
  have e : a.take (i + 1) = a.take i ++ [a.getD i 0] := by
    rw [List.take_add_one, List.getElem?_eq_getElem h]
    simp [List.getD, h]
  rw [e]
  simp [PL.by2]

theorem piece_val {p : List UInt8} (h : p.length ≤ 16) : 0 ≤ PL.leI (PL.ints p ++ [1]) ∧ PL.leI (PL.ints p ++ [1]) ≤ 680564733841876926926749214863536422912 := by
  have b := leI_bound _ (PL.ints_bytes p)
  rw [PL.ints_length] at b
  have hp : (256 : Int) ^ p.length ≤ 340282366920938463463374607431768211456 := by
    have : (256 : Nat) ^ p.length ≤ 256 ^ 16 := Nat.pow_le_pow_right (by omega) h
    have h2 : ((256 ^ p.length : Nat) : Int) ≤ ((256 ^ 16 : Nat) : Int) := Int.ofNat_le.2 this
    rw [Int.natCast_pow] at h2
    exact h2
  rw [leI_append, PL.ints_length]
  simp only [PL.leI]
  omega

/-- What a round makes of a. -/
theorem round_val {a r y1 y2 y3 y4 : List Int} {A R : Int} {p : List UInt8} (hp : p.length ≤ 16) (ha : PL.b16 a = A) (hA : 0 ≤ A ∧ A < PL.PQ) (hr : PL.Num r) (hrv : PL.b16 r = R) (hR : R < 22300745198530623141535718272648361505980416)
    (h1 : PL.numberPost p 1 y1) (h2 : PL.addPost a y1 y2) (h3 : PL.timesPost y2 r y3) (h4 : PL.moduloPost y3 y4) : PL.b16 y4 = (A + PL.leI (PL.ints p ++ [1])) * R % PL.PQ := by
  have hv := piece_val hp
  have e2 : PL.b16 y2 = A + PL.leI (PL.ints p ++ [1]) := by
    rw [h2.val, ha, h1.val]
    refine Int.emod_eq_of_lt (by omega) ?_
    unfold PL.M24 PL.PQ at *
    omega
  rw [h4.val, h3.val, take9 h2.num (by rw [e2]; unfold PL.PQ at hA; omega), take9 hr (by rw [hrv]; exact hR), e2, hrv]

set_option maxHeartbeats 1000000 in
theorem refTagSpec_ok : refTagSpec.OK PP 19 := by
  refine Spec.ok_of_run (fn := Try.f19) (c := Try.f19.body.getD .skip) (by kernel_rfl) (by kernel_rfl) (by kernel_rfl) r19_ok (fun x => refInvs [] x.1 x.2) 1000 ?_
  rintro ⟨key, t⟩ ⟨hk, ht⟩
  refine (vc19 ar0 (key, t)).mpr ?_
  have htl : t.length ≤ 140737488351232 := ht.len
  refine ⟨fun h => .inl ⟨(), ⟨fun e => h (by have e : key.length = 32 := e; show (key.length : Int) = 32; omega)⟩, rfl, trivial⟩, fun h => ?_⟩
  have h32 : key.length = 32 := by
    have : ar0.eq (ar0.slen key) 32 := Classical.byContradiction h
    have : (key.length : Int) = 32 := this
    omega
  refine ⟨key, rfl, ⟨by omega, by omega⟩, fun _ _ => ⟨(PL.clampS key, 0), rfl, rfl, ⟨by show (PL.clampS key).length ≤ 32; rw [clampS_length]; omega, by show (0 : Int) ≤ 0 ∧ (0 : Int) < 256; omega⟩, fun r hr => ?_⟩⟩
  have hRv : PL.b16 r = PL.rOf key := by
    have h0 : PL.b16 r = PL.leI (PL.ints (PL.clampS key) ++ [0]) := hr.val
    rw [h0, leI_snoc0, ints_clampS]
    rfl
  have hRb : PL.rOf key < 22300745198530623141535718272648361505980416 := by
    have b := leI_bound _ (PL.ints_bytes (PL.clampS key))
    rw [PL.ints_length, clampS_length, ints_clampS] at b
    have : PL.rOf key = PL.leI (PL.clampI (PL.ints (key.take 16))) := rfl
    rw [this]
    omega
  have hrn := hr.num
  have hrb := num_bound hrn
  generalize hRR : PL.rOf key = R at *
  refine ⟨⟨(0, PL.tab 24 fun _ => 0), ⟨⟨PL.tab_length _ _, fun x hx => ?_⟩, .inl ⟨Nat.zero_le _, ?_⟩⟩, ?_⟩, ?_⟩
  · obtain ⟨j, _, rfl⟩ := PL.tab_mem hx
    omega
  · show PL.b16 (PL.tab 24 fun _ => 0) = 0
    exact PL.b16_tab_zero 24
  · and_intros <;> first | rfl | trivial | exact Iff.rfl
  rintro ⟨k, a⟩ hok
  dsimp only at hok ⊢
  have han := hok.num
  have hal := lt24 han.len
  have hav := hok.val
  have hA0 := absorbN_range R k 0 t (by unfold PL.PQ; omega)
  refine ⟨fun hlt => ?_, fun hge => ?_⟩
  · replace hlt : 16 * k < t.length := by
      have : ((16 * k : Nat) : Int) < (t.length : Int) := hlt
      omega
    obtain ⟨hkq, hA⟩ : k ≤ t.length / 16 ∧ PL.b16 a = PL.absorbN R k 0 t := by
      rcases hav with h1 | h1
      · exact h1
      · omega
    have nx : ∀ z : Int, z = ar0.wrap .i64 (ar0.add ((16 * k : Nat) : Int) 16) → z = ((16 * (k + 1) : Nat) : Int) := fun z hz => by
      rw [hz]
      show IntKind.i64.wrap (((16 * k : Nat) : Int) + 16) = _
      rw [wrap_i64 (by omega) (by omega)]
      omega
    intro z hz
    replace hz := nx z hz
    refine ⟨fun hlast => ?_, fun hfull => ?_⟩
    · have hkk : k = t.length / 16 ∧ t.length % 16 ≠ 0 := by
        have : (t.length : Int) < z := hlast
        omega
      refine ⟨le_ar rfl, hal 0 (by decide), le_ar rfl, hal 1 (by decide), le_ar rfl, hal 2 (by decide), le_ar rfl, hal 3 (by decide), le_ar rfl, hal 4 (by decide), le_ar rfl, hal 5 (by decide), le_ar rfl, hal 6 (by decide), le_ar rfl, hal 7 (by decide), le_ar rfl, hal 8 (by decide), le_ar rfl, hal 9 (by decide), le_ar rfl, hal 10 (by decide), le_ar rfl, hal 11 (by decide), le_ar rfl, hal 12 (by decide), le_ar rfl, hal 13 (by decide), le_ar rfl, hal 14 (by decide), le_ar rfl, hal 15 (by decide), le_ar rfl, hal 16 (by decide), le_ar rfl, hal 17 (by decide), le_ar rfl, hal 18 (by decide), le_ar rfl, hal 19 (by decide), le_ar rfl, hal 20 (by decide), le_ar rfl, hal 21 (by decide), le_ar rfl, hal 22 (by decide), le_ar rfl, hal 23 (by decide), Int.natCast_nonneg _, by show ((16 * k : Nat) : Int) ≤ (t.length : Int); omega, Int.le_refl _, ?_⟩
      intro q hq
      replace hq : q = t.drop (16 * k) := by
        rw [hq]
        show (t.take (t.length : Int).toNat).drop ((16 * k : Nat) : Int).toNat = _
        rw [Int.toNat_natCast, Int.toNat_natCast, List.take_length]
      have hql : q.length ≤ 16 := by rw [hq, List.length_drop]; omega
      refine ⟨(q, 1), rfl, rfl, ⟨by show q.length ≤ 32; omega, by show (0 : Int) ≤ 1 ∧ (1 : Int) < 256; omega⟩, fun y1 h1 => ⟨(a, y1), rfl, rfl, rfl, rfl, rfl, rfl, rfl, rfl, rfl, rfl, rfl, rfl, rfl, rfl, rfl, rfl, rfl, rfl, rfl, rfl, rfl, rfl, rfl, rfl, rfl, rfl, rfl, rfl, rfl, rfl, rfl, rfl, rfl, rfl, rfl, rfl, rfl, rfl, rfl, rfl, rfl, rfl, rfl, rfl, rfl, rfl, rfl, rfl, ⟨han, h1.num⟩, fun y2 h2 => ⟨(y2, r), ?_⟩⟩⟩
      refine ⟨rfl, rfl, rfl, rfl, rfl, rfl, rfl, rfl, rfl, rfl, rfl, rfl, rfl, rfl, rfl, rfl, rfl, rfl, rfl, rfl, rfl, rfl, rfl, rfl, rfl, rfl, rfl, rfl, rfl, rfl, rfl, rfl, rfl, rfl, rfl, rfl, rfl, rfl, rfl, rfl, rfl, rfl, rfl, rfl, rfl, rfl, rfl, rfl, ⟨h2.num, hrn⟩, fun y3 h3 => ⟨y3, rfl, rfl, rfl, rfl, rfl, rfl, rfl, rfl, rfl, rfl, rfl, rfl, rfl, rfl, rfl, rfl, rfl, rfl, rfl, rfl, rfl, rfl, rfl, rfl, h3.num, fun y4 h4 => ?_⟩⟩
      intro z2 hz2
      replace hz2 := nx z2 hz2
      refine ⟨(k + 1, y4), ⟨h4.num, .inr ⟨by show k + 1 = _; omega, hkk.2, ?_⟩⟩, by show t.length + 16 - 16 * (k + 1) < t.length + 16 - 16 * k; omega, ?_⟩
      · show PL.b16 y4 = PL.lastN R t
        rw [round_val hql hA hA0 hrn hRv hRb h1 h2 h3 h4]
        unfold PL.lastN
        rw [← hkk.1, ← hq]
        have hne : q ≠ [] := fun e => by
          have := congrArg List.length e
          rw [hq, List.length_drop] at this
          simp at this
          omega
        simp only [hne, if_false]
      · and_intros <;> first | rfl | trivial | exact Iff.rfl | exact hz2 | exact ints24 h4.num.len
    · have hk1 : 16 * k + 16 ≤ t.length := by
        have : ¬ (t.length : Int) < z := hfull
        omega
      rw [hz]
      refine ⟨le_ar rfl, hal 0 (by decide), le_ar rfl, hal 1 (by decide), le_ar rfl, hal 2 (by decide), le_ar rfl, hal 3 (by decide), le_ar rfl, hal 4 (by decide), le_ar rfl, hal 5 (by decide), le_ar rfl, hal 6 (by decide), le_ar rfl, hal 7 (by decide), le_ar rfl, hal 8 (by decide), le_ar rfl, hal 9 (by decide), le_ar rfl, hal 10 (by decide), le_ar rfl, hal 11 (by decide), le_ar rfl, hal 12 (by decide), le_ar rfl, hal 13 (by decide), le_ar rfl, hal 14 (by decide), le_ar rfl, hal 15 (by decide), le_ar rfl, hal 16 (by decide), le_ar rfl, hal 17 (by decide), le_ar rfl, hal 18 (by decide), le_ar rfl, hal 19 (by decide), le_ar rfl, hal 20 (by decide), le_ar rfl, hal 21 (by decide), le_ar rfl, hal 22 (by decide), le_ar rfl, hal 23 (by decide), Int.natCast_nonneg _, by show ((16 * k : Nat) : Int) ≤ ((16 * (k + 1) : Nat) : Int); omega, by show ((16 * (k + 1) : Nat) : Int) ≤ (t.length : Int); omega, ?_⟩
      intro q hq
      replace hq : q = (t.drop (16 * k)).take 16 := by
        rw [hq]
        show (t.take ((16 * (k + 1) : Nat) : Int).toNat).drop ((16 * k : Nat) : Int).toNat = _
        rw [Int.toNat_natCast, Int.toNat_natCast, List.drop_take, show 16 * (k + 1) - 16 * k = 16 by omega]
      have hql : q.length = 16 := by rw [hq, List.length_take, List.length_drop]; omega
      refine ⟨(q, 1), rfl, rfl, ⟨by show q.length ≤ 32; omega, by show (0 : Int) ≤ 1 ∧ (1 : Int) < 256; omega⟩, fun y1 h1 => ⟨(a, y1), rfl, rfl, rfl, rfl, rfl, rfl, rfl, rfl, rfl, rfl, rfl, rfl, rfl, rfl, rfl, rfl, rfl, rfl, rfl, rfl, rfl, rfl, rfl, rfl, rfl, rfl, rfl, rfl, rfl, rfl, rfl, rfl, rfl, rfl, rfl, rfl, rfl, rfl, rfl, rfl, rfl, rfl, rfl, rfl, rfl, rfl, rfl, rfl, ⟨han, h1.num⟩, fun y2 h2 => ⟨(y2, r), ?_⟩⟩⟩
      refine ⟨rfl, rfl, rfl, rfl, rfl, rfl, rfl, rfl, rfl, rfl, rfl, rfl, rfl, rfl, rfl, rfl, rfl, rfl, rfl, rfl, rfl, rfl, rfl, rfl, rfl, rfl, rfl, rfl, rfl, rfl, rfl, rfl, rfl, rfl, rfl, rfl, rfl, rfl, rfl, rfl, rfl, rfl, rfl, rfl, rfl, rfl, rfl, rfl, ⟨h2.num, hrn⟩, fun y3 h3 => ⟨y3, rfl, rfl, rfl, rfl, rfl, rfl, rfl, rfl, rfl, rfl, rfl, rfl, rfl, rfl, rfl, rfl, rfl, rfl, rfl, rfl, rfl, rfl, rfl, rfl, h3.num, fun y4 h4 => ?_⟩⟩
      intro z2 hz2
      replace hz2 := nx z2 hz2
      refine ⟨(k + 1, y4), ⟨h4.num, .inl ⟨by show k + 1 ≤ _; omega, ?_⟩⟩, by show t.length + 16 - 16 * (k + 1) < t.length + 16 - 16 * k; omega, ?_⟩
      · show PL.b16 y4 = PL.absorbN R (k + 1) 0 t
        rw [round_val (show q.length ≤ 16 by omega) hA hA0 hrn hRv hRb h1 h2 h3 h4, PL.absorbN_succ, ← hq, leI_append, PL.ints_length, hql]
        congr 2
        rw [show (256 : Int) ^ 16 * PL.leI [1] = 340282366920938463463374607431768211456 by decide +kernel, Int.add_assoc]
      · and_intros <;> first | rfl | trivial | exact Iff.rfl | exact hz2 | exact ints24 h4.num.len
  · replace hge : t.length ≤ 16 * k := by
      have : ¬ ((16 * k : Nat) : Int) < (t.length : Int) := hge
      omega
    have hlast : PL.b16 a = PL.lastN R t := by
      rcases hav with ⟨h1, h2⟩ | ⟨_, _, h2⟩
      · have hk0 : k = t.length / 16 := by omega
        rw [h2]
        unfold PL.lastN
        rw [← hk0, List.drop_eq_nil_of_le hge]
        simp only [if_true]
        exact (Int.emod_eq_of_lt hA0.1 hA0.2).symm
      · exact h2
    have hlb : 0 ≤ PL.lastN R t ∧ PL.lastN R t < PL.PQ := by
      unfold PL.lastN
      simp only
      split
      · exact ⟨Int.emod_nonneg _ (by decide), Int.emod_lt_of_pos _ (by decide)⟩
      · exact ⟨Int.emod_nonneg _ (by decide), Int.emod_lt_of_pos _ (by decide)⟩
    refine ⟨le_ar rfl, hal 0 (by decide), le_ar rfl, hal 1 (by decide), le_ar rfl, hal 2 (by decide), le_ar rfl, hal 3 (by decide), le_ar rfl, hal 4 (by decide), le_ar rfl, hal 5 (by decide), le_ar rfl, hal 6 (by decide), le_ar rfl, hal 7 (by decide), le_ar rfl, hal 8 (by decide), le_ar rfl, hal 9 (by decide), le_ar rfl, hal 10 (by decide), le_ar rfl, hal 11 (by decide), le_ar rfl, hal 12 (by decide), le_ar rfl, hal 13 (by decide), le_ar rfl, hal 14 (by decide), le_ar rfl, hal 15 (by decide), le_ar rfl, hal 16 (by decide), le_ar rfl, hal 17 (by decide), le_ar rfl, hal 18 (by decide), le_ar rfl, hal 19 (by decide), le_ar rfl, hal 20 (by decide), le_ar rfl, hal 21 (by decide), le_ar rfl, hal 22 (by decide), le_ar rfl, hal 23 (by decide), by show (16 : Int) ≤ (key.length : Int); omega, ?_⟩
    intro q hq
    replace hq : q = key.drop 16 := by
      rw [hq]
      show (key.take (key.length : Int).toNat).drop (16 : Int).toNat = _
      rw [Int.toNat_natCast, List.take_length]
      rfl
    have hql : q.length = 16 := by rw [hq, List.length_drop]; omega
    refine ⟨(q, 0), rfl, rfl, ⟨by show q.length ≤ 32; omega, by show (0 : Int) ≤ 0 ∧ (0 : Int) < 256; omega⟩, fun y1 h1 => ⟨(a, y1), rfl, rfl, rfl, rfl, rfl, rfl, rfl, rfl, rfl, rfl, rfl, rfl, rfl, rfl, rfl, rfl, rfl, rfl, rfl, rfl, rfl, rfl, rfl, rfl, rfl, rfl, rfl, rfl, rfl, rfl, rfl, rfl, rfl, rfl, rfl, rfl, rfl, rfl, rfl, rfl, rfl, rfl, rfl, rfl, rfl, rfl, rfl, rfl, ⟨han, h1.num⟩, fun y2 h2 => ?_⟩⟩
    have hS : PL.b16 y1 = PL.sOf key := by
      have h0 : PL.b16 y1 = PL.leI (PL.ints q ++ [0]) := h1.val
      rw [h0, leI_snoc0, hq]
      rfl
    have hSb : 0 ≤ PL.sOf key ∧ PL.sOf key < 340282366920938463463374607431768211456 := by
      have b := leI_bound _ (PL.ints_bytes (key.drop 16))
      rw [PL.ints_length, show (key.drop 16).length = 16 by rw [List.length_drop]; omega] at b
      exact b
    have hfin : PL.b16 y2 = PL.lastN R t + PL.sOf key := by
      have h0 : PL.b16 y2 = (PL.b16 a + PL.b16 y1) % PL.M24 := h2.val
      rw [h0, hlast, hS]
      refine Int.emod_eq_of_lt (by omega) ?_
      unfold PL.M24 PL.PQ at *
      omega
    refine ⟨.inl ⟨y2, ⟨h2.num, by rw [hRR]; exact hfin⟩, ?_⟩, ?_, ?_⟩
    · and_intros <;> first | rfl | trivial | exact Iff.rfl | exact ints24 h2.num.len
    · intro a1 hf
      have hfn := hf.num
      have hl1 := lt24 hfn.len
      have g0 := PL.getD_dig hfn.dig (show 0 < a1.length by have := hfn.len; omega)
      refine ⟨le_ar rfl, hl1 0 (by decide), ?_⟩
      intro z hz z1 hz1 c hc
      replace hz : z = a1.getD 0 0 % 256 := by rw [hz]; exact Int.tmod_eq_emod_of_nonneg g0.1
      replace hz1 : z1 = a1.getD 0 0 % 256 := by rw [hz1, hz]; exact (wrap_u8 _).trans (by omega)
      refine ⟨le_ar rfl, hl1 0 (by decide), ?_⟩
      intro z2 hz2 z3 hz3
      replace hz2 : z2 = a1.getD 0 0 / 256 := by
        rw [hz2]
        show IntKind.i64.wrap ((a1.getD 0 0).tdiv 256) = _
        rw [Int.tdiv_eq_ediv_of_nonneg g0.1, wrap_i64 (by omega) (by omega)]
      replace hz3 : z3 = a1.getD 0 0 / 256 := by rw [hz3, hz2]; exact (wrap_u8 _).trans (by omega)
      refine ⟨le_ar rfl, rfl, ?_⟩
      intro c' hc'
      have hi2 : PL.ints [UInt8.ofNat z1.toNat, UInt8.ofNat z3.toNat] = [z1, z3] := by
        show [((UInt8.ofNat z1.toNat).toNat : Int), ((UInt8.ofNat z3.toNat).toNat : Int)] = _
        rw [UInt8.toNat_ofNat_of_lt' (by show z1.toNat < 256; omega), UInt8.toNat_ofNat_of_lt' (by show z3.toNat < 256; omega), Int.toNat_of_nonneg (by omega), Int.toNat_of_nonneg (by omega)]
      refine .inr ⟨(a1, 1, [UInt8.ofNat z1.toNat, UInt8.ofNat z3.toNat], c'), ⟨hf, ⟨by show 1 ≤ 8; omega, ?_⟩, ⟨hc'⟩⟩, by show 8 - 1 < 9; omega, ?_⟩
      · show PL.ints [UInt8.ofNat z1.toNat, UInt8.ofNat z3.toNat] = PL.by2 (a1.take 1)
        rw [hi2, by2_succ (show 0 < a1.length by have := hfn.len; omega), hz1, hz3]
        rfl
      · and_intros <;> first | rfl | trivial | exact Iff.rfl | exact hi2.symm
    · rintro ⟨a1, i, l, c⟩ ⟨hf, ho, ⟨hc⟩⟩
      dsimp only at hf ho hc ⊢
      have hfn := hf.num
      have hi := ho.hi
      have he := ho.eq
      have hll : l.length = 2 * i := by
        have := congrArg List.length he
        rw [PL.ints_length, by2_length, List.length_take, hfn.len] at this
        omega
      refine ⟨fun hlt => ?_, fun hge => ?_⟩
      · replace hlt : i < 8 := by
          have : (i : Int) < 8 := hlt
          omega
        obtain ⟨s1, s2, s3, s4⟩ := at24 (show i < 24 by omega) hfn.len
        have g0 := PL.getD_dig hfn.dig (show i < a1.length by have := hfn.len; omega)
        have hg : ar0.iget a1 (i : Int) = a1.getD i 0 := by show a1.getD (i : Int).toNat 0 = _; rw [Int.toNat_natCast]
        refine ⟨s1, s2, s3, s4, ?_⟩
        intro z hz z1 hz1
        replace hz : z = a1.getD i 0 % 256 := by rw [hz, hg]; exact Int.tmod_eq_emod_of_nonneg g0.1
        replace hz1 : z1 = a1.getD i 0 % 256 := by rw [hz1, hz]; exact (wrap_u8 _).trans (by omega)
        have A1 := acc_app l (z := z1) (by omega) (by omega)
        rw [A1]
        have len1 : (l ++ [UInt8.ofNat z1.toNat]).length = 2 * i + 1 := by rw [List.length_append, hll]; rfl
        have e1 : ar0.add (l.length : Int) 1 = ((l ++ [UInt8.ofNat z1.toNat]).length : Int) := by
          show (l.length : Int) + 1 = _
          rw [len1, hll]; omega
        rw [e1]
        refine ⟨by show (0 : Int) + (l.length : Int) ≤ ((PL.ints l).length : Int); rw [PL.ints_length]; omega, rfl, by show ((l ++ [UInt8.ofNat z1.toNat]).length : Int) * 1 ≤ _; omega, ?_⟩
        intro c1 hc1
        refine ⟨s1, s2, s3, s4, ?_⟩
        intro z2 hz2 z3 hz3
        replace hz2 : z2 = a1.getD i 0 / 256 := by
          rw [hz2, hg]
          show IntKind.i64.wrap ((a1.getD i 0).tdiv 256) = _
          rw [Int.tdiv_eq_ediv_of_nonneg g0.1, wrap_i64 (by omega) (by omega)]
        replace hz3 : z3 = a1.getD i 0 / 256 := by rw [hz3, hz2]; exact (wrap_u8 _).trans (by omega)
        refine ⟨by show (0 : Int) + ((l ++ [UInt8.ofNat z1.toNat]).length : Int) ≤ ((PL.ints (l ++ [UInt8.ofNat z1.toNat])).length : Int); rw [PL.ints_length]; omega, rfl, by show (((l ++ [UInt8.ofNat z1.toNat]).length : Int) + 1) * 1 ≤ _; omega, ?_⟩
        intro c2 hc2 z4 hz4
        replace hz4 := next24 (by omega) hz4
        have A2 := acc_app (l ++ [UInt8.ofNat z1.toNat]) (z := z3) (by omega) (by omega)
        have len2 : ((l ++ [UInt8.ofNat z1.toNat]) ++ [UInt8.ofNat z3.toNat]).length = 2 * (i + 1) := by rw [List.length_append, len1]; show 2 * i + 1 + 1 = _; omega
        have e2 : ar0.add ((l ++ [UInt8.ofNat z1.toNat]).length : Int) 1 = (((l ++ [UInt8.ofNat z1.toNat]) ++ [UInt8.ofNat z3.toNat]).length : Int) := by
          show ((l ++ [UInt8.ofNat z1.toNat]).length : Int) + 1 = _
          rw [len1, len2]; omega
        refine .inr ⟨(a1, i + 1, (l ++ [UInt8.ofNat z1.toNat]) ++ [UInt8.ofNat z3.toNat], c2), ⟨hf, ⟨by show i + 1 ≤ 8; omega, ?_⟩, ⟨by rw [← e2]; exact hc2⟩⟩, by show 8 - (i + 1) < 8 - i; omega, ?_⟩
        · show PL.ints ((l ++ [UInt8.ofNat z1.toNat]) ++ [UInt8.ofNat z3.toNat]) = PL.by2 (a1.take (i + 1))
          rw [by2_succ (show i < a1.length by have := hfn.len; omega), ← he, PL.ints_append, PL.ints_append, ← acc_one (z := z1) (by omega) (by omega), ← acc_one (z := z3) (by omega) (by omega), hz1, hz3, List.append_assoc]
          rfl
        · and_intros <;> first | rfl | trivial | exact Iff.rfl | exact e2 | exact hz4 | exact A2
      · obtain rfl : i = 8 := by
          have : ¬ (i : Int) < 8 := hge
          omega
        have h16 : l.length = 16 := by omega
        refine ⟨le_ar rfl, by show (0 : Int) + (l.length : Int) ≤ ((PL.ints l).length : Int); rw [PL.ints_length]; omega, ?_⟩
        intro w hw
        refine .inr ⟨(), ⟨h32⟩, ?_, trivial⟩
        rw [hw, acc_bytes]
        show l = PL.leBytes (PL.lastN (PL.rOf key) t + PL.sOf key)
        have hv : PL.leI (PL.ints l) = PL.b16 (a1.take 8) := by rw [he, by2_leI]
        have e := PL.b16_append (a1.take 8) (a1.drop 8)
        rw [List.take_append_drop, List.length_take, hfn.len] at e
        rw [← hf.val, e, ← hv]
        have := leBytes_leI h16 (PL.b16 (a1.drop 8))
        rw [show min 8 24 = 8 from rfl, show (65536 : Int) ^ 8 = 340282366920938463463374607431768211456 by decide +kernel]
        exact this.symm
end Go.Eng

/- Poly: walks. -/
set_option linter.unusedVariables false
set_option linter.unusedSectionVars false
namespace Go.Eng
variable [CW : CWorld]
open Go.Proofs
open Go.PL (L5 MacS)
set_option maxRecDepth 100000
theorem vc5 (ar : AR) (x : List UInt8 × List UInt8) : (run ar PP r5 noInv 1000 5 0 (Try.f5.body.getD .skip) ([.str x.1, .str x.2] ++ List.replicate (Try.f5.ntmps - 2) .any) [] (endCall ar PP Try.f5.results.toList (addsSpec.fin x))) = (
    ∃ (x_1 : List UInt8 × List UInt8), x.fst = x_1.fst ∧ x.snd = x_1.snd ∧ PL.TagPre x_1.fst x_1.snd ∧ (∀ (y : Unit), PL.NotKey x_1.fst → ∃ (x_2 : List UInt8 × List UInt8), x.fst =
    x_2.fst ∧ x.snd = x_2.snd ∧ PL.TwoStr x_2.fst x_2.snd ∧ (∀ (y : Unit), PL.NotKey x_2.fst → (ar.seq [] [] → ∃ (y : Unit), True ∧ True) ∧ (¬ar.seq [] [] → ∃ (y : Unit), True ∧
    False)) ∧ ∀ (y : Unit), PL.IsKey x_2.fst → (ar.seq [] (PL.tagOf x_2.fst x_2.snd) → ∃ (y : Unit), True ∧ False) ∧ (¬ar.seq [] (PL.tagOf x_2.fst x_2.snd) → ∃ (y : Unit), True ∧
    False)) ∧ ∀ (y : Unit), PL.IsKey x_1.fst → ∃ (x_2 : List UInt8 × List UInt8), x.fst = x_2.fst ∧ x.snd = x_2.snd ∧ PL.TwoStr x_2.fst x_2.snd ∧ (∀ (y : Unit), PL.NotKey x_2.fst →
    (ar.seq (PL.tagOf x_1.fst x_1.snd) [] → ∃ (y : Unit), True ∧ False) ∧ (¬ar.seq (PL.tagOf x_1.fst x_1.snd) [] → ∃ (y : Unit), True ∧ False)) ∧ ∀ (y : Unit), PL.IsKey x_2.fst →
    (ar.seq (PL.tagOf x_1.fst x_1.snd) (PL.tagOf x_2.fst x_2.snd) → ∃ (y : Unit), True ∧ True) ∧ (¬ar.seq (PL.tagOf x_1.fst x_1.snd) (PL.tagOf x_2.fst x_2.snd) → ∃ (y : Unit), True
    ∧ False)) := by
  kernel_rfl
end Go.Eng


set_option linter.unusedSimpArgs false
set_option linter.unusedVariables false
set_option linter.unusedSectionVars false
set_option maxRecDepth 100000
namespace Go.Eng
variable [CW : CWorld]
open Go.Proofs

theorem r5_ok : SpecsOK PP r5 := by
  intro f xs _ S h
  unfold r5 at h
  split at h
  · cases h; exact tagSpec_ok
  · cases h; exact refTagSpec_ok
  · cases h

theorem tagsSpec_ok : addsSpec.OK PP 5 := by
  refine Spec.ok_of_run (fn := Try.f5) (c := Try.f5.body.getD .skip) (by kernel_rfl) (by kernel_rfl) (by kernel_rfl) r5_ok (fun _ => noInv) 1000 ?_
  rintro ⟨k, t⟩ ⟨hk, ht⟩
  refine (vc5 ar0 (k, t)).mpr ?_
  have hkl : k.length ≤ 140737488351232 := hk.len
  have htl : t.length ≤ 140737488351232 := ht.len
  have tp : PL.TagPre k t := ⟨⟨by omega⟩, by omega⟩
  have tw : PL.TwoStr k t := ⟨hk, ht⟩
  have hnk : PL.NotKey k ↔ k.length ≠ 32 := ⟨fun h => h.ne, fun h => ⟨h⟩⟩
  have hik : PL.IsKey k ↔ k.length = 32 := ⟨fun h => h.len, fun h => ⟨h⟩⟩
  simp only [ars, Prod.exists, exists_and_left, exists_eq_left', exists_eq_left, true_and, and_true, and_false, exists_const, exists_false, false_or, or_false, forall_const, forall_eq, imp_false, Classical.not_not, tp, tw, hnk, hik]
  by_cases h : k.length = 32 <;> simp [h]
end Go.Eng
