/- Poly: plus holds its contract; the laws of numbers of sixteen bytes. -/
import Derived.Test.YtnkdnnaelcgenaaPolyB
set_option linter.unusedVariables false
set_option linter.unusedSimpArgs false

/- Poly: the contracts of Tag and of the statements' own functions. -/
namespace Go.PL
def tagOf (key t : List UInt8) : List UInt8 := leBytes (lastN (rOf key) t + sOf key)
structure TagPre (key t : List UInt8) : Prop where
  key : LenOK key
  len : t.length < 4611686018427387904
structure IsKey (key : List UInt8) : Prop where
  len : key.length = 32
def keyedF (s : List UInt8) : List UInt8 := (List.range 32).map fun i => if s = [] then 0 else s.getD (i % s.length) 0
structure KeyedOK (s : List UInt8) (l : List UInt8) : Prop where
  len : l.length ≤ 32
  eq : l = (keyedF s).take l.length
structure StrOK (s : List UInt8) : Prop where
  len : s.length ≤ 140737488351232
structure CapOK (n c : Int) : Prop where
  le : n ≤ c
def digI (b : Int) : Int := if 97 ≤ b then b - 87 else if 48 ≤ b then b - 48 else b + 208
def hexF : List UInt8 → List UInt8
  | a :: b :: r => UInt8.ofNat ((16 * digI a.toNat + digI b.toNat) % 256).toNat :: hexF r
  | _ => []
structure ByteOK (b : Int) : Prop where
  b : 0 ≤ b ∧ b < 256
structure HexOK (s : List UInt8) (i : Nat) (l : List UInt8) : Prop where
  le : 2 * i ≤ s.length + 1
  eq : l = hexF (s.take (2 * i))
  len : l.length ≤ i
structure SmallN (n : Nat) : Prop where
  le : n < 1099511627776
structure Two16 (a b : List UInt8) : Prop where
  ha : 16 ≤ a.length
  hb : 16 ≤ b.length
  ha1 : a.length < 4611686018427387904
  hb1 : b.length < 4611686018427387904
def plusF (a b : List UInt8) : List UInt8 := leBytes (leI (ints (a.take 16)) + leI (ints (b.take 16)))
structure PlusOK (a b : List UInt8) (c : Int) (l : List UInt8) : Prop where
  len : l.length ≤ 16
  hc : 0 ≤ c ∧ c ≤ 1
  eq : leI (ints l) + c * 256 ^ l.length = leI (ints (a.take l.length)) + leI (ints (b.take l.length))
end Go.PL
set_option linter.unusedSectionVars false
namespace Go.Eng
variable [CW : CWorld]
open Go.Proofs
open Go.PL (L5 MacS)
set_option maxRecDepth 100000

def tagSpec : Spec where
  X := List UInt8 × List UInt8
  A x := [.str x.1, .str x.2]
  H _ := []
  pre x := PL.TagPre x.1 x.2
  outs := [{ Y _ := Unit, post x _ := PL.NotKey x.1, R _ _ := .tup [.str [], .int .i64 (.l 40)], H' _ _ := [] },
    { Y _ := Unit, post x _ := PL.IsKey x.1, R x _ := .tup [.str (PL.tagOf x.1 x.2), .int .i64 (.l 0)], H' _ _ := [] }]

def keyedSpec : Spec where
  X := List UInt8
  A x := [.str x]
  H _ := []
  pre x := PL.StrOK x
  outs := [{ Y _ := Unit, post _ _ := True, R x _ := .str (PL.keyedF x), H' _ _ := [] }]

def digitSpec : Spec where
  X := Int
  A x := [.int .u8 (.x x)]
  H _ := []
  pre x := PL.ByteOK x
  outs := [{ Y _ := Unit, post _ _ := True, R x _ := .int .i64 (.x (PL.digI x)), H' _ _ := [] }]

def hexSpec : Spec where
  X := List UInt8
  A x := [.str x]
  H _ := []
  pre x := PL.StrOK x
  outs := [{ Y _ := Unit, post _ _ := True, R x _ := .str (PL.hexF x), H' _ _ := [] }]

def zerosSpec : Spec where
  X := Nat
  A x := [.int .i64 (.x (x : Int))]
  H _ := []
  pre x := PL.SmallN x
  outs := [{ Y _ := Unit, post _ _ := True, R x _ := .str (List.replicate x 0), H' _ _ := [] }]

def plusSpec : Spec where
  X := List UInt8 × List UInt8
  A x := [.str x.1, .str x.2]
  H _ := []
  pre x := PL.Two16 x.1 x.2
  outs := [{ Y _ := Unit, post _ _ := True, R x _ := .str (PL.plusF x.1 x.2), H' _ _ := [] }]

noncomputable def tSpecs : Specs := fun f _ _ => match f with
  | 12 => some newSpec
  | 24 => some writeSpec
  | 16 => some sumSpec
  | 18 => some tagSpec
  | 23 => some keyedSpec
  | 36 => some digitSpec
  | 20 => some hexSpec
  | 21 => some zerosSpec
  | 25 => some plusSpec
  | _ => none

noncomputable def gSpecs : Specs := fun f _ _ => match f with
  | 12 => some newSpec
  | 24 => some writeSpec
  | 16 => some sumSpec
  | _ => none
noncomputable def hSpecs : Specs := fun f _ _ => match f with
  | 36 => some digitSpec
  | _ => none

/-- A list of bytes that a loop appends to: none yet, or some. -/
def accBlk (l : List UInt8) (c : Int) : Blk := .mk 5 [.arr (.x c) [.ints .u8 (PL.ints l)]]
def accSlc (n : Nat) (l : List UInt8) (c : Int) : SV := .slc n (.l 0) (.x (l.length : Int)) (.x c)

def keyedInv (s : List UInt8) : Code → List SV → List Blk → List Inv := fun b fr hp => [
  { ι := Unit, fr := fun _ => upd (havoc b fr) [(3, .nslc), (4, .int .i64 (.l 0))], hp := fun _ => hp, μ := fun _ => 33, ok := fun _ => True },
  { ι := List UInt8 × Int, fr := fun i => upd (havoc b fr) [(3, accSlc hp.length i.1 i.2), (4, .int .i64 (.x (i.1.length : Int)))], hp := fun i => hp ++ [accBlk i.1 i.2], μ := fun i => 32 - i.1.length, ok := fun i => PL.KeyedOK s i.1 ∧ PL.CapOK i.1.length i.2 }]
def hexInv (s : List UInt8) : Code → List SV → List Blk → List Inv := fun b fr hp => [
  { ι := Unit, fr := fun _ => upd (havoc b fr) [(3, .nslc), (4, .int .i64 (.l 0))], hp := fun _ => hp, μ := fun _ => s.length + 2, ok := fun _ => True },
  { ι := List UInt8 × Int × Nat, fr := fun i => upd (havoc b fr) [(3, accSlc hp.length i.1 i.2.1), (4, .int .i64 (.x ((2 * i.2.2 : Nat) : Int)))], hp := fun i => hp ++ [accBlk i.1 i.2.1], μ := fun i => s.length + 1 - 2 * i.2.2, ok := fun i => PL.HexOK s i.2.2 i.1 ∧ PL.CapOK i.1.length i.2.1 }]
def plusInv (a b : List UInt8) : Code → List SV → List Blk → List Inv := fun k fr hp => [
  { ι := Unit, fr := fun _ => upd (havoc k fr) [(5, .nslc), (6, .int .i64 (.l 0)), (7, .int .i64 (.l 0))], hp := fun _ => hp, μ := fun _ => 17, ok := fun _ => True },
  { ι := List UInt8 × Int × Int, fr := fun i => upd (havoc k fr) [(5, accSlc hp.length i.1 i.2.1), (6, .int .i64 (.x i.2.2)), (7, .int .i64 (.x (i.1.length : Int)))], hp := fun i => hp ++ [accBlk i.1 i.2.1], μ := fun i => 16 - i.1.length, ok := fun i => PL.PlusOK a b i.2.2 i.1 ∧ PL.CapOK i.1.length i.2.1 }]
def strInvs (s t : List UInt8) : Invs := fun f n => match f, n with
  | 23, 3 => some (keyedInv s)
  | 20, 3 => some (hexInv s)
  | 25, 4 => some (plusInv s t)
  | _, _ => none

end Go.Eng

/- Poly: walks. -/
set_option linter.unusedVariables false
set_option linter.unusedSectionVars false
namespace Go.Eng
variable [CW : CWorld]
open Go.Proofs
open Go.PL (L5 MacS)
set_option maxRecDepth 100000
theorem vc18 (ar : AR) (x : List UInt8 × List UInt8) : (run ar PP gSpecs noInv 1000 18 0 (Try.f18.body.getD .skip) ([.str x.1, .str x.2] ++ List.replicate (Try.f18.ntmps - 2) .any) [] (endCall ar PP Try.f18.results.toList (tagSpec.fin x))) = (
    ∃ (x_1 : List UInt8), x.fst = x_1 ∧ PL.LenOK x_1 ∧ (∀ (y : Unit), PL.NotKey x_1 → (∃ (y : Unit), PL.NotKey x.fst ∧ ([] : List UInt8) = [] ∧ True) ∨ ∃ (y : Unit), PL.IsKey x.fst ∧ False) ∧ ∀
    (y : MacS), PL.NewOK x_1 y → ∃ (x_2 : MacS × List UInt8 × Int × List UInt8), x.snd = x_2.2.fst ∧ y.1.a = x_2.fst.acc.a ∧ y.1.b = x_2.fst.acc.b ∧ y.1.c = x_2.fst.acc.c ∧ y.1.d =
    x_2.fst.acc.d ∧ y.1.e = x_2.fst.acc.e ∧ y.2.a = x_2.fst.r.a ∧ y.2.b = x_2.fst.r.b ∧ y.2.c = x_2.fst.r.c ∧ y.2.d = x_2.fst.r.d ∧ y.2.e = x_2.fst.r.e ∧ y.s0 = x_2.1.s0 ∧ y.s1 =
    x_2.1.s1 ∧ y.rest = x_2.1.rest ∧ y.held = x_2.1.held ∧ PL.WritePre x_2.snd.snd.fst x_2.snd.snd.snd x_2.2.fst x_2.fst ∧ ∀ (y : MacS), PL.Written x_2.snd.snd.fst x_2.snd.snd.snd
    x_2.2.fst x_2.fst y → ∃ (x_3 : MacS × Int × List UInt8), y.1.a = x_3.fst.acc.a ∧ y.1.b = x_3.fst.acc.b ∧ y.1.c = x_3.fst.acc.c ∧ y.1.d = x_3.fst.acc.d ∧ y.1.e = x_3.fst.acc.e ∧
    y.2.a = x_3.fst.r.a ∧ y.2.b = x_3.fst.r.b ∧ y.2.c = x_3.fst.r.c ∧ y.2.d = x_3.fst.r.d ∧ y.2.e = x_3.fst.r.e ∧ y.s0 = x_3.1.s0 ∧ y.s1 = x_3.1.s1 ∧ y.rest = x_3.1.rest ∧ y.held =
    x_3.1.held ∧ PL.SumPre x_3.2.fst x_3.2.snd x_3.fst ∧ ∀ (y : Unit), True → (∃ (y : Unit), PL.NotKey x.fst ∧ False) ∨ ∃ (y : Unit), PL.IsKey x.fst ∧ PL.leBytes (((PL.lastN
    x_3.2.fst x_3.2.snd).add x_3.1.s0).add (x_3.1.s1.mul 18446744073709551616)) = PL.tagOf x.fst x.snd ∧ True) := by
  kernel_rfl
end Go.Eng


/- Poly: walks. -/
set_option linter.unusedVariables false
set_option linter.unusedSectionVars false
namespace Go.Eng
variable [CW : CWorld]
open Go.Proofs
open Go.PL (L5 MacS)
set_option maxRecDepth 100000
theorem vc23 (ar : AR) (x : List UInt8) : (run ar PP noSpec (strInvs x []) 1000 23 0 (Try.f23.body.getD .skip) ([.str x] ++ List.replicate (Try.f23.ntmps - 1) .any) [] (endCall ar PP Try.f23.results.toList (keyedSpec.fin x))) = (
    ((∃ (i : Unit), True ∧ x = x ∧ ([] : List UInt8) = [] ∧ True) ∨ ∃ (i : List UInt8 × Int), (PL.KeyedOK x i.fst ∧ PL.CapOK (↑i.fst.length : Int) i.snd) ∧ False) ∧ (∀ (i : Unit), True → (¬ar.seq
    x [] → ¬ar.eq (ar.slen x) 0 ∧ ∀ (z : Int), z = ar.rem 0 (ar.slen x) → ar.le 0 z ∧ ar.lt z (ar.slen x) ∧ ∀ (z_1 : Int), z_1 = ar.sget x z → ∀ (c : Int), ar.le 1 c → (∃ (j :
    Unit), True ∧ Nat.lt 33 33 ∧ False) ∨ ∃ (j : List UInt8 × Int), (PL.KeyedOK x j.fst ∧ PL.CapOK (↑j.fst.length : Int) j.snd) ∧ (Nat.sub 32 j.fst.length).lt 33 ∧ x = x ∧ ([] : List UInt8) = []
    ∧ 1 = (↑j.fst.length : Int) ∧ c = j.snd ∧ 1 = (↑j.fst.length : Int) ∧ c = j.snd ∧ [z_1] = PL.ints j.fst ∧ True) ∧ (¬¬ar.seq x [] → ∀ (c : Int), ar.le 1 c → (∃ (j : Unit), True
    ∧ Nat.lt 33 33 ∧ False) ∨ ∃ (j : List UInt8 × Int), (PL.KeyedOK x j.fst ∧ PL.CapOK (↑j.fst.length : Int) j.snd) ∧ (Nat.sub 32 j.fst.length).lt 33 ∧ x = x ∧ ([] : List UInt8) = [] ∧ 1 =
    (↑j.fst.length : Int) ∧ c = j.snd ∧ 1 = (↑j.fst.length : Int) ∧ c = j.snd ∧ [0] = PL.ints j.fst ∧ True)) ∧ ∀ (i : List UInt8 × Int), PL.KeyedOK x i.fst ∧ PL.CapOK
    (↑i.fst.length : Int) i.snd → (ar.lt (↑i.fst.length : Int) 32 → (¬ar.seq x [] → ¬ar.eq (ar.slen x) 0 ∧ ∀ (z : Int), z = ar.rem (↑i.fst.length : Int) (ar.slen x) → ar.le 0 z ∧
    ar.lt z (ar.slen x) ∧ ∀ (z_1 : Int), z_1 = ar.sget x z → ar.le (ar.add 0 (↑i.fst.length : Int)) (ar.ilen (PL.ints i.fst)) ∧ i.snd = i.snd ∧ ar.le (ar.mul (ar.add (↑i.fst.length
    : Int) 1) 1) 140737488355328 ∧ ∀ (c : Int), ar.le (ar.add (↑i.fst.length : Int) 1) c → ∀ (z : Int), z = ar.wrap IntKind.i64 (ar.add (↑i.fst.length : Int) 1) → (∃ (j : Unit),
    True ∧ Nat.lt 33 (Nat.sub 32 i.fst.length) ∧ False) ∨ ∃ (j : List UInt8 × Int), (PL.KeyedOK x j.fst ∧ PL.CapOK (↑j.fst.length : Int) j.snd) ∧ (Nat.sub 32 j.fst.length).lt
    (Nat.sub 32 i.fst.length) ∧ x = x ∧ ([] : List UInt8) = [] ∧ ar.add (↑i.fst.length : Int) 1 = (↑j.fst.length : Int) ∧ c = j.snd ∧ z = (↑j.fst.length : Int) ∧ c = j.snd ∧ ar.iapp (ar.isub
    (PL.ints i.fst) 0 (↑i.fst.length : Int)) [z_1] = PL.ints j.fst ∧ True) ∧ (¬¬ar.seq x [] → ar.le (ar.add 0 (↑i.fst.length : Int)) (ar.ilen (PL.ints i.fst)) ∧ i.snd = i.snd ∧
    ar.le (ar.mul (ar.add (↑i.fst.length : Int) 1) 1) 140737488355328 ∧ ∀ (c : Int), ar.le (ar.add (↑i.fst.length : Int) 1) c → ∀ (z : Int), z = ar.wrap IntKind.i64 (ar.add
    (↑i.fst.length : Int) 1) → (∃ (j : Unit), True ∧ Nat.lt 33 (Nat.sub 32 i.fst.length) ∧ False) ∨ ∃ (j : List UInt8 × Int), (PL.KeyedOK x j.fst ∧ PL.CapOK (↑j.fst.length : Int)
    j.snd) ∧ (Nat.sub 32 j.fst.length).lt (Nat.sub 32 i.fst.length) ∧ x = x ∧ ([] : List UInt8) = [] ∧ ar.add (↑i.fst.length : Int) 1 = (↑j.fst.length : Int) ∧ c = j.snd ∧ z = (↑j.fst.length :
    Int) ∧ c = j.snd ∧ ar.iapp (ar.isub (PL.ints i.fst) 0 (↑i.fst.length : Int)) [0] = PL.ints j.fst ∧ True)) ∧ (¬ar.lt (↑i.fst.length : Int) 32 → ar.le 0 0 ∧ ar.le (ar.add 0
    (↑i.fst.length : Int)) (ar.ilen (PL.ints i.fst)) ∧ ∀ (t : List UInt8), t = ar.bytes (ar.isub (PL.ints i.fst) 0 (↑i.fst.length : Int)) → ∃ (y : Unit), True ∧ t = PL.keyedF x ∧
    True)) := by
  kernel_rfl
end Go.Eng


/- Poly: walks. -/
set_option linter.unusedVariables false
set_option linter.unusedSectionVars false
namespace Go.Eng
variable [CW : CWorld]
open Go.Proofs
open Go.PL (L5 MacS)
set_option maxRecDepth 100000
theorem vc36 (ar : AR) (x : Int) : (run ar PP noSpec noInv 1000 36 0 (Try.f36.body.getD .skip) ([.int .u8 (.x x)] ++ List.replicate (Try.f36.ntmps - 1) .any) [] (endCall ar PP Try.f36.results.toList (digitSpec.fin x))) = (
    (ar.le 97 x → ∀ (z : Int), z = ar.wrap IntKind.u8 (ar.sub x 97) → ∀ (z_1 : Int), z_1 = ar.wrap IntKind.i64 z → ∀ (z : Int), z = ar.wrap IntKind.i64 (ar.add z_1 10) → ∃ (y :
    Unit), True ∧ z = PL.digI x ∧ True) ∧ (¬ar.le 97 x → ∀ (z : Int), z = ar.wrap IntKind.u8 (ar.sub x 48) → ∀ (z_1 : Int), z_1 = ar.wrap IntKind.i64 z → ∃ (y : Unit), True ∧ z_1 =
    PL.digI x ∧ True)) := by
  kernel_rfl
end Go.Eng


/- Poly: walks. -/
set_option linter.unusedVariables false
set_option linter.unusedSectionVars false
namespace Go.Eng
variable [CW : CWorld]
open Go.Proofs
open Go.PL (L5 MacS)
set_option maxRecDepth 100000
theorem vc20 (ar : AR) (x : List UInt8) : (run ar PP hSpecs (strInvs x []) 1000 20 0 (Try.f20.body.getD .skip) ([.str x] ++ List.replicate (Try.f20.ntmps - 1) .any) [] (endCall ar PP Try.f20.results.toList (hexSpec.fin x))) = (
    ((∃ (i : Unit), True ∧ x = x ∧ ([] : List UInt8) = [] ∧ True) ∨ ∃ (i : List UInt8 × Int × Nat), (PL.HexOK x i.2.snd i.fst ∧ PL.CapOK (↑i.fst.length : Int) i.2.fst) ∧ False) ∧ (∀ (i : Unit),
    True → (ar.lt 1 (ar.slen x) → ar.lt 0 (ar.slen x) ∧ ∀ (z : Int), z = ar.sget x 0 → ar.lt 1 (ar.slen x) ∧ ∀ (z_1 : Int), z_1 = ar.sget x 1 → ∃ (x_1 : Int), z = x_1 ∧ PL.ByteOK
    x_1 ∧ ∀ (y : Unit), True → ∀ (z : Int), z = ar.wrap IntKind.i64 (ar.mul 16 (PL.digI x_1)) → ∃ (x_2 : Int), z_1 = x_2 ∧ PL.ByteOK x_2 ∧ ∀ (y : Unit), True → ∀ (z_2 : Int), z_2 =
    ar.wrap IntKind.i64 (ar.add z (PL.digI x_2)) → ∀ (z : Int), z = ar.wrap IntKind.u8 z_2 → ∀ (c : Int), ar.le 1 c → (∃ (j : Unit), True ∧ (x.length.add 2).lt (x.length.add 2) ∧
    False) ∨ ∃ (j : List UInt8 × Int × Nat), (PL.HexOK x j.2.snd j.fst ∧ PL.CapOK (↑j.fst.length : Int) j.2.fst) ∧ ((x.length.add 1).sub (Nat.mul 2 j.2.snd)).lt (x.length.add 2) ∧
    x = x ∧ ([] : List UInt8) = [] ∧ 1 = (↑j.fst.length : Int) ∧ c = j.2.fst ∧ 2 = (↑(Nat.mul 2 j.2.snd) : Int) ∧ c = j.2.fst ∧ [z] = PL.ints j.fst ∧ True) ∧ (¬ar.lt 1 (ar.slen x) → ∀ (t : List
    UInt8), t = [] → ∃ (y : Unit), True ∧ t = PL.hexF x ∧ True)) ∧ ∀ (i : List UInt8 × Int × Nat), PL.HexOK x i.2.snd i.fst ∧ PL.CapOK (↑i.fst.length : Int) i.2.fst → ∀ (z : Int),
    z = ar.wrap IntKind.i64 (ar.add (↑(Nat.mul 2 i.2.snd) : Int) 1) → (ar.lt z (ar.slen x) → ar.le 0 (↑(Nat.mul 2 i.2.snd) : Int) ∧ ar.lt (↑(Nat.mul 2 i.2.snd) : Int) (ar.slen x) ∧
    ∀ (z : Int), z = ar.sget x (↑(Nat.mul 2 i.2.snd) : Int) → ∀ (z_1 : Int), z_1 = ar.wrap IntKind.i64 (ar.add (↑(Nat.mul 2 i.2.snd) : Int) 1) → ar.le 0 z_1 ∧ ar.lt z_1 (ar.slen x)
    ∧ ∀ (z_2 : Int), z_2 = ar.sget x z_1 → ∃ (x_1 : Int), z = x_1 ∧ PL.ByteOK x_1 ∧ ∀ (y : Unit), True → ∀ (z : Int), z = ar.wrap IntKind.i64 (ar.mul 16 (PL.digI x_1)) → ∃ (x_2 :
    Int), z_2 = x_2 ∧ PL.ByteOK x_2 ∧ ∀ (y : Unit), True → ∀ (z_3 : Int), z_3 = ar.wrap IntKind.i64 (ar.add z (PL.digI x_2)) → ∀ (z : Int), z = ar.wrap IntKind.u8 z_3 → ar.le
    (ar.add 0 (↑i.fst.length : Int)) (ar.ilen (PL.ints i.fst)) ∧ i.2.fst = i.2.fst ∧ ar.le (ar.mul (ar.add (↑i.fst.length : Int) 1) 1) 140737488355328 ∧ ∀ (c : Int), ar.le (ar.add
    (↑i.fst.length : Int) 1) c → ∀ (z_4 : Int), z_4 = ar.wrap IntKind.i64 (ar.add (↑(Nat.mul 2 i.2.snd) : Int) 2) → (∃ (j : Unit), True ∧ (x.length.add 2).lt ((x.length.add 1).sub
    (Nat.mul 2 i.2.snd)) ∧ False) ∨ ∃ (j : List UInt8 × Int × Nat), (PL.HexOK x j.2.snd j.fst ∧ PL.CapOK (↑j.fst.length : Int) j.2.fst) ∧ ((x.length.add 1).sub (Nat.mul 2
    j.2.snd)).lt ((x.length.add 1).sub (Nat.mul 2 i.2.snd)) ∧ x = x ∧ ([] : List UInt8) = [] ∧ ar.add (↑i.fst.length : Int) 1 = (↑j.fst.length : Int) ∧ c = j.2.fst ∧ z_4 = (↑(Nat.mul 2 j.2.snd) :
    Int) ∧ c = j.2.fst ∧ ar.iapp (ar.isub (PL.ints i.fst) 0 (↑i.fst.length : Int)) [z] = PL.ints j.fst ∧ True) ∧ (¬ar.lt z (ar.slen x) → ar.le 0 0 ∧ ar.le (ar.add 0 (↑i.fst.length
    : Int)) (ar.ilen (PL.ints i.fst)) ∧ ∀ (t : List UInt8), t = ar.bytes (ar.isub (PL.ints i.fst) 0 (↑i.fst.length : Int)) → ∃ (y : Unit), True ∧ t = PL.hexF x ∧ True)) := by
  kernel_rfl
end Go.Eng


/- Poly: walks. -/
set_option linter.unusedVariables false
set_option linter.unusedSectionVars false
namespace Go.Eng
variable [CW : CWorld]
open Go.Proofs
open Go.PL (L5 MacS)
set_option maxRecDepth 100000
theorem vc21 (ar : AR) (x : Nat) : (run ar PP noSpec noInv 1000 21 0 (Try.f21.body.getD .skip) ([.int .i64 (.x (x : Int))] ++ List.replicate (Try.f21.ntmps - 1) .any) [] (endCall ar PP Try.f21.results.toList (zerosSpec.fin x))) = (
    ar.le 0 (↑x : Int) ∧ ar.le (↑x : Int) (↑x : Int) ∧ ar.le (ar.mul (↑x : Int) 1) 140737488355328 ∧ ar.le 0 0 ∧ ar.le (ar.add 0 (↑x : Int)) (ar.ilen (ar.irep 0 (↑x : Int))) ∧ ∀ (t
    : List UInt8), t = ar.bytes (ar.isub (ar.irep 0 (↑x : Int)) 0 (↑x : Int)) → ∃ (y : Unit), True ∧ t = List.replicate x (UInt8.ofNat 0) ∧ True) := by
  kernel_rfl
end Go.Eng


/- Poly: walks. -/
set_option linter.unusedVariables false
set_option linter.unusedSectionVars false
namespace Go.Eng
variable [CW : CWorld]
open Go.Proofs
open Go.PL (L5 MacS)
set_option maxRecDepth 100000
theorem vc25 (ar : AR) (x : List UInt8 × List UInt8) : (run ar PP noSpec (strInvs x.1 x.2) 1000 25 0 (Try.f25.body.getD .skip) ([.str x.1, .str x.2] ++ List.replicate (Try.f25.ntmps - 2) .any) [] (endCall ar PP Try.f25.results.toList (plusSpec.fin x))) = (
    ((∃ (i : Unit), True ∧ x.fst = x.fst ∧ x.snd = x.snd ∧ ([] : List UInt8) = [] ∧ True) ∨ ∃ (i : List UInt8 × Int × Int), (PL.PlusOK x.fst x.snd i.2.snd i.fst ∧ PL.CapOK (↑i.fst.length : Int)
    i.2.fst) ∧ False) ∧ (∀ (i : Unit), True → ar.lt 0 (ar.slen x.fst) ∧ ∀ (z : Int), z = ar.sget x.fst 0 → ∀ (z_1 : Int), z_1 = ar.wrap IntKind.i64 z → ar.lt 0 (ar.slen x.snd) ∧ ∀
    (z : Int), z = ar.sget x.snd 0 → ∀ (z_2 : Int), z_2 = ar.wrap IntKind.i64 z → ∀ (z : Int), z = ar.wrap IntKind.i64 (ar.add z_1 z_2) → ∀ (z_3 : Int), z_3 = ar.wrap IntKind.i64
    (ar.add z 0) → ∀ (z : Int), z = ar.rem z_3 256 → ∀ (z_4 : Int), z_4 = ar.wrap IntKind.u8 z → ∀ (c : Int), ar.le 1 c → ∀ (z : Int), z = ar.wrap IntKind.i64 (ar.quo z_3 256) → (∃
    (j : Unit), True ∧ Nat.lt 17 17 ∧ False) ∨ ∃ (j : List UInt8 × Int × Int), (PL.PlusOK x.fst x.snd j.2.snd j.fst ∧ PL.CapOK (↑j.fst.length : Int) j.2.fst) ∧ (Nat.sub 16
    j.fst.length).lt 17 ∧ x.fst = x.fst ∧ x.snd = x.snd ∧ ([] : List UInt8) = [] ∧ 1 = (↑j.fst.length : Int) ∧ c = j.2.fst ∧ z = j.2.snd ∧ 1 = (↑j.fst.length : Int) ∧ c = j.2.fst ∧ [z_4] =
    PL.ints j.fst ∧ True) ∧ ∀ (i : List UInt8 × Int × Int), PL.PlusOK x.fst x.snd i.2.snd i.fst ∧ PL.CapOK (↑i.fst.length : Int) i.2.fst → (ar.lt (↑i.fst.length : Int) 16 → ar.le 0
    (↑i.fst.length : Int) ∧ ar.lt (↑i.fst.length : Int) (ar.slen x.fst) ∧ ∀ (z : Int), z = ar.sget x.fst (↑i.fst.length : Int) → ∀ (z_1 : Int), z_1 = ar.wrap IntKind.i64 z → ar.le
    0 (↑i.fst.length : Int) ∧ ar.lt (↑i.fst.length : Int) (ar.slen x.snd) ∧ ∀ (z : Int), z = ar.sget x.snd (↑i.fst.length : Int) → ∀ (z_2 : Int), z_2 = ar.wrap IntKind.i64 z → ∀ (z
    : Int), z = ar.wrap IntKind.i64 (ar.add z_1 z_2) → ∀ (z_3 : Int), z_3 = ar.wrap IntKind.i64 (ar.add z i.2.snd) → ∀ (z : Int), z = ar.rem z_3 256 → ∀ (z_4 : Int), z_4 = ar.wrap
    IntKind.u8 z → ar.le (ar.add 0 (↑i.fst.length : Int)) (ar.ilen (PL.ints i.fst)) ∧ i.2.fst = i.2.fst ∧ ar.le (ar.mul (ar.add (↑i.fst.length : Int) 1) 1) 140737488355328 ∧ ∀ (c :
    Int), ar.le (ar.add (↑i.fst.length : Int) 1) c → ∀ (z : Int), z = ar.wrap IntKind.i64 (ar.quo z_3 256) → ∀ (z_5 : Int), z_5 = ar.wrap IntKind.i64 (ar.add (↑i.fst.length : Int)
    1) → (∃ (j : Unit), True ∧ Nat.lt 17 (Nat.sub 16 i.fst.length) ∧ False) ∨ ∃ (j : List UInt8 × Int × Int), (PL.PlusOK x.fst x.snd j.2.snd j.fst ∧ PL.CapOK (↑j.fst.length : Int)
    j.2.fst) ∧ (Nat.sub 16 j.fst.length).lt (Nat.sub 16 i.fst.length) ∧ x.fst = x.fst ∧ x.snd = x.snd ∧ ([] : List UInt8) = [] ∧ ar.add (↑i.fst.length : Int) 1 = (↑j.fst.length : Int) ∧ c =
    j.2.fst ∧ z = j.2.snd ∧ z_5 = (↑j.fst.length : Int) ∧ c = j.2.fst ∧ ar.iapp (ar.isub (PL.ints i.fst) 0 (↑i.fst.length : Int)) [z_4] = PL.ints j.fst ∧ True) ∧ (¬ar.lt
    (↑i.fst.length : Int) 16 → ar.le 0 0 ∧ ar.le (ar.add 0 (↑i.fst.length : Int)) (ar.ilen (PL.ints i.fst)) ∧ ∀ (t : List UInt8), t = ar.bytes (ar.isub (PL.ints i.fst) 0
    (↑i.fst.length : Int)) → ∃ (y : Unit), True ∧ t = PL.plusF x.fst x.snd ∧ True)) := by
  kernel_rfl
end Go.Eng


/- Poly: Tag and the statements' own functions hold their contracts. -/
set_option linter.unusedSimpArgs false
set_option linter.unusedVariables false
set_option maxRecDepth 100000
set_option linter.unusedSectionVars false
namespace Go.Eng
variable [CW : CWorld]
open Go.Proofs
open Go.PL (L5 MacS)

/-- The machine's arithmetic in plain words. -/
theorem ars : (∀ a b, ar0.le a b = (a ≤ b)) ∧ (∀ a b, ar0.lt a b = (a < b)) ∧ (∀ a b, ar0.eq a b = (a = b)) ∧ (∀ a b, ar0.add a b = a + b) ∧ (∀ a b, ar0.sub a b = a - b) ∧ (∀ a b, ar0.mul a b = a * b) ∧
    (∀ a b, ar0.quo a b = a.tdiv b) ∧ (∀ a b, ar0.rem a b = a.tmod b) ∧ (∀ s, ar0.slen s = (s.length : Int)) ∧ (∀ s, ar0.ilen s = (s.length : Int)) ∧ (∀ s t, ar0.seq s t = (s = t)) ∧ (∀ s t, ar0.sapp s t = s ++ t) ∧
    (∀ s a b, ar0.sext s a b = (s.take b.toNat).drop a.toNat) ∧ (∀ s i, ar0.sget s i = ((s.getD i.toNat 0).toNat : Int)) ∧ (∀ k n, ar0.wrap k n = k.wrap n) ∧
    (∀ a b : Nat, a.lt b = (a < b)) ∧ (∀ a b : Nat, a.le b = (a ≤ b)) ∧ (∀ a b : Nat, a.sub b = a - b) ∧ (∀ a b : Nat, a.add b = a + b) ∧ (∀ a b : Nat, a.mul b = a * b) ∧ (∀ a b : Int, a.add b = a + b) ∧ (∀ a b : Int, a.mul b = a * b) :=
  ⟨fun _ _ => rfl, fun _ _ => rfl, fun _ _ => rfl, fun _ _ => rfl, fun _ _ => rfl, fun _ _ => rfl, fun _ _ => rfl, fun _ _ => rfl, fun _ => rfl, fun _ => rfl, fun _ _ => rfl, fun _ _ => rfl, fun _ _ _ => rfl, fun _ _ => rfl, fun _ _ => rfl,
    fun _ _ => rfl, fun _ _ => rfl, fun _ _ => rfl, fun _ _ => rfl, fun _ _ => rfl, fun _ _ => rfl, fun _ _ => rfl⟩

theorem acc_app (l : List UInt8) {z : Int} (h0 : 0 ≤ z) (h1 : z < 256) : ar0.iapp (ar0.isub (PL.ints l) 0 (l.length : Int)) [z] = PL.ints (l ++ [UInt8.ofNat z.toNat]) := by
  show ((PL.ints l).drop 0).take (l.length : Int).toNat ++ [z] = _
  rw [List.drop_zero, Int.toNat_natCast, List.take_of_length_le (by rw [PL.ints_length]; omega), PL.ints_append]
  congr 1
  show [z] = [((UInt8.ofNat z.toNat).toNat : Int)]
  rw [UInt8.toNat_ofNat_of_lt' (by show z.toNat < 256; omega), Int.toNat_of_nonneg h0]
theorem acc_one {z : Int} (h0 : 0 ≤ z) (h1 : z < 256) : [z] = PL.ints [UInt8.ofNat z.toNat] := by
  show [z] = [((UInt8.ofNat z.toNat).toNat : Int)]
  rw [UInt8.toNat_ofNat_of_lt' (by show z.toNat < 256; omega), Int.toNat_of_nonneg h0]
theorem bytes_ints (l : List UInt8) : ar0.bytes (PL.ints l) = l := by
  show (l.map fun b => (b.toNat : Int)).map (fun n => UInt8.ofNat n.toNat) = l
  rw [List.map_map]
  conv => rhs; rw [← List.map_id l]
  apply List.map_congr_left
  intro b _
  simp
theorem acc_bytes (l : List UInt8) : ar0.bytes (ar0.isub (PL.ints l) 0 (l.length : Int)) = l := by
  have : ar0.isub (PL.ints l) 0 (l.length : Int) = PL.ints l := by
    show ((PL.ints l).drop 0).take (l.length : Int).toNat = _
    rw [List.drop_zero, Int.toNat_natCast, List.take_of_length_le (by rw [PL.ints_length]; omega)]
  rw [this, bytes_ints]

theorem zerosSpec_ok : zerosSpec.OK PP 21 := by
  refine Spec.ok_of_run (fn := Try.f21) (c := Try.f21.body.getD .skip) (by kernel_rfl) (by kernel_rfl) (by kernel_rfl) (specs := noSpec) noSpec_ok (fun _ => noInv) 1000 ?_
  intro (x : Nat) ⟨hx⟩
  refine (vc21 ar0 x).mpr ?_
  have e : ar0.irep 0 (x : Int) = PL.ints (List.replicate x 0) := by
    show List.replicate (x : Int).toNat (0 : Int) = _
    simp [PL.ints]
  have hl : (List.replicate x (0 : UInt8)).length = x := List.length_replicate ..
  rw [e]
  have hb := acc_bytes (List.replicate x (0 : UInt8))
  rw [hl] at hb
  simp only [ars, PL.ints_length, hl]
  refine ⟨by omega, by omega, by omega, by omega, by omega, ?_⟩
  rintro t rfl
  exact ⟨(), trivial, hb, trivial⟩

theorem digitSpec_ok : digitSpec.OK PP 36 := by
  refine Spec.ok_of_run (fn := Try.f36) (c := Try.f36.body.getD .skip) (by kernel_rfl) (by kernel_rfl) (by kernel_rfl) (specs := noSpec) noSpec_ok (fun _ => noInv) 1000 ?_
  intro (x : Int) ⟨hx⟩
  refine (vc36 ar0 x).mpr ?_
  simp only [ars, PL.digI]
  refine ⟨fun h => ?_, fun h => ?_⟩
  · intro z hz z1 hz1 z2 hz2
    rw [wrap_u8] at hz
    rw [wrap_i64 (by omega) (by omega)] at hz1
    rw [wrap_i64 (by omega) (by omega)] at hz2
    exact ⟨(), trivial, by omega, trivial⟩
  · intro z hz z1 hz1
    rw [wrap_u8] at hz
    rw [wrap_i64 (by omega) (by omega)] at hz1
    exact ⟨(), trivial, by omega, trivial⟩

end Go.Eng

/- Poly: Tag and the statements' own functions hold their contracts. -/
set_option linter.unusedSimpArgs false
set_option linter.unusedVariables false
set_option maxRecDepth 100000
set_option linter.unusedSectionVars false
namespace Go.Eng
variable [CW : CWorld]
open Go.Proofs
open Go.PL (L5 MacS)

theorem gSpecs_ok : SpecsOK PP gSpecs := by
  intro f xs _ S h
  unfold gSpecs at h
  split at h
  · cases h; exact newSpec_ok
  · cases h; exact writeSpec_ok
  · cases h; exact sumSpec_ok
  · cases h
theorem hSpecs_ok : SpecsOK PP hSpecs := by
  intro f xs _ S h
  unfold hSpecs at h
  split at h
  · cases h; exact digitSpec_ok
  · cases h

theorem sOf_eq {key : List UInt8} (h : key.length = 32) : PL.sOf key = PL.leI (PL.ints ((key.drop 16).take 8)) + PL.leI (PL.ints (key.drop 24)) * 18446744073709551616 := by
  unfold PL.sOf
  have e : PL.ints (key.drop 16) = PL.ints ((key.drop 16).take 8) ++ PL.ints (key.drop 24) := by
    rw [← PL.ints_append]
    congr 1
    rw [show key.drop 24 = (key.drop 16).drop 8 by rw [List.drop_drop], List.take_append_drop]
  rw [e, leI_append, PL.ints_length]
  have : ((key.drop 16).take 8).length = 8 := by simp; omega
  rw [this]
  omega

theorem leI_bound : ∀ (l : List Int), PL.Bytes l → 0 ≤ PL.leI l ∧ PL.leI l < 256 ^ l.length
  | [], _ => by simp [PL.leI]
  | x :: l, h => by
    have ih := leI_bound l ⟨fun y hy => h.b y (by simp [hy])⟩
    have hx := h.b x (by simp)
    simp only [PL.leI, List.length_cons, Int.pow_succ]
    omega

theorem tagSpec_ok : tagSpec.OK PP 18 := by
  refine Spec.ok_of_run (fn := Try.f18) (c := Try.f18.body.getD .skip) (by kernel_rfl) (by kernel_rfl) (by kernel_rfl) gSpecs_ok (fun _ => noInv) 1000 ?_
  rintro ⟨key, t⟩ ⟨hk, ht⟩
  refine (vc18 ar0 (key, t)).mpr ?_
  refine ⟨key, rfl, hk, fun _ h => .inl ⟨(), h, rfl, trivial⟩, fun m hm => ?_⟩
  refine ⟨(m, t, PL.rOf key, []), rfl, rfl, rfl, rfl, rfl, rfl, rfl, rfl, rfl, rfl, rfl, rfl, rfl, rfl, rfl, ⟨hm.ok, ht⟩, fun m' hm' => ?_⟩
  have b0 := leI_bound _ (PL.ints_bytes ((key.drop 16).take 8))
  have b1 := leI_bound _ (PL.ints_bytes (key.drop 24))
  have hkl := hm.len
  rw [PL.ints_length, show ((key.drop 16).take 8).length = 8 by simp; omega] at b0
  rw [PL.ints_length, show (key.drop 24).length = 8 by simp; omega] at b1
  have e0 : m'.s0 = PL.leI (PL.ints ((key.drop 16).take 8)) := hm'.s0.trans hm.s0
  have e1 : m'.s1 = PL.leI (PL.ints (key.drop 24)) := hm'.s1.trans hm.s1
  refine ⟨(m', PL.rOf key, t), rfl, rfl, rfl, rfl, rfl, rfl, rfl, rfl, rfl, rfl, rfl, rfl, rfl, rfl, ⟨hm'.ok, ?_, ?_⟩, fun _ _ => .inr ⟨(), ⟨hm.len⟩, ?_, trivial⟩⟩
  · rw [e0]; omega
  · rw [e1]; omega
  · show PL.leBytes (PL.lastN (PL.rOf key) t + m'.s0 + m'.s1 * 18446744073709551616) = PL.leBytes (PL.lastN (PL.rOf key) t + PL.sOf key)
    rw [sOf_eq hm.len, e0, e1, Int.add_assoc]

theorem keyedF_length (s : List UInt8) : (PL.keyedF s).length = 32 := by simp [PL.keyedF]
theorem keyedF_get (s : List UInt8) {i : Nat} (h : i < 32) : (PL.keyedF s)[i]? = some (if s = [] then 0 else s.getD (i % s.length) 0) := by
  simp [PL.keyedF, h]

theorem keyed_step {s l : List UInt8} (h : PL.KeyedOK s l) (hl : l.length < 32) {b : UInt8} (hb : b = if s = [] then 0 else s.getD (l.length % s.length) 0) : PL.KeyedOK s (l ++ [b]) := by
  refine ⟨by simp; omega, ?_⟩
  have e := h.eq
  have hg := keyedF_get s hl
  rw [← hb] at hg
  rw [List.length_append, show [b].length = 1 from rfl, List.take_add_one, hg]
  rw [← e]
  rfl

theorem nat_of_sget (s : List UInt8) (i : Int) : 0 ≤ ((s.getD i.toNat 0).toNat : Int) ∧ ((s.getD i.toNat 0).toNat : Int) < 256 := by
  have := (s.getD i.toNat 0).toNat_lt
  omega

theorem keyedSpec_ok : keyedSpec.OK PP 23 := by
  refine Spec.ok_of_run (fn := Try.f23) (c := Try.f23.body.getD .skip) (by kernel_rfl) (by kernel_rfl) (by kernel_rfl) (specs := noSpec) noSpec_ok (fun x => strInvs x []) 1000 ?_
  intro (x : List UInt8) ⟨hx⟩
  refine (vc23 ar0 x).mpr ?_
  simp only [ars, PL.ints_length, true_and, and_true, and_false, exists_const, exists_false, false_or, or_false, forall_const]
  have z0 : PL.KeyedOK x [] := ⟨by simp, by simp⟩
  have mem : ∀ (n : Nat), x ≠ [] → (n : Int).tmod (x.length : Int) = ((n % x.length : Nat) : Int) := fun n _ => by
    rw [Int.tmod_eq_emod_of_nonneg (by omega)]; rfl
  have val : ∀ (l : List UInt8) (z z1 : Int), x ≠ [] → z = ((l.length % x.length : Nat) : Int) → z1 = ((x.getD z.toNat 0).toNat : Int) → UInt8.ofNat z1.toNat = if x = [] then 0 else x.getD (l.length % x.length) 0 := fun l z z1 hne hz hz1 => by
    rw [if_neg hne, hz1, hz, Int.toNat_natCast, Int.toNat_natCast, UInt8.ofNat_toNat]
  refine ⟨⟨fun hne => ?_, fun hne => ?_⟩, ?_⟩
  · have hpos : 0 < x.length := List.length_pos_iff.2 hne
    refine ⟨by omega, ?_⟩
    intro z hz
    rw [show (0 : Int) = ((0 : Nat) : Int) from rfl, mem 0 hne] at hz
    have hlt := Nat.mod_lt 0 hpos
    refine ⟨by omega, by omega, ?_⟩
    intro z1 hz1 c hc
    have hb := nat_of_sget x z
    exact ⟨([UInt8.ofNat z1.toNat], c), ⟨keyed_step (l := []) z0 (by simp) (val [] z z1 hne hz hz1), ⟨by simpa using hc⟩⟩, by simp, rfl, rfl, rfl, rfl, acc_one (by omega) (by omega)⟩
  · have he : x = [] := Classical.byContradiction hne
    intro c hc
    exact ⟨([0], c), ⟨keyed_step (l := []) z0 (by simp) (by rw [if_pos he]), ⟨by simpa using hc⟩⟩, by simp, rfl, rfl, rfl, rfl, rfl⟩
  · rintro ⟨l, c⟩ ⟨hl, ⟨hc⟩⟩
    have hll := hl.len
    simp only at hl hc hll ⊢
    refine ⟨fun hlt => ⟨fun hne => ?_, fun hne => ?_⟩, fun hge => ?_⟩
    · have hpos : 0 < x.length := List.length_pos_iff.2 hne
      refine ⟨by omega, ?_⟩
      intro z hz
      rw [mem _ hne] at hz
      have hltm := Nat.mod_lt l.length hpos
      refine ⟨by omega, by omega, ?_⟩
      intro z1 hz1
      have hb := nat_of_sget x z
      refine ⟨by omega, by omega, ?_⟩
      intro c' hc' z2 hz2
      rw [wrap_i64 (by omega) (by omega)] at hz2
      exact ⟨(l ++ [UInt8.ofNat z1.toNat], c'), ⟨keyed_step hl (by omega) (val l z z1 hne hz hz1), ⟨by simpa using hc'⟩⟩, by simp; omega, by simp, rfl, by simp [hz2], rfl, acc_app l (by omega) (by omega)⟩
    · have he : x = [] := Classical.byContradiction hne
      refine ⟨by omega, by omega, ?_⟩
      intro c' hc' z2 hz2
      rw [wrap_i64 (by omega) (by omega)] at hz2
      exact ⟨(l ++ [0], c'), ⟨keyed_step hl (by omega) (by rw [if_pos he]), ⟨by simpa using hc'⟩⟩, by simp; omega, by simp, rfl, by simp [hz2], rfl, acc_app l (by omega) (by omega)⟩
    · refine ⟨by omega, by omega, ?_⟩
      rintro t rfl
      rw [acc_bytes, hl.eq, show l.length = 32 by omega, List.take_of_length_le (by rw [keyedF_length]; omega)]

theorem hexF_take (s : List UInt8) : ∀ (i : Nat), 2 * i + 1 < s.length → PL.hexF (s.take (2 * i + 2)) = PL.hexF (s.take (2 * i)) ++ [UInt8.ofNat ((16 * PL.digI (s.getD (2 * i) 0).toNat + PL.digI (s.getD (2 * i + 1) 0).toNat) % 256).toNat]
  | 0, h => by
    match s, h with
    | a :: b :: r, _ => simp [PL.hexF]
  | i + 1, h => by
    match s, h with
    | a :: b :: r, h =>
      have ih := hexF_take r i (by simp at h; omega)
      have e1 : (a :: b :: r).take (2 * (i + 1) + 2) = a :: b :: r.take (2 * i + 2) := by
        rw [show 2 * (i + 1) + 2 = (2 * i + 2) + 1 + 1 by omega]; simp
      have e2 : (a :: b :: r).take (2 * (i + 1)) = a :: b :: r.take (2 * i) := by
        rw [show 2 * (i + 1) = (2 * i) + 1 + 1 by omega]; simp
      have e3 : (a :: b :: r).getD (2 * (i + 1)) 0 = r.getD (2 * i) 0 := by
        rw [show 2 * (i + 1) = (2 * i) + 1 + 1 by omega]; simp
      have e4 : (a :: b :: r).getD (2 * (i + 1) + 1) 0 = r.getD (2 * i + 1) 0 := by
        rw [show 2 * (i + 1) + 1 = (2 * i + 1) + 1 + 1 by omega]; simp
      rw [e1, e2, e3, e4]
      simp only [PL.hexF, ih, List.cons_append]
theorem hexF_all (s : List UInt8) : ∀ (i : Nat), s.length ≤ 2 * i + 1 → PL.hexF (s.take (2 * i)) = PL.hexF s
  | 0, h => by
    match s, h with
    | [], _ => rfl
    | [a], _ => rfl
  | i + 1, h => by
    match s, h with
    | [], _ => rfl
    | [a], _ => rw [show 2 * (i + 1) = (2 * i + 1) + 1 by omega]; simp [PL.hexF]
    | a :: b :: r, h =>
      have ih := hexF_all r i (by simp at h; omega)
      rw [show 2 * (i + 1) = (2 * i) + 1 + 1 by omega]
      simp only [List.take_succ_cons, PL.hexF, ih]

theorem digI_bound {b : Int} (h : 0 ≤ b ∧ b < 256) : 0 ≤ PL.digI b ∧ PL.digI b < 256 := by
  unfold PL.digI
  split
  · omega
  · split <;> omega

theorem hex_step {s l : List UInt8} {i : Nat} (h : PL.HexOK s i l) (hi : 2 * i + 1 < s.length) : PL.HexOK s (i + 1) (l ++ [UInt8.ofNat ((16 * PL.digI (s.getD (2 * i) 0).toNat + PL.digI (s.getD (2 * i + 1) 0).toNat) % 256).toNat]) := by
  refine ⟨by omega, ?_, by have := h.len; simp; omega⟩
  rw [show 2 * (i + 1) = 2 * i + 2 by omega, hexF_take s i hi, ← h.eq]

theorem hexSpec_ok : hexSpec.OK PP 20 := by
  refine Spec.ok_of_run (fn := Try.f20) (c := Try.f20.body.getD .skip) (by kernel_rfl) (by kernel_rfl) (by kernel_rfl) hSpecs_ok (fun x => strInvs x []) 1000 ?_
  intro (x : List UInt8) ⟨hx⟩
  refine (vc20 ar0 x).mpr ?_
  simp only [ars, PL.ints_length, true_and, and_true, and_false, exists_const, exists_false, false_or, or_false, forall_const]
  have z0 : PL.HexOK x 0 [] := ⟨by omega, by simp [PL.hexF], by simp⟩
  have hd := fun i : Nat => digI_bound (nat_of_sget x (i : Int))
  refine ⟨⟨fun h1 => ⟨by omega, ?_⟩, fun h1 => ?_⟩, ?_⟩
  · intro z hz
    refine ⟨by omega, ?_⟩
    intro z1 hz1
    have b0 := nat_of_sget x 0
    have b1 := nat_of_sget x 1
    have d0 := digI_bound b0
    have d1 := digI_bound b1
    refine ⟨z, rfl, ⟨by omega⟩, ?_⟩
    intro z2 hz2
    refine ⟨z1, rfl, ⟨by omega⟩, ?_⟩
    rw [hz] at hz2
    rw [wrap_i64 (by omega) (by omega)] at hz2
    rw [hz1]
    intro z3 hz3
    rw [wrap_i64 (by omega) (by omega)] at hz3
    intro z4 hz4 c hc
    rw [wrap_u8] at hz4
    have st := hex_step z0 (by omega)
    refine ⟨([] ++ [UInt8.ofNat z4.toNat], c, 1), ⟨?_, ⟨by simpa using hc⟩⟩, by simp; omega, rfl, rfl, rfl, rfl, acc_one (by omega) (by omega)⟩
    rw [hz4, hz3, hz2]
    exact st
  · have hl : x.length ≤ 1 := by omega
    have := hexF_all x 0 (by omega)
    rintro t rfl
    rw [← this]
    rfl
  · rintro ⟨l, c, i⟩ ⟨hl, ⟨hc⟩⟩
    have hle := hl.le
    have hlen := hl.len
    simp only at hl hc hle hlen ⊢
    have hx' : x.length ≤ 140737488351232 := hx
    intro z hz
    rw [wrap_i64 (by omega) (by omega)] at hz
    refine ⟨fun hlt => ?_, fun hge => ?_⟩
    · refine ⟨by omega, by omega, ?_⟩
      intro z0 hz0 z1 hz1
      rw [wrap_i64 (by omega) (by omega)] at hz1
      refine ⟨by omega, by omega, ?_⟩
      intro z2 hz2
      have b0 := nat_of_sget x ((2 * i : Nat) : Int)
      have b1 := nat_of_sget x z1
      have d0 := digI_bound b0
      have d1 := digI_bound b1
      refine ⟨z0, rfl, ⟨by omega⟩, ?_⟩
      intro z3 hz3
      refine ⟨z2, rfl, ⟨by omega⟩, ?_⟩
      rw [hz0] at hz3
      rw [wrap_i64 (by omega) (by omega)] at hz3
      rw [hz2]
      intro z4 hz4
      rw [wrap_i64 (by omega) (by omega)] at hz4
      intro z5 hz5
      rw [wrap_u8] at hz5
      refine ⟨by omega, by omega, ?_⟩
      intro c' hc' z6 hz6
      rw [wrap_i64 (by omega) (by omega)] at hz6
      have st := hex_step hl (by omega)
      refine ⟨(l ++ [UInt8.ofNat z5.toNat], c', i + 1), ⟨?_, ⟨by simpa using hc'⟩⟩, by show x.length + 1 - 2 * (i + 1) < x.length + 1 - 2 * i; omega, by simp, rfl, by show z6 = ((2 * (i + 1) : Nat) : Int); omega, rfl, acc_app l (by omega) (by omega)⟩
      rw [hz5, hz4, hz3, hz1]
      rw [show ((2 * i : Nat) : Int).toNat = 2 * i by omega, show (((2 * i : Nat) : Int) + 1).toNat = 2 * i + 1 by omega]
      exact st
    · refine ⟨by omega, by omega, ?_⟩
      rintro t rfl
      rw [acc_bytes, hl.eq]
      exact hexF_all x i (by omega)
end Go.Eng

set_option linter.unusedSimpArgs false
set_option linter.unusedVariables false
set_option maxRecDepth 100000
set_option linter.unusedSectionVars false
namespace Go.Eng
variable [CW : CWorld]
open Go.Proofs
open Go.PL (L5 MacS)

theorem digit_of : ∀ (l : List Int) (k : Int) (i : Nat), PL.Bytes l → i < l.length → (PL.leI l + 256 ^ l.length * k) / 256 ^ i % 256 = l.getD i 0
  | [], _, i, _, h => by simp at h
  | x :: l, k, 0, hb, h => by
    have hx := hb.b x (by simp)
    simp only [PL.leI, List.length_cons, Int.pow_succ, Int.pow_zero, Int.ediv_one, List.getD_cons_zero]
    rw [Int.mul_assoc, Int.mul_left_comm]
    omega
  | x :: l, k, i + 1, hb, h => by
    have ih := digit_of l k i ⟨fun y hy => hb.b y (by simp [hy])⟩ (by simpa using h)
    have hx := hb.b x (by simp)
    simp only [PL.leI, List.length_cons, List.getD_cons_succ]
    rw [← ih]
    congr 1
    rw [Int.pow_succ, Int.pow_succ, Int.mul_comm (256 ^ i) 256, ← Int.ediv_ediv_of_nonneg (by omega)]
    congr 1
    rw [Int.mul_comm (256 ^ l.length) 256, Int.mul_assoc]
    omega

theorem leBytes_leI {l : List UInt8} (h : l.length = 16) (k : Int) : PL.leBytes (PL.leI (PL.ints l) + 340282366920938463463374607431768211456 * k) = l := by
  unfold PL.leBytes
  apply List.ext_getElem?
  intro i
  by_cases hi : i < 16
  · have hd := digit_of (PL.ints l) k i (PL.ints_bytes l) (by rw [PL.ints_length, h]; exact hi)
    rw [PL.ints_length, h] at hd
    rw [show (340282366920938463463374607431768211456 : Int) = 256 ^ 16 by decide, List.getElem?_map, List.getElem?_range hi, Option.map_some, hd]
    have hl : i < l.length := by omega
    have : (PL.ints l).getD i 0 = (l[i].toNat : Int) := by
      simp [PL.ints, List.getD, hl]
    rw [this, Int.toNat_natCast, UInt8.ofNat_toNat, List.getElem?_eq_getElem hl]
  · rw [List.getElem?_eq_none (by simp; omega), List.getElem?_eq_none (by omega)]

theorem leBytes_length (v : Int) : (PL.leBytes v).length = 16 := by simp [PL.leBytes]

theorem leBytes_cong {v w : Int} (h : v % 340282366920938463463374607431768211456 = w % 340282366920938463463374607431768211456) : PL.leBytes v = PL.leBytes w := by
  have key : ∀ u : Int, PL.leBytes u = PL.leBytes (u % 340282366920938463463374607431768211456) := fun u => by
    unfold PL.leBytes
    apply List.map_congr_left
    intro i hi
    have hi := List.mem_range.1 hi
    congr 2
    have e := Int.mul_ediv_add_emod u 340282366920938463463374607431768211456
    generalize u / 340282366920938463463374607431768211456 = q at e
    generalize u % 340282366920938463463374607431768211456 = r at e
    have hp : (340282366920938463463374607431768211456 : Int) = 256 ^ i * (256 * 256 ^ (15 - i)) := by
      have : (256 : Int) ^ 16 = 256 ^ i * (256 * 256 ^ (15 - i)) := by
        rw [← Int.pow_succ', ← Int.pow_add]
        congr 1
        omega
      rw [← this]; decide
    rw [← e, hp, Int.mul_assoc, Int.add_comm, Int.add_mul_ediv_left _ _ (Int.ne_of_gt (Int.pow_pos (by omega))), Int.mul_assoc, Int.add_mul_emod_self_left]
  rw [key v, key w, h]

/-- What sixteen bytes say of a number. -/
theorem leI_leBytes (v : Int) : PL.leI (PL.ints (PL.leBytes v)) = v % 340282366920938463463374607431768211456 := by
  have hb := leI_bound _ (PL.ints_bytes (PL.leBytes v))
  rw [PL.ints_length, leBytes_length] at hb
  have e := leBytes_leI (leBytes_length v) 0
  rw [Int.mul_zero, Int.add_zero] at e
  -- digits settle it
  have dig : ∀ (n : Nat) (a b : Int), 0 ≤ a → a < 256 ^ n → 0 ≤ b → b < 256 ^ n → (∀ i, i < n → a / 256 ^ i % 256 = b / 256 ^ i % 256) → a = b := by
    intro n
    induction n with
    | zero => intro a b a0 a1 b0 b1 _; simp at a1 b1; omega
    | succ n ih =>
      intro a b a0 a1 b0 b1 h
      have h0 := h 0 (by omega)
      simp only [Int.pow_zero, Int.ediv_one] at h0
      rw [Int.pow_succ] at a1 b1
      have := ih (a / 256) (b / 256) (by omega) (by omega) (by omega) (by omega) (fun i hi => by
        have := h (i + 1) (by omega)
        rw [Int.pow_succ, Int.mul_comm, ← Int.ediv_ediv_of_nonneg (by omega), ← Int.ediv_ediv_of_nonneg (by omega)] at this
        exact this)
      omega
  refine dig 16 _ _ hb.1 hb.2 (Int.emod_nonneg _ (by decide)) (Int.emod_lt_of_pos _ (by decide)) (fun i hi => ?_)
  have d1 := digit_of (PL.ints (PL.leBytes v)) 0 i (PL.ints_bytes _) (by rw [PL.ints_length, leBytes_length]; exact hi)
  rw [Int.mul_zero, Int.add_zero] at d1
  rw [d1]
  have hv : PL.leBytes v = PL.leBytes (v % 340282366920938463463374607431768211456) := leBytes_cong (by rw [Int.emod_emod_of_dvd _ (Int.dvd_refl _)])
  rw [hv]
  have hr : (0 : Int) ≤ (v % 340282366920938463463374607431768211456) / 256 ^ i % 256 ∧ (v % 340282366920938463463374607431768211456) / 256 ^ i % 256 < 256 := ⟨Int.emod_nonneg _ (by decide), Int.emod_lt_of_pos _ (by decide)⟩
  simp only [PL.leBytes, PL.ints, List.map_map, List.getD, List.getElem?_map, List.getElem?_range hi, Option.map_some, Option.getD_some, Function.comp]
  generalize (v % 340282366920938463463374607431768211456) / 256 ^ i % 256 = d at hr
  rw [UInt8.toNat_ofNat_of_lt' (by show d.toNat < 256; omega), Int.toNat_of_nonneg hr.1]

theorem ints_take_succ {a : List UInt8} {n : Nat} (h : n < a.length) : PL.leI (PL.ints (a.take (n + 1))) = PL.leI (PL.ints (a.take n)) + (a.getD n 0).toNat * 256 ^ n := by
  have e : a.take (n + 1) = a.take n ++ [a.getD n 0] := by
    rw [List.take_add_one, List.getElem?_eq_getElem h]
    simp [List.getD, List.getElem?_eq_getElem h]
  rw [e, PL.ints_append, leI_append, PL.ints_length, List.length_take, Nat.min_eq_left (by omega)]
  simp only [PL.ints, List.map_cons, List.map_nil, PL.leI]
  rw [Int.mul_zero, Int.add_zero, Int.mul_comm]

theorem plus_step {a b l : List UInt8} {c x : Int} (h : PL.PlusOK a b c l) (hl : l.length < 16) (ha : 16 ≤ a.length) (hb : 16 ≤ b.length)
    (hx : x = (a.getD l.length 0).toNat + (b.getD l.length 0).toNat + c) : PL.PlusOK a b (x / 256) (l ++ [UInt8.ofNat (x % 256).toNat]) := by
  have ba := (a.getD l.length 0).toNat_lt
  have bb := (b.getD l.length 0).toNat_lt
  have hc := h.hc
  refine ⟨by simp; omega, by omega, ?_⟩
  rw [List.length_append, show [UInt8.ofNat (x % 256).toNat].length = 1 from rfl, ints_take_succ (by omega), ints_take_succ (by omega), PL.ints_append, leI_append, PL.ints_length]
  have e : PL.leI (PL.ints [UInt8.ofNat (x % 256).toNat]) = x % 256 := by
    simp only [PL.ints, List.map_cons, List.map_nil, PL.leI]
    rw [UInt8.toNat_ofNat_of_lt' (by show (x % 256).toNat < 256; omega), Int.toNat_of_nonneg (by omega)]
    omega
  rw [e, Int.pow_succ]
  have he := h.eq
  have hd : x % 256 + 256 * (x / 256) = x := Int.emod_add_mul_ediv x 256
  generalize x / 256 = q at *
  generalize x % 256 = r at *
  generalize (256 : Int) ^ l.length = p at *
  rw [hx] at hd
  grind

theorem plusSpec_ok : plusSpec.OK PP 25 := by
  refine Spec.ok_of_run (fn := Try.f25) (c := Try.f25.body.getD .skip) (by kernel_rfl) (by kernel_rfl) (by kernel_rfl) (specs := noSpec) noSpec_ok (fun x => strInvs x.1 x.2) 1000 ?_
  rintro ⟨a, b⟩ ⟨ha, hb, ha1, hb1⟩
  refine (vc25 ar0 (a, b)).mpr ?_
  replace ha : 16 ≤ a.length := ha
  replace hb : 16 ≤ b.length := hb
  simp only [ars, PL.ints_length, true_and, and_true, and_false, exists_const, exists_false, false_or, or_false, forall_const]
  have z0 : PL.PlusOK a b 0 [] := ⟨by simp, by omega, by simp [PL.ints, PL.leI]⟩
  refine ⟨⟨by omega, ?_⟩, ?_⟩
  · intro x0 hx0 x1 hx1
    have b0 := nat_of_sget a 0
    have b1 := nat_of_sget b 0
    rw [wrap_i64 (by omega) (by omega)] at hx1
    refine ⟨by omega, ?_⟩
    intro y0 hy0 y1 hy1
    rw [wrap_i64 (by omega) (by omega)] at hy1
    intro s0 hs0
    rw [wrap_i64 (by omega) (by omega)] at hs0
    intro s1 hs1
    rw [wrap_i64 (by omega) (by omega)] at hs1
    intro r hr
    rw [Int.tmod_eq_emod_of_nonneg (by omega)] at hr
    intro u hu
    rw [wrap_u8] at hu
    intro c hc q hq
    rw [Int.tdiv_eq_ediv_of_nonneg (by omega), wrap_i64 (by omega) (by omega)] at hq
    have st := plus_step z0 (by simp) ha hb (x := s1) (by
      show s1 = ((a.getD 0 0).toNat : Int) + (b.getD 0 0).toNat + 0
      rw [hs1, hs0, hx1, hy1, hx0, hy0]; rfl)
    refine ⟨([UInt8.ofNat u.toNat], c, q), ⟨?_, ⟨by simpa using hc⟩⟩, by simp, rfl, rfl, rfl, rfl, rfl, acc_one (by omega) (by omega)⟩
    rw [hq, show u = s1 % 256 by omega]
    exact st
  · rintro ⟨l, c, k⟩ ⟨hl, ⟨hc⟩⟩
    have hll := hl.len
    have hk := hl.hc
    simp only at hl hc hll hk ⊢
    refine ⟨fun hlt => ⟨by omega, by omega, ?_⟩, fun hge => ?_⟩
    · intro x0 hx0 x1 hx1
      have b0 := nat_of_sget a (l.length : Int)
      have b1 := nat_of_sget b (l.length : Int)
      rw [wrap_i64 (by omega) (by omega)] at hx1
      refine ⟨by omega, by omega, ?_⟩
      intro y0 hy0 y1 hy1
      rw [wrap_i64 (by omega) (by omega)] at hy1
      intro s0 hs0
      rw [wrap_i64 (by omega) (by omega)] at hs0
      intro s1 hs1
      rw [wrap_i64 (by omega) (by omega)] at hs1
      intro r hr
      rw [Int.tmod_eq_emod_of_nonneg (by omega)] at hr
      intro u hu
      rw [wrap_u8] at hu
      refine ⟨by omega, by omega, ?_⟩
      intro c' hc' q hq
      rw [Int.tdiv_eq_ediv_of_nonneg (by omega), wrap_i64 (by omega) (by omega)] at hq
      intro n hn
      rw [wrap_i64 (by omega) (by omega)] at hn
      have st := plus_step hl (by omega) ha hb (x := s1) (by
        rw [hs1, hs0, hx1, hy1, hx0, hy0, Int.toNat_natCast])
      refine ⟨(l ++ [UInt8.ofNat u.toNat], c', q), ⟨?_, ⟨by simpa using hc'⟩⟩, by simp; omega, by simp, rfl, rfl, by simp [hn], rfl, acc_app l (by omega) (by omega)⟩
      rw [hq, show u = s1 % 256 by omega]
      exact st
    · refine ⟨by omega, by omega, ?_⟩
      rintro t rfl
      have h16 : l.length = 16 := by omega
      have he := hl.eq
      rw [h16] at he
      rw [acc_bytes, PL.plusF, ← he]
      have := leBytes_leI h16 k
      rw [show k * 256 ^ 16 = 340282366920938463463374607431768211456 * k by rw [Int.mul_comm]; rfl]
      exact this.symm
end Go.Eng
