/- Index: Check and Pages hold their contracts. -/
import Derived.Test.YtfcjboomlfjanaaEngC
import Derived.KernelRfl
import Derived.Test.YtfcjboomlfjanaaProg
set_option linter.unusedVariables false
set_option linter.unusedSimpArgs false

/- Law seat index: the frame of all texts. -/
set_option linter.unusedSectionVars false
namespace Go.Eng
variable [CW : CWorld]
open Go.Proofs
set_option maxRecDepth 100000

noncomputable abbrev PP := Try.prog

/-- A frame of n temporaries of which these are known. -/
def frame (n : Nat) (l : List (Nat × SV)) : List SV := (List.range n).map fun i => (l.lookup i).getD .any

def noInv : Invs := fun _ _ => none
def noSpec : Specs := fun _ _ _ => none
theorem noSpec_ok {P : Program} : SpecsOK P noSpec := fun f _ _ S h => by cases h

/-- The machine's arithmetic in plain words. -/
theorem ars : (∀ a b, ar0.le a b = (a ≤ b)) ∧ (∀ a b, ar0.lt a b = (a < b)) ∧ (∀ a b, ar0.eq a b = (a = b)) ∧ (∀ a b, ar0.add a b = a + b) ∧ (∀ a b, ar0.sub a b = a - b) ∧ (∀ a b, ar0.mul a b = a * b) ∧
    (∀ a b, ar0.quo a b = a.tdiv b) ∧ (∀ a b, ar0.rem a b = a.tmod b) ∧ (∀ s, ar0.slen s = (s.length : Int)) ∧ (∀ s, ar0.ilen s = (s.length : Int)) ∧ (∀ s t, ar0.seq s t = (s = t)) ∧ (∀ s t, ar0.sapp s t = s ++ t) ∧
    (∀ s a b, ar0.sext s a b = (s.take b.toNat).drop a.toNat) ∧ (∀ s i, ar0.sget s i = ((s.getD i.toNat 0).toNat : Int)) ∧ (∀ k n, ar0.wrap k n = k.wrap n) ∧
    (∀ a b : Nat, a.lt b = (a < b)) ∧ (∀ a b : Nat, a.le b = (a ≤ b)) ∧ (∀ a b : Nat, a.sub b = a - b) ∧ (∀ a b : Nat, a.add b = a + b) ∧ (∀ a b : Nat, a.mul b = a * b) ∧ (∀ a b : Int, a.add b = a + b) ∧ (∀ a b : Int, a.mul b = a * b) :=
  ⟨fun _ _ => rfl, fun _ _ => rfl, fun _ _ => rfl, fun _ _ => rfl, fun _ _ => rfl, fun _ _ => rfl, fun _ _ => rfl, fun _ _ => rfl, fun _ => rfl, fun _ => rfl, fun _ _ => rfl, fun _ _ => rfl, fun _ _ _ => rfl, fun _ _ => rfl, fun _ _ => rfl,
    fun _ _ => rfl, fun _ _ => rfl, fun _ _ => rfl, fun _ _ => rfl, fun _ _ => rfl, fun _ _ => rfl, fun _ _ => rfl⟩
end Go.Eng

/- Arithmetic of the machine's numbers, as plain numbers. -/
set_option linter.unusedSimpArgs false
set_option linter.unusedSectionVars false
namespace Go.Eng
variable [CW : CWorld]

theorem wrap_i64 {n : Int} (h0 : -9223372036854775808 ≤ n) (h1 : n < 9223372036854775808) : IntKind.i64.wrap n = n := by
  show (if (true && decide (n % (2 ^ 64 : Int) ≥ (2 ^ 63 : Int))) = true then n % (2 ^ 64 : Int) - (2 ^ 64 : Int) else n % (2 ^ 64 : Int)) = n
  rw [show (2 : Int) ^ 64 = 18446744073709551616 by decide, show (2 : Int) ^ 63 = 9223372036854775808 by decide]
  by_cases h : n % 18446744073709551616 ≥ 9223372036854775808
  · rw [if_pos (by simpa using h)]; omega
  · rw [if_neg (by simpa using h)]; omega

theorem wrap_u64 (n : Int) : IntKind.u64.wrap n = n % 18446744073709551616 := by
  show (if (false && decide (n % (2 ^ 64 : Int) ≥ (2 ^ 63 : Int))) = true then n % (2 ^ 64 : Int) - (2 ^ 64 : Int) else n % (2 ^ 64 : Int)) = _
  rw [show (2 : Int) ^ 64 = 18446744073709551616 by decide]
  simp

theorem wrap_u8 (n : Int) : IntKind.u8.wrap n = n % 256 := by
  show (if (false && decide (n % (2 ^ 8 : Int) ≥ (2 ^ 7 : Int))) = true then n % (2 ^ 8 : Int) - (2 ^ 8 : Int) else n % (2 ^ 8 : Int)) = _
  rw [show (2 : Int) ^ 8 = 256 by decide]
  simp

theorem wrap_u32 (n : Int) : IntKind.u32.wrap n = n % 4294967296 := by
  show (if (false && decide (n % (2 ^ 32 : Int) ≥ (2 ^ 31 : Int))) = true then n % (2 ^ 32 : Int) - (2 ^ 32 : Int) else n % (2 ^ 32 : Int)) = _
  rw [show (2 : Int) ^ 32 = 4294967296 by decide]
  simp

theorem wrap_u16 (n : Int) : IntKind.u16.wrap n = n % 65536 := by
  show (if (false && decide (n % (2 ^ 16 : Int) ≥ (2 ^ 15 : Int))) = true then n % (2 ^ 16 : Int) - (2 ^ 16 : Int) else n % (2 ^ 16 : Int)) = _
  rw [show (2 : Int) ^ 16 = 65536 by decide]
  simp

theorem u8_toNat_lt (a : UInt8) : a.toNat < 256 := a.toNat_lt

theorem band_u8 (a b : UInt8) : ar0.band .u8 (a.toNat : Int) (b.toNat : Int) = ((a &&& b).toNat : Int) := by
  have h : ∀ x : Nat, BitVec.ofInt 8 (x : Int) = BitVec.ofNat 8 x := fun x => BitVec.ofInt_natCast 8 x
  show IntKind.u8.wrap (BitVec.ofInt 8 (a.toNat : Int) &&& BitVec.ofInt 8 (b.toNat : Int)).toNat = _
  rw [wrap_u8, h, h]
  have hlt := (a &&& b).toNat_lt
  simp only [BitVec.toNat_and, BitVec.toNat_ofNat, UInt8.toNat_and] at *
  rw [Nat.mod_eq_of_lt a.toNat_lt, Nat.mod_eq_of_lt b.toNat_lt]
  omega
theorem bor_u8 (a b : UInt8) : ar0.bor .u8 (a.toNat : Int) (b.toNat : Int) = ((a ||| b).toNat : Int) := by
  have h : ∀ x : Nat, BitVec.ofInt 8 (x : Int) = BitVec.ofNat 8 x := fun x => BitVec.ofInt_natCast 8 x
  show IntKind.u8.wrap (BitVec.ofInt 8 (a.toNat : Int) ||| BitVec.ofInt 8 (b.toNat : Int)).toNat = _
  rw [wrap_u8, h, h]
  have hlt := (a ||| b).toNat_lt
  simp only [BitVec.toNat_or, BitVec.toNat_ofNat, UInt8.toNat_or] at *
  rw [Nat.mod_eq_of_lt a.toNat_lt, Nat.mod_eq_of_lt b.toNat_lt]
  omega
theorem bxor_u8 (a b : UInt8) : ar0.bxor .u8 (a.toNat : Int) (b.toNat : Int) = ((a ^^^ b).toNat : Int) := by
  have h : ∀ x : Nat, BitVec.ofInt 8 (x : Int) = BitVec.ofNat 8 x := fun x => BitVec.ofInt_natCast 8 x
  show IntKind.u8.wrap (BitVec.ofInt 8 (a.toNat : Int) ^^^ BitVec.ofInt 8 (b.toNat : Int)).toNat = _
  rw [wrap_u8, h, h]
  have hlt := (a ^^^ b).toNat_lt
  simp only [BitVec.toNat_xor, BitVec.toNat_ofNat, UInt8.toNat_xor] at *
  rw [Nat.mod_eq_of_lt a.toNat_lt, Nat.mod_eq_of_lt b.toNat_lt]
  omega

theorem band_u64 {a b : Nat} (ha : a < 18446744073709551616) (hb : b < 18446744073709551616) : ar0.band .u64 (a : Int) (b : Int) = ((a &&& b : Nat) : Int) := by
  have h : ∀ x : Nat, BitVec.ofInt 64 (x : Int) = BitVec.ofNat 64 x := fun x => BitVec.ofInt_natCast 64 x
  show IntKind.u64.wrap (BitVec.ofInt 64 (a : Int) &&& BitVec.ofInt 64 (b : Int)).toNat = _
  rw [wrap_u64, h, h]
  have hlt : a &&& b < 18446744073709551616 := Nat.lt_of_le_of_lt Nat.and_le_left ha
  rw [BitVec.toNat_and, BitVec.toNat_ofNat, BitVec.toNat_ofNat, Nat.mod_eq_of_lt (b := 2 ^ 64) ha, Nat.mod_eq_of_lt (b := 2 ^ 64) hb]
  omega
theorem bor_u64 {a b : Nat} (ha : a < 18446744073709551616) (hb : b < 18446744073709551616) : ar0.bor .u64 (a : Int) (b : Int) = ((a ||| b : Nat) : Int) := by
  have h : ∀ x : Nat, BitVec.ofInt 64 (x : Int) = BitVec.ofNat 64 x := fun x => BitVec.ofInt_natCast 64 x
  show IntKind.u64.wrap (BitVec.ofInt 64 (a : Int) ||| BitVec.ofInt 64 (b : Int)).toNat = _
  rw [wrap_u64, h, h]
  have hlt : a ||| b < 18446744073709551616 := Nat.or_lt_two_pow (n := 64) ha hb
  rw [BitVec.toNat_or, BitVec.toNat_ofNat, BitVec.toNat_ofNat, Nat.mod_eq_of_lt (b := 2 ^ 64) ha, Nat.mod_eq_of_lt (b := 2 ^ 64) hb]
  omega
theorem shr_u64 {a : Nat} {k : Int} (h0 : 0 ≤ k) (h1 : k < 64) : ar0.shr .u64 (a : Int) k = ((a / 2 ^ k.toNat : Nat) : Int) := by
  show (a : Int).fdiv (2 ^ (min k.toNat 64)) = _
  rw [Nat.min_eq_left (a := k.toNat) (b := 64) (by omega), Int.fdiv_eq_ediv_of_nonneg _ (by exact_mod_cast Nat.zero_le _)]
  norm_cast
theorem shl_u64 {a : Nat} {k : Int} (h0 : 0 ≤ k) (h1 : k < 64) : ar0.shl .u64 (a : Int) k = ((a * 2 ^ k.toNat % 18446744073709551616 : Nat) : Int) := by
  show IntKind.u64.wrap ((a : Int) * 2 ^ (min k.toNat 64)) = _
  rw [wrap_u64, Nat.min_eq_left (a := k.toNat) (b := 64) (by omega), Int.natCast_emod, Int.natCast_mul, Int.natCast_pow]
  rfl

end Go.Eng
set_option linter.unusedSectionVars false
namespace Go.Eng
variable [CW : CWorld]
/-! The same of whole numbers that fit. -/
theorem u64_shr {x k : Int} (h0 : 0 ≤ x) (hk : 0 ≤ k) (hk1 : k < 64) : ar0.shr .u64 x k = x / 2 ^ k.toNat := by
  obtain ⟨n, rfl⟩ := Int.eq_ofNat_of_zero_le h0
  rw [shr_u64 hk hk1, Int.natCast_ediv, Int.natCast_pow]
  rfl
theorem u64_low {x : Int} (h0 : 0 ≤ x) (h1 : x < 18446744073709551616) (k : Nat) (hk : k < 64) : ar0.band .u64 x ((2 ^ k - 1 : Nat) : Int) = x % 2 ^ k := by
  obtain ⟨n, rfl⟩ := Int.eq_ofNat_of_zero_le h0
  have hlt : 2 ^ k - 1 < 18446744073709551616 := by
    have : 2 ^ k ≤ 2 ^ 63 := Nat.pow_le_pow_right (by omega) (by omega)
    omega
  rw [band_u64 (by omega) hlt, Nat.and_two_pow_sub_one_eq_mod, Int.natCast_emod, Int.natCast_pow]
  rfl
theorem u64_shr26 {x : Int} (h0 : 0 ≤ x) : ar0.shr .u64 x 26 = x / 67108864 := u64_shr h0 (by omega) (by omega)
theorem u64_low26 {x : Int} (h0 : 0 ≤ x) (h1 : x < 18446744073709551616) : ar0.band .u64 x 67108863 = x % 67108864 := u64_low h0 h1 26 (by omega)
theorem u64_add {x y : Int} (h0 : 0 ≤ x + y) (h1 : x + y < 18446744073709551616) : ar0.wrap .u64 (ar0.add x y) = x + y := by
  show IntKind.u64.wrap (x + y) = _
  rw [wrap_u64]; omega
theorem u64_mul {x y : Int} (h0 : 0 ≤ x * y) (h1 : x * y < 18446744073709551616) : ar0.wrap .u64 (ar0.mul x y) = x * y := by
  show IntKind.u64.wrap (x * y) = _
  rw [wrap_u64, Int.emod_eq_of_lt h0 h1]
theorem i64_add {x y : Int} (h0 : -9223372036854775808 ≤ x + y) (h1 : x + y < 9223372036854775808) : ar0.wrap .i64 (ar0.add x y) = x + y := wrap_i64 h0 h1
theorem i64_sub {x y : Int} (h0 : -9223372036854775808 ≤ x - y) (h1 : x - y < 9223372036854775808) : ar0.wrap .i64 (ar0.sub x y) = x - y := wrap_i64 h0 h1
theorem i64_mul {x y : Int} (h0 : -9223372036854775808 ≤ x * y) (h1 : x * y < 9223372036854775808) : ar0.wrap .i64 (ar0.mul x y) = x * y := wrap_i64 h0 h1
end Go.Eng

/- Index: configurations; the contracts of Check and Pages. -/
namespace Go.PL
structure Cfg where
  slots : Int
  files : Int
  dirs : Int
  most : Int
  least : Int
  page : Int
structure CfgIn (c : Cfg) : Prop where
  slots : 1 ≤ c.slots ∧ c.slots ≤ 64
  files : 1 ≤ c.files ∧ c.files ≤ 65536
  dirs : 0 ≤ c.dirs ∧ c.dirs ≤ 4096
  most : 0 ≤ c.most ∧ c.most ≤ 65536
  least : 16 ≤ c.least ∧ c.least ≤ 65536
  page : 64 ≤ c.page ∧ c.page ≤ 65536
def lenI (c : Cfg) : Int := 36 * c.dirs + 40 * c.files + 44 * (c.files + c.slots) + 4
def pagesI (c : Cfg) : Int := (lenI c + (c.page - 5) - 1) / (c.page - 5)
structure CfgOK (c : Cfg) : Prop where
  ok : CfgIn c
  pages : pagesI c ≤ 1024
structure CfgBad (c : Cfg) : Prop where
  no : ¬ CfgOK c
structure CfgAny (c : Cfg) : Prop where
  any : True
def cntI (c : Cfg) (i : Nat) : Int := if i = 0 then c.dirs else if i = 1 then c.files else if i = 2 then c.files + c.slots else 1 + c.files + c.slots
def szI (i : Nat) : Int := if i = 0 then 36 else if i = 3 then 4 else 40
def sizeI (c : Cfg) : Nat → Int
  | 0 => 0
  | i + 1 => sizeI c i + cntI c i * szI i
def szL : List Int := [36, 40, 40, 4]
structure SizeIx (i : Nat) : Prop where
  le : i ≤ 4
structure Ints3 (x : Int × Int × Int) : Prop where
  any : True
end Go.PL
set_option linter.unusedSectionVars false
namespace Go.Eng
variable [CW : CWorld]
open Go.Proofs
open Go.PL (Cfg)
set_option maxRecDepth 100000

def cfgL (c : Cfg) : List SV := [.int .i64 (.x c.slots), .int .i64 (.x c.files), .int .i64 (.x c.dirs), .int .i64 (.x c.most), .int .i64 (.x c.least), .int .i64 (.x c.page)]

def betweenSpec : Spec where
  X := Int × Int × Int
  A x := [.int .i64 (.x x.1), .int .i64 (.x x.2.1), .int .i64 (.x x.2.2)]
  H _ := []
  pre x := PL.Ints3 x
  outs := [{ Y _ := Unit, post _ _ := True, R x _ := .bool (.x (x.2.1 ≤ x.1 ∧ x.1 ≤ x.2.2)), H' _ _ := [] }]

def rowsSpec : Spec where
  X := Cfg
  A x := [.agg (cfgL x)]
  H _ := []
  pre x := PL.CfgIn x
  outs := [{ Y _ := Unit, post _ _ := True, R x _ := .tup [.agg [.int .i64 (.x x.dirs), .int .i64 (.x x.files), .int .i64 (.x (x.files + x.slots)), .int .i64 (.x (1 + x.files + x.slots))], .agg [.int .i64 (.l 36), .int .i64 (.l 40), .int .i64 (.l 40), .int .i64 (.l 4)]], H' _ _ := [] }]

def sizeSpec : Spec where
  X := Cfg
  A x := [.agg (cfgL x)]
  H _ := []
  pre x := PL.CfgIn x
  outs := [{ Y _ := Unit, post _ _ := True, R x _ := .int .i64 (.x (PL.lenI x)), H' _ _ := [] }]

def pagesSpec : Spec where
  X := Cfg
  A x := [.agg (cfgL x)]
  H _ := []
  pre x := PL.CfgIn x
  outs := [{ Y _ := Unit, post _ _ := True, R x _ := .int .i64 (.x (PL.pagesI x)), H' _ _ := [] }]

def checkSpec : Spec where
  X := Cfg
  A x := [.agg (cfgL x)]
  H _ := []
  pre x := PL.CfgAny x
  outs := [{ Y _ := Unit, post x _ := PL.CfgOK x, R _ _ := .int .i64 (.l 0), H' _ _ := [] }, { Y _ := Unit, post x _ := PL.CfgBad x, R _ _ := .int .i64 (.l 140), H' _ _ := [] }]

def PagesSpec : Spec where
  X := Cfg
  A x := [.agg (cfgL x)]
  H _ := []
  pre x := PL.CfgAny x
  outs := [{ Y _ := Unit, post x _ := PL.CfgOK x, R x _ := .tup [.int .i64 (.x (PL.pagesI x)), .int .i64 (.l 0)], H' _ _ := [] }, { Y _ := Unit, post x _ := PL.CfgBad x, R _ _ := .tup [.int .i64 (.l 0), .int .i64 (.l 140)], H' _ _ := [] }]

def numSpec : Spec where
  X := Int
  A x := [.int .i64 (.x x)]
  H _ := []
  pre x := PL.Ints3 (x, x, x)
  outs := [{ Y _ := Unit, post _ _ := True, R x _ := .int .i64 (.x x), H' _ _ := [] }]

def checksSpec : Spec where
  X := Cfg
  A x := [.agg (cfgL x)]
  H _ := []
  pre x := PL.CfgAny x
  outs := [lawOut _]

def cntB (c : Cfg) : Blk := .mk 123 [.arr (.l 4) [.ints .i64 [c.dirs, c.files, c.files + c.slots, 1 + c.files + c.slots]]]
def szB : Blk := .mk 123 [.arr (.l 4) [.ints .i64 PL.szL]]
def sizeInv (c : Cfg) : Code → List SV → List Blk → List Inv := fun b fr hp => [
  { ι := Nat, fr := fun i => upd (havoc b fr) [(12, .int .i64 (.x (i : Int))), (5, .int .i64 (.x (PL.sizeI c i)))], hp := fun _ => [hp.getD 0 .gone, cntB c, szB], μ := fun i => 4 - i, ok := fun i => PL.SizeIx i }]
def sizeInvs (c : Cfg) : Invs := fun f n => match f, n with
  | 59, 4 => some (sizeInv c)
  | _, _ => none

noncomputable def qSpecs : Specs := fun f _ _ => match f with
  | 30 => some betweenSpec
  | _ => none
noncomputable def sSpecs : Specs := fun f _ _ => match f with
  | 70 => some rowsSpec
  | _ => none
noncomputable def pSpecs : Specs := fun f _ _ => match f with
  | 59 => some sizeSpec
  | 60 => some sizeSpec
  | _ => none
noncomputable def kSpecs : Specs := fun f _ _ => match f with
  | 28 => some pagesSpec
  | 29 => some pagesSpec
  | 30 => some betweenSpec
  | _ => none
noncomputable def eSpecs : Specs := fun f _ _ => match f with
  | 28 => some pagesSpec
  | 29 => some pagesSpec
  | 10 => some checkSpec
  | 11 => some checkSpec
  | _ => none
noncomputable def cSpecs : Specs := fun f _ _ => match f with
  | 7 => some PagesSpec
  | 8 => some PagesSpec
  | 9 => some numSpec
  | 10 => some checkSpec
  | 11 => some checkSpec
  | _ => none
end Go.Eng

/- Index: walks. -/
set_option linter.unusedVariables false
set_option linter.unusedSectionVars false
namespace Go.Eng
variable [CW : CWorld]
open Go.Proofs
open Go.PL (Cfg)
set_option maxRecDepth 100000
theorem vc30 (ar : AR) (x : Int × Int × Int) : (run ar PP noSpec noInv 1000 30 0 (Try.f30.body.getD .skip) ([.int .i64 (.x x.1), .int .i64 (.x x.2.1), .int .i64 (.x x.2.2)] ++ List.replicate (Try.f30.ntmps - 3) .any) [] (endCall ar PP Try.f30.results.toList (betweenSpec.fin x))) = (
    (ar.le x.snd.fst x.fst → ∃ (y : Unit), True ∧ (ar.le x.fst x.snd.snd ↔ x.snd.fst.le x.fst ∧ x.fst.le x.snd.snd) ∧ True) ∧ (¬ar.le x.snd.fst x.fst → ∃ (y : Unit), True ∧ (false
    = true ↔ x.snd.fst.le x.fst ∧ x.fst.le x.snd.snd) ∧ True)) := by
  kernel_rfl
theorem vc9 (ar : AR) (x : Int) : (run ar PP noSpec noInv 1000 9 0 (Try.f9.body.getD .skip) ([.int .i64 (.x x)] ++ List.replicate (Try.f9.ntmps - 1) .any) [] (endCall ar PP Try.f9.results.toList (numSpec.fin x))) = (
    ∃ (y : Unit), True ∧ x = x ∧ True) := by
  kernel_rfl
theorem vc70 (ar : AR) (x : Cfg) : (run ar PP qSpecs noInv 1000 70 0 (Try.f70.body.getD .skip) ([.agg (cfgL x)] ++ List.replicate (Try.f70.ntmps - 1) .any) [] (endCall ar PP Try.f70.results.toList (rowsSpec.fin x))) = (
    ∀ (z : Int), z = ar.wrap IntKind.i64 (ar.add x.files x.slots) → ∀ (z_1 : Int), z_1 = ar.wrap IntKind.i64 (ar.add 1 x.files) → ∀ (z_2 : Int), z_2 = ar.wrap IntKind.i64 (ar.add
    z_1 x.slots) → ∃ (y : Unit), True ∧ x.dirs = x.dirs ∧ x.files = x.files ∧ z = x.files.add x.slots ∧ z_2 = (Int.add 1 x.files).add x.slots ∧ True) := by
  kernel_rfl
theorem vc59 (ar : AR) (x : Cfg) : (run ar PP sSpecs (sizeInvs x) 1000 59 0 (Try.f59.body.getD .skip) ([.agg (cfgL x)] ++ List.replicate (Try.f59.ntmps - 1) .any) [] (endCall ar PP Try.f59.results.toList (sizeSpec.fin x))) = (
    ∃ (x_1 : Cfg), x.slots = x_1.slots ∧ x.files = x_1.files ∧ x.dirs = x_1.dirs ∧ x.most = x_1.most ∧ x.least = x_1.least ∧ x.page = x_1.page ∧ PL.CfgIn x_1 ∧ ∀ (y : Unit), True →
    (∃ (i : Nat), PL.SizeIx i ∧ x.slots = x.slots ∧ x.files = x.files ∧ x.dirs = x.dirs ∧ x.most = x.most ∧ x.least = x.least ∧ x.page = x.page ∧ 0 = PL.sizeI x i ∧ x_1.dirs =
    x_1.dirs ∧ x_1.files = x_1.files ∧ x_1.files.add x_1.slots = x_1.files.add x_1.slots ∧ (Int.add 1 x_1.files).add x_1.slots = (Int.add 1 x_1.files).add x_1.slots ∧ x.slots =
    x.slots ∧ x.files = x.files ∧ x.dirs = x.dirs ∧ x.most = x.most ∧ x.least = x.least ∧ x.page = x.page ∧ x_1.dirs = x_1.dirs ∧ x_1.files = x_1.files ∧ x_1.files.add x_1.slots =
    x_1.files.add x_1.slots ∧ (Int.add 1 x_1.files).add x_1.slots = (Int.add 1 x_1.files).add x_1.slots ∧ x_1.dirs = x_1.dirs ∧ x_1.files = x_1.files ∧ x_1.files.add x_1.slots =
    x_1.files.add x_1.slots ∧ (Int.add 1 x_1.files).add x_1.slots = (Int.add 1 x_1.files).add x_1.slots ∧ 0 = (↑i : Int) ∧ x.slots = x.slots ∧ x.files = x.files ∧ x.dirs = x.dirs ∧
    x.most = x.most ∧ x.least = x.least ∧ x.page = x.page ∧ [x_1.dirs, x_1.files, x_1.files.add x_1.slots, (Int.add 1 x_1.files).add x_1.slots] = [x.dirs, x.files, x.files.add
    x.slots, (Int.add 1 x.files).add x.slots] ∧ [36, 40, 40, 4] = PL.szL ∧ True) ∧ ∀ (i : Nat), PL.SizeIx i → (ar.lt (↑i : Int) 4 → ar.le 0 (↑i : Int) ∧ ar.lt (↑i : Int) 4 ∧ ar.le
    0 (↑i : Int) ∧ ar.lt (↑i : Int) (ar.ilen [x.dirs, x.files, x.files.add x.slots, (Int.add 1 x.files).add x.slots]) ∧ ar.le 0 (↑i : Int) ∧ ar.lt (↑i : Int) 4 ∧ ar.le 0 (↑i : Int)
    ∧ ar.lt (↑i : Int) (ar.ilen PL.szL) ∧ ∀ (z : Int), z = ar.wrap IntKind.i64 (ar.mul (ar.iget [x.dirs, x.files, x.files.add x.slots, (Int.add 1 x.files).add x.slots] (↑i : Int))
    (ar.iget PL.szL (↑i : Int))) → ∀ (z_1 : Int), z_1 = ar.wrap IntKind.i64 (ar.add (PL.sizeI x i) z) → ∀ (z : Int), z = ar.wrap IntKind.i64 (ar.add (↑i : Int) 1) → ∃ (j : Nat),
    PL.SizeIx j ∧ (Nat.sub 4 j).lt (Nat.sub 4 i) ∧ x.slots = x.slots ∧ x.files = x.files ∧ x.dirs = x.dirs ∧ x.most = x.most ∧ x.least = x.least ∧ x.page = x.page ∧ z_1 = PL.sizeI
    x j ∧ x_1.dirs = x_1.dirs ∧ x_1.files = x_1.files ∧ x_1.files.add x_1.slots = x_1.files.add x_1.slots ∧ (Int.add 1 x_1.files).add x_1.slots = (Int.add 1 x_1.files).add
    x_1.slots ∧ x.slots = x.slots ∧ x.files = x.files ∧ x.dirs = x.dirs ∧ x.most = x.most ∧ x.least = x.least ∧ x.page = x.page ∧ x_1.dirs = x_1.dirs ∧ x_1.files = x_1.files ∧
    x_1.files.add x_1.slots = x_1.files.add x_1.slots ∧ (Int.add 1 x_1.files).add x_1.slots = (Int.add 1 x_1.files).add x_1.slots ∧ x_1.dirs = x_1.dirs ∧ x_1.files = x_1.files ∧
    x_1.files.add x_1.slots = x_1.files.add x_1.slots ∧ (Int.add 1 x_1.files).add x_1.slots = (Int.add 1 x_1.files).add x_1.slots ∧ z = (↑j : Int) ∧ x.slots = x.slots ∧ x.files =
    x.files ∧ x.dirs = x.dirs ∧ x.most = x.most ∧ x.least = x.least ∧ x.page = x.page ∧ [x.dirs, x.files, x.files.add x.slots, (Int.add 1 x.files).add x.slots] = [x.dirs, x.files,
    x.files.add x.slots, (Int.add 1 x.files).add x.slots] ∧ PL.szL = PL.szL ∧ True) ∧ (¬ar.lt (↑i : Int) 4 → ∃ (y : Unit), True ∧ PL.sizeI x i = PL.lenI x ∧ True)) := by
  kernel_rfl
theorem vc60 (ar : AR) (x : Cfg) : (run ar PP qSpecs noInv 1000 60 0 (Try.f60.body.getD .skip) ([.agg (cfgL x)] ++ List.replicate (Try.f60.ntmps - 1) .any) [] (endCall ar PP Try.f60.results.toList (sizeSpec.fin x))) = (
    ∀ (z : Int), z = ar.wrap IntKind.i64 (ar.mul 36 x.dirs) → ∀ (z_1 : Int), z_1 = ar.wrap IntKind.i64 (ar.mul 40 x.files) → ∀ (z_2 : Int), z_2 = ar.wrap IntKind.i64 (ar.add z z_1)
    → ∀ (z : Int), z = ar.wrap IntKind.i64 (ar.add x.files x.slots) → ∀ (z_3 : Int), z_3 = ar.wrap IntKind.i64 (ar.mul 44 z) → ∀ (z : Int), z = ar.wrap IntKind.i64 (ar.add z_2 z_3)
    → ∀ (z_4 : Int), z_4 = ar.wrap IntKind.i64 (ar.add z 4) → ∃ (y : Unit), True ∧ z_4 = PL.lenI x ∧ True) := by
  kernel_rfl
theorem vc28 (ar : AR) (x : Cfg) : (run ar PP pSpecs noInv 1000 28 0 (Try.f28.body.getD .skip) ([.agg (cfgL x)] ++ List.replicate (Try.f28.ntmps - 1) .any) [] (endCall ar PP Try.f28.results.toList (pagesSpec.fin x))) = (
    ∀ (z : Int), z = ar.wrap IntKind.i64 (ar.sub x.page 5) → ∃ (x_1 : Cfg), x.slots = x_1.slots ∧ x.files = x_1.files ∧ x.dirs = x_1.dirs ∧ x.most = x_1.most ∧ x.least = x_1.least
    ∧ x.page = x_1.page ∧ PL.CfgIn x_1 ∧ ∀ (y : Unit), True → ∀ (z_1 : Int), z_1 = ar.wrap IntKind.i64 (ar.add (PL.lenI x_1) z) → ∀ (z_2 : Int), z_2 = ar.wrap IntKind.i64 (ar.sub
    z_1 1) → ¬ar.eq z 0 ∧ ∀ (z_3 : Int), z_3 = ar.wrap IntKind.i64 (ar.quo z_2 z) → ∃ (y : Unit), True ∧ z_3 = PL.pagesI x ∧ True) := by
  kernel_rfl
theorem vc29 (ar : AR) (x : Cfg) : (run ar PP pSpecs noInv 1000 29 0 (Try.f29.body.getD .skip) ([.agg (cfgL x)] ++ List.replicate (Try.f29.ntmps - 1) .any) [] (endCall ar PP Try.f29.results.toList (pagesSpec.fin x))) = (
    ∀ (z : Int), z = ar.wrap IntKind.i64 (ar.sub x.page 5) → ∃ (x_1 : Cfg), x.slots = x_1.slots ∧ x.files = x_1.files ∧ x.dirs = x_1.dirs ∧ x.most = x_1.most ∧ x.least = x_1.least
    ∧ x.page = x_1.page ∧ PL.CfgIn x_1 ∧ ∀ (y : Unit), True → ∀ (z_1 : Int), z_1 = ar.wrap IntKind.i64 (ar.add (PL.lenI x_1) z) → ∀ (z_2 : Int), z_2 = ar.wrap IntKind.i64 (ar.sub
    z_1 1) → ¬ar.eq z 0 ∧ ∀ (z_3 : Int), z_3 = ar.wrap IntKind.i64 (ar.quo z_2 z) → ∃ (y : Unit), True ∧ z_3 = PL.pagesI x ∧ True) := by
  kernel_rfl
theorem vc7 (ar : AR) (x : Cfg) : (run ar PP eSpecs noInv 1000 7 0 (Try.f7.body.getD .skip) ([.agg (cfgL x)] ++ List.replicate (Try.f7.ntmps - 1) .any) [] (endCall ar PP Try.f7.results.toList (PagesSpec.fin x))) = (
    ∃ (x_1 : Cfg), x.slots = x_1.slots ∧ x.files = x_1.files ∧ x.dirs = x_1.dirs ∧ x.most = x_1.most ∧ x.least = x_1.least ∧ x.page = x_1.page ∧ PL.CfgAny x_1 ∧ (∀ (y : Unit),
    PL.CfgOK x_1 → ∃ (x_2 : Cfg), x.slots = x_2.slots ∧ x.files = x_2.files ∧ x.dirs = x_2.dirs ∧ x.most = x_2.most ∧ x.least = x_2.least ∧ x.page = x_2.page ∧ PL.CfgIn x_2 ∧ ∀ (y
    : Unit), True → (∃ (y : Unit), PL.CfgOK x ∧ PL.pagesI x_2 = PL.pagesI x ∧ True) ∨ ∃ (y : Unit), PL.CfgBad x ∧ False) ∧ ∀ (y : Unit), PL.CfgBad x_1 → (∃ (y : Unit), PL.CfgOK x ∧
    False) ∨ ∃ (y : Unit), PL.CfgBad x ∧ True) := by
  kernel_rfl
theorem vc8 (ar : AR) (x : Cfg) : (run ar PP eSpecs noInv 1000 8 0 (Try.f8.body.getD .skip) ([.agg (cfgL x)] ++ List.replicate (Try.f8.ntmps - 1) .any) [] (endCall ar PP Try.f8.results.toList (PagesSpec.fin x))) = (
    ∃ (x_1 : Cfg), x.slots = x_1.slots ∧ x.files = x_1.files ∧ x.dirs = x_1.dirs ∧ x.most = x_1.most ∧ x.least = x_1.least ∧ x.page = x_1.page ∧ PL.CfgAny x_1 ∧ (∀ (y : Unit),
    PL.CfgOK x_1 → ∃ (x_2 : Cfg), x.slots = x_2.slots ∧ x.files = x_2.files ∧ x.dirs = x_2.dirs ∧ x.most = x_2.most ∧ x.least = x_2.least ∧ x.page = x_2.page ∧ PL.CfgIn x_2 ∧ ∀ (y
    : Unit), True → (∃ (y : Unit), PL.CfgOK x ∧ PL.pagesI x_2 = PL.pagesI x ∧ True) ∨ ∃ (y : Unit), PL.CfgBad x ∧ False) ∧ ∀ (y : Unit), PL.CfgBad x_1 → (∃ (y : Unit), PL.CfgOK x ∧
    False) ∨ ∃ (y : Unit), PL.CfgBad x ∧ True) := by
  kernel_rfl
end Go.Eng


/- Index: walks. -/
set_option linter.unusedVariables false
set_option linter.unusedSectionVars false
namespace Go.Eng
variable [CW : CWorld]
open Go.Proofs
open Go.PL (Cfg)
set_option maxRecDepth 100000
theorem vc10 (ar : AR) (x : Cfg) : (run ar PP kSpecs noInv 1000 10 0 (Try.f10.body.getD .skip) ([.agg (cfgL x)] ++ List.replicate (Try.f10.ntmps - 1) .any) [] (endCall ar PP Try.f10.results.toList (checkSpec.fin x))) = (
    ∃ (x_1 : Int × Int × Int), x.slots = x_1.fst ∧ 1 = x_1.2.fst ∧ 64 = x_1.2.snd ∧ PL.Ints3 x_1 ∧ ∀ (y : Unit), True → ((¬(x_1.2.fst.le x_1.fst ∧ x_1.fst.le x_1.2.snd) → False) →
    ∃ (x_2 : Int × Int × Int), x.files = x_2.fst ∧ 1 = x_2.2.fst ∧ 65536 = x_2.2.snd ∧ PL.Ints3 x_2 ∧ ∀ (y : Unit), True → ((¬(x_2.2.fst.le x_2.fst ∧ x_2.fst.le x_2.2.snd) → False)
    → ∃ (x_3 : Int × Int × Int), x.dirs = x_3.fst ∧ 0 = x_3.2.fst ∧ 4096 = x_3.2.snd ∧ PL.Ints3 x_3 ∧ ∀ (y : Unit), True → ((¬(x_3.2.fst.le x_3.fst ∧ x_3.fst.le x_3.2.snd) → False)
    → ∃ (x_4 : Int × Int × Int), x.most = x_4.fst ∧ 0 = x_4.2.fst ∧ 65536 = x_4.2.snd ∧ PL.Ints3 x_4 ∧ ∀ (y : Unit), True → ((¬(x_4.2.fst.le x_4.fst ∧ x_4.fst.le x_4.2.snd) →
    False) → ∃ (x_5 : Int × Int × Int), x.least = x_5.fst ∧ 16 = x_5.2.fst ∧ 65536 = x_5.2.snd ∧ PL.Ints3 x_5 ∧ ∀ (y : Unit), True → ((¬(x_5.2.fst.le x_5.fst ∧ x_5.fst.le
    x_5.2.snd) → False) → ∃ (x_6 : Int × Int × Int), x.page = x_6.fst ∧ 64 = x_6.2.fst ∧ 65536 = x_6.2.snd ∧ PL.Ints3 x_6 ∧ ∀ (y : Unit), True → ((¬(x_6.2.fst.le x_6.fst ∧
    x_6.fst.le x_6.2.snd) → False) → ∃ (x_7 : Cfg), x.slots = x_7.slots ∧ x.files = x_7.files ∧ x.dirs = x_7.dirs ∧ x.most = x_7.most ∧ x.least = x_7.least ∧ x.page = x_7.page ∧
    PL.CfgIn x_7 ∧ ∀ (y : Unit), True → (ar.lt 1024 (PL.pagesI x_7) → (∃ (y : Unit), PL.CfgOK x ∧ False) ∨ ∃ (y : Unit), PL.CfgBad x ∧ True) ∧ (¬ar.lt 1024 (PL.pagesI x_7) → (∃ (y
    : Unit), PL.CfgOK x ∧ True) ∨ ∃ (y : Unit), PL.CfgBad x ∧ False)) ∧ (¬(¬(x_6.2.fst.le x_6.fst ∧ x_6.fst.le x_6.2.snd) → False) → (∃ (y : Unit), PL.CfgOK x ∧ False) ∨ ∃ (y :
    Unit), PL.CfgBad x ∧ True)) ∧ (¬(¬(x_5.2.fst.le x_5.fst ∧ x_5.fst.le x_5.2.snd) → False) → (∃ (y : Unit), PL.CfgOK x ∧ False) ∨ ∃ (y : Unit), PL.CfgBad x ∧ True)) ∧
    (¬(¬(x_4.2.fst.le x_4.fst ∧ x_4.fst.le x_4.2.snd) → False) → (∃ (y : Unit), PL.CfgOK x ∧ False) ∨ ∃ (y : Unit), PL.CfgBad x ∧ True)) ∧ (¬(¬(x_3.2.fst.le x_3.fst ∧ x_3.fst.le
    x_3.2.snd) → False) → (∃ (y : Unit), PL.CfgOK x ∧ False) ∨ ∃ (y : Unit), PL.CfgBad x ∧ True)) ∧ (¬(¬(x_2.2.fst.le x_2.fst ∧ x_2.fst.le x_2.2.snd) → False) → (∃ (y : Unit),
    PL.CfgOK x ∧ False) ∨ ∃ (y : Unit), PL.CfgBad x ∧ True)) ∧ (¬(¬(x_1.2.fst.le x_1.fst ∧ x_1.fst.le x_1.2.snd) → False) → (∃ (y : Unit), PL.CfgOK x ∧ False) ∨ ∃ (y : Unit),
    PL.CfgBad x ∧ True)) := by
  kernel_rfl
theorem vc11 (ar : AR) (x : Cfg) : (run ar PP kSpecs noInv 1000 11 0 (Try.f11.body.getD .skip) ([.agg (cfgL x)] ++ List.replicate (Try.f11.ntmps - 1) .any) [] (endCall ar PP Try.f11.results.toList (checkSpec.fin x))) = (
    (ar.le 1 x.slots → (ar.le x.slots 64 → (ar.le 1 x.files → (ar.le x.files 65536 → (ar.le 0 x.dirs → (ar.le x.dirs 4096 → (ar.le 0 x.most → (ar.le x.most 65536 → (ar.le 16
    x.least → (ar.le x.least 65536 → (ar.le 64 x.page → ((¬ar.le x.page 65536 → False) → ∃ (x_1 : Cfg), x.slots = x_1.slots ∧ x.files = x_1.files ∧ x.dirs = x_1.dirs ∧ x.most =
    x_1.most ∧ x.least = x_1.least ∧ x.page = x_1.page ∧ PL.CfgIn x_1 ∧ ∀ (y : Unit), True → (ar.lt 1024 (PL.pagesI x_1) → (∃ (y : Unit), PL.CfgOK x ∧ False) ∨ ∃ (y : Unit),
    PL.CfgBad x ∧ True) ∧ (¬ar.lt 1024 (PL.pagesI x_1) → (∃ (y : Unit), PL.CfgOK x ∧ True) ∨ ∃ (y : Unit), PL.CfgBad x ∧ False)) ∧ (¬(¬ar.le x.page 65536 → False) → (∃ (y : Unit),
    PL.CfgOK x ∧ False) ∨ ∃ (y : Unit), PL.CfgBad x ∧ True)) ∧ (¬ar.le 64 x.page → (∃ (y : Unit), PL.CfgOK x ∧ False) ∨ ∃ (y : Unit), PL.CfgBad x ∧ True)) ∧ (¬ar.le x.least 65536 →
    (∃ (y : Unit), PL.CfgOK x ∧ False) ∨ ∃ (y : Unit), PL.CfgBad x ∧ True)) ∧ (¬ar.le 16 x.least → (∃ (y : Unit), PL.CfgOK x ∧ False) ∨ ∃ (y : Unit), PL.CfgBad x ∧ True)) ∧ (¬ar.le
    x.most 65536 → (∃ (y : Unit), PL.CfgOK x ∧ False) ∨ ∃ (y : Unit), PL.CfgBad x ∧ True)) ∧ (¬ar.le 0 x.most → (∃ (y : Unit), PL.CfgOK x ∧ False) ∨ ∃ (y : Unit), PL.CfgBad x ∧
    True)) ∧ (¬ar.le x.dirs 4096 → (∃ (y : Unit), PL.CfgOK x ∧ False) ∨ ∃ (y : Unit), PL.CfgBad x ∧ True)) ∧ (¬ar.le 0 x.dirs → (∃ (y : Unit), PL.CfgOK x ∧ False) ∨ ∃ (y : Unit),
    PL.CfgBad x ∧ True)) ∧ (¬ar.le x.files 65536 → (∃ (y : Unit), PL.CfgOK x ∧ False) ∨ ∃ (y : Unit), PL.CfgBad x ∧ True)) ∧ (¬ar.le 1 x.files → (∃ (y : Unit), PL.CfgOK x ∧ False)
    ∨ ∃ (y : Unit), PL.CfgBad x ∧ True)) ∧ (¬ar.le x.slots 64 → (∃ (y : Unit), PL.CfgOK x ∧ False) ∨ ∃ (y : Unit), PL.CfgBad x ∧ True)) ∧ (¬ar.le 1 x.slots → (∃ (y : Unit),
    PL.CfgOK x ∧ False) ∨ ∃ (y : Unit), PL.CfgBad x ∧ True)) := by
  kernel_rfl
theorem vc3 (ar : AR) (x : Cfg) : (run ar PP cSpecs noInv 1000 3 0 (Try.f3.body.getD .skip) ([.agg (cfgL x)] ++ List.replicate (Try.f3.ntmps - 1) .any) [] (endCall ar PP Try.f3.results.toList (checksSpec.fin x))) = (
    ∃ (x_1 : Cfg), x.slots = x_1.slots ∧ x.files = x_1.files ∧ x.dirs = x_1.dirs ∧ x.most = x_1.most ∧ x.least = x_1.least ∧ x.page = x_1.page ∧ PL.CfgAny x_1 ∧ (∀ (y : Unit),
    PL.CfgOK x_1 → ∃ (x_2 : Cfg), x.slots = x_2.slots ∧ x.files = x_2.files ∧ x.dirs = x_2.dirs ∧ x.most = x_2.most ∧ x.least = x_2.least ∧ x.page = x_2.page ∧ PL.CfgAny x_2 ∧ (∀
    (y : Unit), PL.CfgOK x_2 → ∃ (x_3 : Cfg), x.slots = x_3.slots ∧ x.files = x_3.files ∧ x.dirs = x_3.dirs ∧ x.most = x_3.most ∧ x.least = x_3.least ∧ x.page = x_3.page ∧
    PL.CfgAny x_3 ∧ (∀ (y : Unit), PL.CfgOK x_3 → ∃ (x_4 : Int), 0 = x_4 ∧ PL.Ints3 (x_4, x_4, x_4) ∧ ∀ (y : Unit), True → ∃ (x_5 : Cfg), x.slots = x_5.slots ∧ x.files = x_5.files
    ∧ x.dirs = x_5.dirs ∧ x.most = x_5.most ∧ x.least = x_5.least ∧ x.page = x_5.page ∧ PL.CfgAny x_5 ∧ (∀ (y : Unit), PL.CfgOK x_5 → ((ar.eq x_4 0 → ((ar.eq (PL.pagesI x_1)
    (PL.pagesI x_2) → ∃ (x : Int), 0 = x ∧ PL.Ints3 (x, x, x) ∧ ∀ (y : Unit), True → ∃ (y : Unit), True ∧ (ar.eq x 0 ↔ true = true) ∧ True) ∧ (¬ar.eq (PL.pagesI x_1) (PL.pagesI
    x_2) → ∃ (y : Unit), True ∧ False)) ∧ (ar.eq (PL.pagesI x_1) (PL.pagesI x_2) → ∃ (x : Int), 0 = x ∧ PL.Ints3 (x, x, x) ∧ ∀ (y : Unit), True → ∃ (y : Unit), True ∧ (ar.eq x 0 ↔
    true = true) ∧ True) ∧ (¬ar.eq (PL.pagesI x_1) (PL.pagesI x_2) → ∃ (y : Unit), True ∧ False)) ∧ (¬ar.eq x_4 0 → ∃ (y : Unit), True ∧ False)) ∧ (ar.eq x_4 0 → ((ar.eq (PL.pagesI
    x_1) (PL.pagesI x_2) → ∃ (x : Int), 0 = x ∧ PL.Ints3 (x, x, x) ∧ ∀ (y : Unit), True → ∃ (y : Unit), True ∧ (ar.eq x 0 ↔ true = true) ∧ True) ∧ (¬ar.eq (PL.pagesI x_1)
    (PL.pagesI x_2) → ∃ (y : Unit), True ∧ False)) ∧ (ar.eq (PL.pagesI x_1) (PL.pagesI x_2) → ∃ (x : Int), 0 = x ∧ PL.Ints3 (x, x, x) ∧ ∀ (y : Unit), True → ∃ (y : Unit), True ∧
    (ar.eq x 0 ↔ true = true) ∧ True) ∧ (¬ar.eq (PL.pagesI x_1) (PL.pagesI x_2) → ∃ (y : Unit), True ∧ False)) ∧ (¬ar.eq x_4 0 → ∃ (y : Unit), True ∧ False)) ∧ ∀ (y : Unit),
    PL.CfgBad x_5 → ((ar.eq x_4 140 → ((ar.eq (PL.pagesI x_1) (PL.pagesI x_2) → ∃ (x : Int), 0 = x ∧ PL.Ints3 (x, x, x) ∧ ∀ (y : Unit), True → ∃ (y : Unit), True ∧ (ar.eq x 0 ↔
    true = true) ∧ True) ∧ (¬ar.eq (PL.pagesI x_1) (PL.pagesI x_2) → ∃ (y : Unit), True ∧ False)) ∧ (ar.eq (PL.pagesI x_1) (PL.pagesI x_2) → ∃ (x : Int), 0 = x ∧ PL.Ints3 (x, x, x)
    ∧ ∀ (y : Unit), True → ∃ (y : Unit), True ∧ (ar.eq x 0 ↔ true = true) ∧ True) ∧ (¬ar.eq (PL.pagesI x_1) (PL.pagesI x_2) → ∃ (y : Unit), True ∧ False)) ∧ (¬ar.eq x_4 140 → ∃ (y
    : Unit), True ∧ False)) ∧ (ar.eq x_4 140 → ((ar.eq (PL.pagesI x_1) (PL.pagesI x_2) → ∃ (x : Int), 0 = x ∧ PL.Ints3 (x, x, x) ∧ ∀ (y : Unit), True → ∃ (y : Unit), True ∧ (ar.eq
    x 0 ↔ true = true) ∧ True) ∧ (¬ar.eq (PL.pagesI x_1) (PL.pagesI x_2) → ∃ (y : Unit), True ∧ False)) ∧ (ar.eq (PL.pagesI x_1) (PL.pagesI x_2) → ∃ (x : Int), 0 = x ∧ PL.Ints3 (x,
    x, x) ∧ ∀ (y : Unit), True → ∃ (y : Unit), True ∧ (ar.eq x 0 ↔ true = true) ∧ True) ∧ (¬ar.eq (PL.pagesI x_1) (PL.pagesI x_2) → ∃ (y : Unit), True ∧ False)) ∧ (¬ar.eq x_4 140 →
    ∃ (y : Unit), True ∧ False)) ∧ ∀ (y : Unit), PL.CfgBad x_3 → ∃ (x_4 : Int), 140 = x_4 ∧ PL.Ints3 (x_4, x_4, x_4) ∧ ∀ (y : Unit), True → ∃ (x_5 : Cfg), x.slots = x_5.slots ∧
    x.files = x_5.files ∧ x.dirs = x_5.dirs ∧ x.most = x_5.most ∧ x.least = x_5.least ∧ x.page = x_5.page ∧ PL.CfgAny x_5 ∧ (∀ (y : Unit), PL.CfgOK x_5 → ((ar.eq x_4 0 → ((ar.eq
    (PL.pagesI x_1) (PL.pagesI x_2) → ∃ (x : Int), 0 = x ∧ PL.Ints3 (x, x, x) ∧ ∀ (y : Unit), True → ∃ (y : Unit), True ∧ (ar.eq x 0 ↔ true = true) ∧ True) ∧ (¬ar.eq (PL.pagesI
    x_1) (PL.pagesI x_2) → ∃ (y : Unit), True ∧ False)) ∧ (ar.eq (PL.pagesI x_1) (PL.pagesI x_2) → ∃ (x : Int), 0 = x ∧ PL.Ints3 (x, x, x) ∧ ∀ (y : Unit), True → ∃ (y : Unit), True
    ∧ (ar.eq x 0 ↔ true = true) ∧ True) ∧ (¬ar.eq (PL.pagesI x_1) (PL.pagesI x_2) → ∃ (y : Unit), True ∧ False)) ∧ (¬ar.eq x_4 0 → ∃ (y : Unit), True ∧ False)) ∧ (ar.eq x_4 0 →
    ((ar.eq (PL.pagesI x_1) (PL.pagesI x_2) → ∃ (x : Int), 0 = x ∧ PL.Ints3 (x, x, x) ∧ ∀ (y : Unit), True → ∃ (y : Unit), True ∧ (ar.eq x 0 ↔ true = true) ∧ True) ∧ (¬ar.eq
    (PL.pagesI x_1) (PL.pagesI x_2) → ∃ (y : Unit), True ∧ False)) ∧ (ar.eq (PL.pagesI x_1) (PL.pagesI x_2) → ∃ (x : Int), 0 = x ∧ PL.Ints3 (x, x, x) ∧ ∀ (y : Unit), True → ∃ (y :
    Unit), True ∧ (ar.eq x 0 ↔ true = true) ∧ True) ∧ (¬ar.eq (PL.pagesI x_1) (PL.pagesI x_2) → ∃ (y : Unit), True ∧ False)) ∧ (¬ar.eq x_4 0 → ∃ (y : Unit), True ∧ False)) ∧ ∀ (y :
    Unit), PL.CfgBad x_5 → ((ar.eq x_4 140 → ((ar.eq (PL.pagesI x_1) (PL.pagesI x_2) → ∃ (x : Int), 0 = x ∧ PL.Ints3 (x, x, x) ∧ ∀ (y : Unit), True → ∃ (y : Unit), True ∧ (ar.eq x
    0 ↔ true = true) ∧ True) ∧ (¬ar.eq (PL.pagesI x_1) (PL.pagesI x_2) → ∃ (y : Unit), True ∧ False)) ∧ (ar.eq (PL.pagesI x_1) (PL.pagesI x_2) → ∃ (x : Int), 0 = x ∧ PL.Ints3 (x,
    x, x) ∧ ∀ (y : Unit), True → ∃ (y : Unit), True ∧ (ar.eq x 0 ↔ true = true) ∧ True) ∧ (¬ar.eq (PL.pagesI x_1) (PL.pagesI x_2) → ∃ (y : Unit), True ∧ False)) ∧ (¬ar.eq x_4 140 →
    ∃ (y : Unit), True ∧ False)) ∧ (ar.eq x_4 140 → ((ar.eq (PL.pagesI x_1) (PL.pagesI x_2) → ∃ (x : Int), 0 = x ∧ PL.Ints3 (x, x, x) ∧ ∀ (y : Unit), True → ∃ (y : Unit), True ∧
    (ar.eq x 0 ↔ true = true) ∧ True) ∧ (¬ar.eq (PL.pagesI x_1) (PL.pagesI x_2) → ∃ (y : Unit), True ∧ False)) ∧ (ar.eq (PL.pagesI x_1) (PL.pagesI x_2) → ∃ (x : Int), 0 = x ∧
    PL.Ints3 (x, x, x) ∧ ∀ (y : Unit), True → ∃ (y : Unit), True ∧ (ar.eq x 0 ↔ true = true) ∧ True) ∧ (¬ar.eq (PL.pagesI x_1) (PL.pagesI x_2) → ∃ (y : Unit), True ∧ False)) ∧
    (¬ar.eq x_4 140 → ∃ (y : Unit), True ∧ False)) ∧ ∀ (y : Unit), PL.CfgBad x_2 → ∃ (x_3 : Cfg), x.slots = x_3.slots ∧ x.files = x_3.files ∧ x.dirs = x_3.dirs ∧ x.most = x_3.most
    ∧ x.least = x_3.least ∧ x.page = x_3.page ∧ PL.CfgAny x_3 ∧ (∀ (y : Unit), PL.CfgOK x_3 → ∃ (x_4 : Int), 0 = x_4 ∧ PL.Ints3 (x_4, x_4, x_4) ∧ ∀ (y : Unit), True → ∃ (x_5 :
    Cfg), x.slots = x_5.slots ∧ x.files = x_5.files ∧ x.dirs = x_5.dirs ∧ x.most = x_5.most ∧ x.least = x_5.least ∧ x.page = x_5.page ∧ PL.CfgAny x_5 ∧ (∀ (y : Unit), PL.CfgOK x_5
    → ((ar.eq x_4 0 → ((ar.eq (PL.pagesI x_1) 0 → ∃ (x : Int), 0 = x ∧ PL.Ints3 (x, x, x) ∧ ∀ (y : Unit), True → ∃ (y : Unit), True ∧ (ar.eq x 140 ↔ true = true) ∧ True) ∧ (¬ar.eq
    (PL.pagesI x_1) 0 → ∃ (y : Unit), True ∧ False)) ∧ (ar.eq (PL.pagesI x_1) 0 → ∃ (x : Int), 0 = x ∧ PL.Ints3 (x, x, x) ∧ ∀ (y : Unit), True → ∃ (y : Unit), True ∧ (ar.eq x 140 ↔
    true = true) ∧ True) ∧ (¬ar.eq (PL.pagesI x_1) 0 → ∃ (y : Unit), True ∧ False)) ∧ (¬ar.eq x_4 0 → ∃ (y : Unit), True ∧ False)) ∧ (ar.eq x_4 0 → ((ar.eq (PL.pagesI x_1) 0 → ∃ (x
    : Int), 0 = x ∧ PL.Ints3 (x, x, x) ∧ ∀ (y : Unit), True → ∃ (y : Unit), True ∧ (ar.eq x 140 ↔ true = true) ∧ True) ∧ (¬ar.eq (PL.pagesI x_1) 0 → ∃ (y : Unit), True ∧ False)) ∧
    (ar.eq (PL.pagesI x_1) 0 → ∃ (x : Int), 0 = x ∧ PL.Ints3 (x, x, x) ∧ ∀ (y : Unit), True → ∃ (y : Unit), True ∧ (ar.eq x 140 ↔ true = true) ∧ True) ∧ (¬ar.eq (PL.pagesI x_1) 0 →
    ∃ (y : Unit), True ∧ False)) ∧ (¬ar.eq x_4 0 → ∃ (y : Unit), True ∧ False)) ∧ ∀ (y : Unit), PL.CfgBad x_5 → ((ar.eq x_4 140 → ((ar.eq (PL.pagesI x_1) 0 → ∃ (x : Int), 0 = x ∧
    PL.Ints3 (x, x, x) ∧ ∀ (y : Unit), True → ∃ (y : Unit), True ∧ (ar.eq x 140 ↔ true = true) ∧ True) ∧ (¬ar.eq (PL.pagesI x_1) 0 → ∃ (y : Unit), True ∧ False)) ∧ (ar.eq
    (PL.pagesI x_1) 0 → ∃ (x : Int), 0 = x ∧ PL.Ints3 (x, x, x) ∧ ∀ (y : Unit), True → ∃ (y : Unit), True ∧ (ar.eq x 140 ↔ true = true) ∧ True) ∧ (¬ar.eq (PL.pagesI x_1) 0 → ∃ (y :
    Unit), True ∧ False)) ∧ (¬ar.eq x_4 140 → ∃ (y : Unit), True ∧ False)) ∧ (ar.eq x_4 140 → ((ar.eq (PL.pagesI x_1) 0 → ∃ (x : Int), 0 = x ∧ PL.Ints3 (x, x, x) ∧ ∀ (y : Unit),
    True → ∃ (y : Unit), True ∧ (ar.eq x 140 ↔ true = true) ∧ True) ∧ (¬ar.eq (PL.pagesI x_1) 0 → ∃ (y : Unit), True ∧ False)) ∧ (ar.eq (PL.pagesI x_1) 0 → ∃ (x : Int), 0 = x ∧
    PL.Ints3 (x, x, x) ∧ ∀ (y : Unit), True → ∃ (y : Unit), True ∧ (ar.eq x 140 ↔ true = true) ∧ True) ∧ (¬ar.eq (PL.pagesI x_1) 0 → ∃ (y : Unit), True ∧ False)) ∧ (¬ar.eq x_4 140
    → ∃ (y : Unit), True ∧ False)) ∧ ∀ (y : Unit), PL.CfgBad x_3 → ∃ (x_4 : Int), 140 = x_4 ∧ PL.Ints3 (x_4, x_4, x_4) ∧ ∀ (y : Unit), True → ∃ (x_5 : Cfg), x.slots = x_5.slots ∧
    x.files = x_5.files ∧ x.dirs = x_5.dirs ∧ x.most = x_5.most ∧ x.least = x_5.least ∧ x.page = x_5.page ∧ PL.CfgAny x_5 ∧ (∀ (y : Unit), PL.CfgOK x_5 → ((ar.eq x_4 0 → ((ar.eq
    (PL.pagesI x_1) 0 → ∃ (x : Int), 0 = x ∧ PL.Ints3 (x, x, x) ∧ ∀ (y : Unit), True → ∃ (y : Unit), True ∧ (ar.eq x 140 ↔ true = true) ∧ True) ∧ (¬ar.eq (PL.pagesI x_1) 0 → ∃ (y :
    Unit), True ∧ False)) ∧ (ar.eq (PL.pagesI x_1) 0 → ∃ (x : Int), 0 = x ∧ PL.Ints3 (x, x, x) ∧ ∀ (y : Unit), True → ∃ (y : Unit), True ∧ (ar.eq x 140 ↔ true = true) ∧ True) ∧
    (¬ar.eq (PL.pagesI x_1) 0 → ∃ (y : Unit), True ∧ False)) ∧ (¬ar.eq x_4 0 → ∃ (y : Unit), True ∧ False)) ∧ (ar.eq x_4 0 → ((ar.eq (PL.pagesI x_1) 0 → ∃ (x : Int), 0 = x ∧
    PL.Ints3 (x, x, x) ∧ ∀ (y : Unit), True → ∃ (y : Unit), True ∧ (ar.eq x 140 ↔ true = true) ∧ True) ∧ (¬ar.eq (PL.pagesI x_1) 0 → ∃ (y : Unit), True ∧ False)) ∧ (ar.eq
    (PL.pagesI x_1) 0 → ∃ (x : Int), 0 = x ∧ PL.Ints3 (x, x, x) ∧ ∀ (y : Unit), True → ∃ (y : Unit), True ∧ (ar.eq x 140 ↔ true = true) ∧ True) ∧ (¬ar.eq (PL.pagesI x_1) 0 → ∃ (y :
    Unit), True ∧ False)) ∧ (¬ar.eq x_4 0 → ∃ (y : Unit), True ∧ False)) ∧ ∀ (y : Unit), PL.CfgBad x_5 → ((ar.eq x_4 140 → ((ar.eq (PL.pagesI x_1) 0 → ∃ (x : Int), 0 = x ∧ PL.Ints3
    (x, x, x) ∧ ∀ (y : Unit), True → ∃ (y : Unit), True ∧ (ar.eq x 140 ↔ true = true) ∧ True) ∧ (¬ar.eq (PL.pagesI x_1) 0 → ∃ (y : Unit), True ∧ False)) ∧ (ar.eq (PL.pagesI x_1) 0
    → ∃ (x : Int), 0 = x ∧ PL.Ints3 (x, x, x) ∧ ∀ (y : Unit), True → ∃ (y : Unit), True ∧ (ar.eq x 140 ↔ true = true) ∧ True) ∧ (¬ar.eq (PL.pagesI x_1) 0 → ∃ (y : Unit), True ∧
    False)) ∧ (¬ar.eq x_4 140 → ∃ (y : Unit), True ∧ False)) ∧ (ar.eq x_4 140 → ((ar.eq (PL.pagesI x_1) 0 → ∃ (x : Int), 0 = x ∧ PL.Ints3 (x, x, x) ∧ ∀ (y : Unit), True → ∃ (y :
    Unit), True ∧ (ar.eq x 140 ↔ true = true) ∧ True) ∧ (¬ar.eq (PL.pagesI x_1) 0 → ∃ (y : Unit), True ∧ False)) ∧ (ar.eq (PL.pagesI x_1) 0 → ∃ (x : Int), 0 = x ∧ PL.Ints3 (x, x,
    x) ∧ ∀ (y : Unit), True → ∃ (y : Unit), True ∧ (ar.eq x 140 ↔ true = true) ∧ True) ∧ (¬ar.eq (PL.pagesI x_1) 0 → ∃ (y : Unit), True ∧ False)) ∧ (¬ar.eq x_4 140 → ∃ (y : Unit),
    True ∧ False)) ∧ ∀ (y : Unit), PL.CfgBad x_1 → ∃ (x_2 : Cfg), x.slots = x_2.slots ∧ x.files = x_2.files ∧ x.dirs = x_2.dirs ∧ x.most = x_2.most ∧ x.least = x_2.least ∧ x.page =
    x_2.page ∧ PL.CfgAny x_2 ∧ (∀ (y : Unit), PL.CfgOK x_2 → ∃ (x_3 : Cfg), x.slots = x_3.slots ∧ x.files = x_3.files ∧ x.dirs = x_3.dirs ∧ x.most = x_3.most ∧ x.least = x_3.least
    ∧ x.page = x_3.page ∧ PL.CfgAny x_3 ∧ (∀ (y : Unit), PL.CfgOK x_3 → ∃ (x_4 : Int), 0 = x_4 ∧ PL.Ints3 (x_4, x_4, x_4) ∧ ∀ (y : Unit), True → ∃ (x_5 : Cfg), x.slots = x_5.slots
    ∧ x.files = x_5.files ∧ x.dirs = x_5.dirs ∧ x.most = x_5.most ∧ x.least = x_5.least ∧ x.page = x_5.page ∧ PL.CfgAny x_5 ∧ (∀ (y : Unit), PL.CfgOK x_5 → ((ar.eq x_4 0 → ((ar.eq
    0 (PL.pagesI x_2) → ∃ (x : Int), 140 = x ∧ PL.Ints3 (x, x, x) ∧ ∀ (y : Unit), True → ∃ (y : Unit), True ∧ (ar.eq x 0 ↔ true = true) ∧ True) ∧ (¬ar.eq 0 (PL.pagesI x_2) → ∃ (y :
    Unit), True ∧ False)) ∧ (ar.eq 0 (PL.pagesI x_2) → ∃ (x : Int), 140 = x ∧ PL.Ints3 (x, x, x) ∧ ∀ (y : Unit), True → ∃ (y : Unit), True ∧ (ar.eq x 0 ↔ true = true) ∧ True) ∧
    (¬ar.eq 0 (PL.pagesI x_2) → ∃ (y : Unit), True ∧ False)) ∧ (¬ar.eq x_4 0 → ∃ (y : Unit), True ∧ False)) ∧ (ar.eq x_4 0 → ((ar.eq 0 (PL.pagesI x_2) → ∃ (x : Int), 140 = x ∧
    PL.Ints3 (x, x, x) ∧ ∀ (y : Unit), True → ∃ (y : Unit), True ∧ (ar.eq x 0 ↔ true = true) ∧ True) ∧ (¬ar.eq 0 (PL.pagesI x_2) → ∃ (y : Unit), True ∧ False)) ∧ (ar.eq 0
    (PL.pagesI x_2) → ∃ (x : Int), 140 = x ∧ PL.Ints3 (x, x, x) ∧ ∀ (y : Unit), True → ∃ (y : Unit), True ∧ (ar.eq x 0 ↔ true = true) ∧ True) ∧ (¬ar.eq 0 (PL.pagesI x_2) → ∃ (y :
    Unit), True ∧ False)) ∧ (¬ar.eq x_4 0 → ∃ (y : Unit), True ∧ False)) ∧ ∀ (y : Unit), PL.CfgBad x_5 → ((ar.eq x_4 140 → ((ar.eq 0 (PL.pagesI x_2) → ∃ (x : Int), 140 = x ∧
    PL.Ints3 (x, x, x) ∧ ∀ (y : Unit), True → ∃ (y : Unit), True ∧ (ar.eq x 0 ↔ true = true) ∧ True) ∧ (¬ar.eq 0 (PL.pagesI x_2) → ∃ (y : Unit), True ∧ False)) ∧ (ar.eq 0
    (PL.pagesI x_2) → ∃ (x : Int), 140 = x ∧ PL.Ints3 (x, x, x) ∧ ∀ (y : Unit), True → ∃ (y : Unit), True ∧ (ar.eq x 0 ↔ true = true) ∧ True) ∧ (¬ar.eq 0 (PL.pagesI x_2) → ∃ (y :
    Unit), True ∧ False)) ∧ (¬ar.eq x_4 140 → ∃ (y : Unit), True ∧ False)) ∧ (ar.eq x_4 140 → ((ar.eq 0 (PL.pagesI x_2) → ∃ (x : Int), 140 = x ∧ PL.Ints3 (x, x, x) ∧ ∀ (y : Unit),
    True → ∃ (y : Unit), True ∧ (ar.eq x 0 ↔ true = true) ∧ True) ∧ (¬ar.eq 0 (PL.pagesI x_2) → ∃ (y : Unit), True ∧ False)) ∧ (ar.eq 0 (PL.pagesI x_2) → ∃ (x : Int), 140 = x ∧
    PL.Ints3 (x, x, x) ∧ ∀ (y : Unit), True → ∃ (y : Unit), True ∧ (ar.eq x 0 ↔ true = true) ∧ True) ∧ (¬ar.eq 0 (PL.pagesI x_2) → ∃ (y : Unit), True ∧ False)) ∧ (¬ar.eq x_4 140 →
    ∃ (y : Unit), True ∧ False)) ∧ ∀ (y : Unit), PL.CfgBad x_3 → ∃ (x_4 : Int), 140 = x_4 ∧ PL.Ints3 (x_4, x_4, x_4) ∧ ∀ (y : Unit), True → ∃ (x_5 : Cfg), x.slots = x_5.slots ∧
    x.files = x_5.files ∧ x.dirs = x_5.dirs ∧ x.most = x_5.most ∧ x.least = x_5.least ∧ x.page = x_5.page ∧ PL.CfgAny x_5 ∧ (∀ (y : Unit), PL.CfgOK x_5 → ((ar.eq x_4 0 → ((ar.eq 0
    (PL.pagesI x_2) → ∃ (x : Int), 140 = x ∧ PL.Ints3 (x, x, x) ∧ ∀ (y : Unit), True → ∃ (y : Unit), True ∧ (ar.eq x 0 ↔ true = true) ∧ True) ∧ (¬ar.eq 0 (PL.pagesI x_2) → ∃ (y :
    Unit), True ∧ False)) ∧ (ar.eq 0 (PL.pagesI x_2) → ∃ (x : Int), 140 = x ∧ PL.Ints3 (x, x, x) ∧ ∀ (y : Unit), True → ∃ (y : Unit), True ∧ (ar.eq x 0 ↔ true = true) ∧ True) ∧
    (¬ar.eq 0 (PL.pagesI x_2) → ∃ (y : Unit), True ∧ False)) ∧ (¬ar.eq x_4 0 → ∃ (y : Unit), True ∧ False)) ∧ (ar.eq x_4 0 → ((ar.eq 0 (PL.pagesI x_2) → ∃ (x : Int), 140 = x ∧
    PL.Ints3 (x, x, x) ∧ ∀ (y : Unit), True → ∃ (y : Unit), True ∧ (ar.eq x 0 ↔ true = true) ∧ True) ∧ (¬ar.eq 0 (PL.pagesI x_2) → ∃ (y : Unit), True ∧ False)) ∧ (ar.eq 0
    (PL.pagesI x_2) → ∃ (x : Int), 140 = x ∧ PL.Ints3 (x, x, x) ∧ ∀ (y : Unit), True → ∃ (y : Unit), True ∧ (ar.eq x 0 ↔ true = true) ∧ True) ∧ (¬ar.eq 0 (PL.pagesI x_2) → ∃ (y :
    Unit), True ∧ False)) ∧ (¬ar.eq x_4 0 → ∃ (y : Unit), True ∧ False)) ∧ ∀ (y : Unit), PL.CfgBad x_5 → ((ar.eq x_4 140 → ((ar.eq 0 (PL.pagesI x_2) → ∃ (x : Int), 140 = x ∧
    PL.Ints3 (x, x, x) ∧ ∀ (y : Unit), True → ∃ (y : Unit), True ∧ (ar.eq x 0 ↔ true = true) ∧ True) ∧ (¬ar.eq 0 (PL.pagesI x_2) → ∃ (y : Unit), True ∧ False)) ∧ (ar.eq 0
    (PL.pagesI x_2) → ∃ (x : Int), 140 = x ∧ PL.Ints3 (x, x, x) ∧ ∀ (y : Unit), True → ∃ (y : Unit), True ∧ (ar.eq x 0 ↔ true = true) ∧ True) ∧ (¬ar.eq 0 (PL.pagesI x_2) → ∃ (y :
    Unit), True ∧ False)) ∧ (¬ar.eq x_4 140 → ∃ (y : Unit), True ∧ False)) ∧ (ar.eq x_4 140 → ((ar.eq 0 (PL.pagesI x_2) → ∃ (x : Int), 140 = x ∧ PL.Ints3 (x, x, x) ∧ ∀ (y : Unit),
    True → ∃ (y : Unit), True ∧ (ar.eq x 0 ↔ true = true) ∧ True) ∧ (¬ar.eq 0 (PL.pagesI x_2) → ∃ (y : Unit), True ∧ False)) ∧ (ar.eq 0 (PL.pagesI x_2) → ∃ (x : Int), 140 = x ∧
    PL.Ints3 (x, x, x) ∧ ∀ (y : Unit), True → ∃ (y : Unit), True ∧ (ar.eq x 0 ↔ true = true) ∧ True) ∧ (¬ar.eq 0 (PL.pagesI x_2) → ∃ (y : Unit), True ∧ False)) ∧ (¬ar.eq x_4 140 →
    ∃ (y : Unit), True ∧ False)) ∧ ∀ (y : Unit), PL.CfgBad x_2 → ∃ (x_3 : Cfg), x.slots = x_3.slots ∧ x.files = x_3.files ∧ x.dirs = x_3.dirs ∧ x.most = x_3.most ∧ x.least =
    x_3.least ∧ x.page = x_3.page ∧ PL.CfgAny x_3 ∧ (∀ (y : Unit), PL.CfgOK x_3 → ∃ (x_4 : Int), 0 = x_4 ∧ PL.Ints3 (x_4, x_4, x_4) ∧ ∀ (y : Unit), True → ∃ (x_5 : Cfg), x.slots =
    x_5.slots ∧ x.files = x_5.files ∧ x.dirs = x_5.dirs ∧ x.most = x_5.most ∧ x.least = x_5.least ∧ x.page = x_5.page ∧ PL.CfgAny x_5 ∧ (∀ (y : Unit), PL.CfgOK x_5 → ((ar.eq x_4 0
    → ∃ (x : Int), 140 = x ∧ PL.Ints3 (x, x, x) ∧ ∀ (y : Unit), True → ∃ (y : Unit), True ∧ (ar.eq x 140 ↔ true = true) ∧ True) ∧ (¬ar.eq x_4 0 → ∃ (y : Unit), True ∧ False)) ∧
    (ar.eq x_4 0 → ∃ (x : Int), 140 = x ∧ PL.Ints3 (x, x, x) ∧ ∀ (y : Unit), True → ∃ (y : Unit), True ∧ (ar.eq x 140 ↔ true = true) ∧ True) ∧ (¬ar.eq x_4 0 → ∃ (y : Unit), True ∧
    False)) ∧ ∀ (y : Unit), PL.CfgBad x_5 → ((ar.eq x_4 140 → ∃ (x : Int), 140 = x ∧ PL.Ints3 (x, x, x) ∧ ∀ (y : Unit), True → ∃ (y : Unit), True ∧ (ar.eq x 140 ↔ true = true) ∧
    True) ∧ (¬ar.eq x_4 140 → ∃ (y : Unit), True ∧ False)) ∧ (ar.eq x_4 140 → ∃ (x : Int), 140 = x ∧ PL.Ints3 (x, x, x) ∧ ∀ (y : Unit), True → ∃ (y : Unit), True ∧ (ar.eq x 140 ↔
    true = true) ∧ True) ∧ (¬ar.eq x_4 140 → ∃ (y : Unit), True ∧ False)) ∧ ∀ (y : Unit), PL.CfgBad x_3 → ∃ (x_4 : Int), 140 = x_4 ∧ PL.Ints3 (x_4, x_4, x_4) ∧ ∀ (y : Unit), True →
    ∃ (x_5 : Cfg), x.slots = x_5.slots ∧ x.files = x_5.files ∧ x.dirs = x_5.dirs ∧ x.most = x_5.most ∧ x.least = x_5.least ∧ x.page = x_5.page ∧ PL.CfgAny x_5 ∧ (∀ (y : Unit),
    PL.CfgOK x_5 → ((ar.eq x_4 0 → ∃ (x : Int), 140 = x ∧ PL.Ints3 (x, x, x) ∧ ∀ (y : Unit), True → ∃ (y : Unit), True ∧ (ar.eq x 140 ↔ true = true) ∧ True) ∧ (¬ar.eq x_4 0 → ∃ (y
    : Unit), True ∧ False)) ∧ (ar.eq x_4 0 → ∃ (x : Int), 140 = x ∧ PL.Ints3 (x, x, x) ∧ ∀ (y : Unit), True → ∃ (y : Unit), True ∧ (ar.eq x 140 ↔ true = true) ∧ True) ∧ (¬ar.eq x_4
    0 → ∃ (y : Unit), True ∧ False)) ∧ ∀ (y : Unit), PL.CfgBad x_5 → ((ar.eq x_4 140 → ∃ (x : Int), 140 = x ∧ PL.Ints3 (x, x, x) ∧ ∀ (y : Unit), True → ∃ (y : Unit), True ∧ (ar.eq
    x 140 ↔ true = true) ∧ True) ∧ (¬ar.eq x_4 140 → ∃ (y : Unit), True ∧ False)) ∧ (ar.eq x_4 140 → ∃ (x : Int), 140 = x ∧ PL.Ints3 (x, x, x) ∧ ∀ (y : Unit), True → ∃ (y : Unit),
    True ∧ (ar.eq x 140 ↔ true = true) ∧ True) ∧ (¬ar.eq x_4 140 → ∃ (y : Unit), True ∧ False)) := by
  kernel_rfl
end Go.Eng


set_option linter.unusedSimpArgs false
set_option linter.unusedVariables false
set_option maxRecDepth 100000
set_option linter.unusedSectionVars false
namespace Go.Eng
variable [CW : CWorld]
open Go.Proofs
open Go.PL (Cfg CfgIn CfgOK CfgBad)

attribute [local irreducible] run

theorem ex_cfg {x : Cfg} {Q : Cfg → Prop} : (∃ y : Cfg, x.slots = y.slots ∧ x.files = y.files ∧ x.dirs = y.dirs ∧ x.most = y.most ∧ x.least = y.least ∧ x.page = y.page ∧ Q y) ↔ Q x := by
  constructor
  · rintro ⟨⟨a, b, c, d, e, f⟩, h1, h2, h3, h4, h5, h6, h⟩
    simp only at h1 h2 h3 h4 h5 h6
    subst h1 h2 h3 h4 h5 h6
    exact h
  · exact fun h => ⟨x, rfl, rfl, rfl, rfl, rfl, rfl, h⟩
theorem ex_int3 {a b c : Int} {Q : Int × Int × Int → Prop} : (∃ y : Int × Int × Int, a = y.1 ∧ b = y.2.1 ∧ c = y.2.2 ∧ Q y) ↔ Q (a, b, c) := by
  constructor
  · rintro ⟨⟨x, y, z⟩, rfl, rfl, rfl, h⟩
    exact h
  · exact fun h => ⟨(a, b, c), rfl, rfl, rfl, h⟩
theorem ints3 (x : Int × Int × Int) : PL.Ints3 x := ⟨trivial⟩
theorem cfgAny (c : Cfg) : PL.CfgAny c := ⟨trivial⟩
theorem cfgBad {c : Cfg} : CfgBad c ↔ ¬ CfgOK c := ⟨fun h => h.no, fun h => ⟨h⟩⟩

theorem betweenSpec_ok : betweenSpec.OK PP 30 := by
  refine Spec.ok_of_run (fn := Try.f30) (c := Try.f30.body.getD .skip) (by kernel_rfl) (by kernel_rfl) (by kernel_rfl) (specs := noSpec) noSpec_ok (fun _ => noInv) 1000 ?_
  intro x hx
  refine (vc30 ar0 x).mpr ?_
  simp only [ars, exists_const, true_and, and_true]
  exact ⟨fun h => ⟨fun h2 => ⟨h, h2⟩, fun h2 => h2.2⟩, fun h => ⟨fun h2 => (by cases h2), fun h2 => absurd h2.1 h⟩⟩

theorem qSpecs_ok : SpecsOK PP qSpecs := by
  intro f xs _ S h
  unfold qSpecs at h
  split at h
  · cases h; exact betweenSpec_ok
  · cases h

theorem numSpec_ok : numSpec.OK PP 9 := by
  refine Spec.ok_of_run (fn := Try.f9) (c := Try.f9.body.getD .skip) (by kernel_rfl) (by kernel_rfl) (by kernel_rfl) (specs := noSpec) noSpec_ok (fun _ => noInv) 1000 ?_
  intro x hx
  refine (vc9 ar0 x).mpr ?_
  exact ⟨(), trivial, rfl, trivial⟩

theorem rowsSpec_ok : rowsSpec.OK PP 70 := by
  refine Spec.ok_of_run (fn := Try.f70) (c := Try.f70.body.getD .skip) (by kernel_rfl) (by kernel_rfl) (by kernel_rfl) qSpecs_ok (fun _ => noInv) 1000 ?_
  intro (x : Cfg) hx
  obtain ⟨h1, h2, h3, h4, h5, h6⟩ : CfgIn x := hx
  refine (vc70 ar0 x).mpr ?_
  simp only [ars, exists_const, true_and, and_true]
  intro z hz z1 hz1 z2 hz2
  rw [wrap_i64 (by omega) (by omega)] at hz
  rw [wrap_i64 (by omega) (by omega)] at hz1
  subst hz hz1
  rw [wrap_i64 (by omega) (by omega)] at hz2
  exact ⟨rfl, hz2⟩

theorem size60_ok : sizeSpec.OK PP 60 := by
  refine Spec.ok_of_run (fn := Try.f60) (c := Try.f60.body.getD .skip) (by kernel_rfl) (by kernel_rfl) (by kernel_rfl) qSpecs_ok (fun _ => noInv) 1000 ?_
  intro (x : Cfg) hx
  obtain ⟨h1, h2, h3, h4, h5, h6⟩ : CfgIn x := hx
  refine (vc60 ar0 x).mpr ?_
  simp only [ars, exists_const, true_and, and_true, PL.lenI]
  intro z hz z1 hz1 z2 hz2 z3 hz3 z4 hz4 z5 hz5 z6 hz6
  rw [wrap_i64 (by omega) (by omega)] at hz
  rw [wrap_i64 (by omega) (by omega)] at hz1
  subst hz hz1
  rw [wrap_i64 (by omega) (by omega)] at hz2
  rw [wrap_i64 (by omega) (by omega)] at hz3
  subst hz2 hz3
  rw [wrap_i64 (by omega) (by omega)] at hz4
  subst hz4
  rw [wrap_i64 (by omega) (by omega)] at hz5
  subst hz5
  rw [wrap_i64 (by omega) (by omega)] at hz6
  rw [hz6]


theorem sSpecs_ok : SpecsOK PP sSpecs := by
  intro f xs _ S h
  unfold sSpecs at h
  split at h
  · cases h; exact rowsSpec_ok
  · cases h

theorem sizeI_4 (c : Cfg) : PL.sizeI c 4 = PL.lenI c := by
  simp [PL.sizeI, PL.cntI, PL.szI, PL.lenI]
  omega

theorem size59_ok : sizeSpec.OK PP 59 := by
  refine Spec.ok_of_run (fn := Try.f59) (c := Try.f59.body.getD .skip) (by kernel_rfl) (by kernel_rfl) (by kernel_rfl) sSpecs_ok sizeInvs 1000 ?_
  intro (x : Cfg) hx
  refine (vc59 ar0 x).mpr ?_
  rw [ex_cfg]
  refine ⟨hx, fun _ _ => ⟨⟨0, ⟨by omega⟩, ?_⟩, ?_⟩⟩
  · and_intros <;> first | rfl | trivial
  obtain ⟨h1, h2, h3, h4, h5, h6⟩ := hx
  intro i ⟨hi⟩
  simp only [ars, exists_const, true_and, and_true]
  refine ⟨fun hi4 => ?_, fun hi4 => ?_⟩
  · refine ⟨by omega, hi4, by omega, by simp; omega, by omega, hi4, by omega, by simp [PL.szL]; omega, ?_⟩
    intro z hz z1 hz1 z2 hz2
    have hb : ar0.iget [x.dirs, x.files, x.files + x.slots, 1 + x.files + x.slots] (i : Int) = PL.cntI x i ∧ ar0.iget PL.szL (i : Int) = PL.szI i := by
      have : i = 0 ∨ i = 1 ∨ i = 2 ∨ i = 3 := by omega
      rcases this with rfl | rfl | rfl | rfl <;> exact ⟨rfl, rfl⟩
    rw [hb.1, hb.2] at hz
    have hr : 0 ≤ PL.cntI x i * PL.szI i ∧ PL.cntI x i * PL.szI i ≤ 10000000 ∧ 0 ≤ PL.sizeI x i ∧ PL.sizeI x i ≤ 100000000 := by
      have : i = 0 ∨ i = 1 ∨ i = 2 ∨ i = 3 := by omega
      rcases this with rfl | rfl | rfl | rfl <;> simp [PL.sizeI, PL.cntI, PL.szI] <;> omega
    rw [wrap_i64 (by omega) (by omega)] at hz
    subst hz
    rw [wrap_i64 (by omega) (by omega)] at hz1
    rw [wrap_i64 (by omega) (by omega)] at hz2
    subst hz1 hz2
    refine ⟨i + 1, ⟨by omega⟩, by omega, ?_⟩
    and_intros <;> first | rfl | trivial
  · have : i = 4 := by omega
    subst this
    exact sizeI_4 x

theorem pSpecs_ok : SpecsOK PP pSpecs := by
  intro f xs _ S h
  unfold pSpecs at h
  split at h
  · cases h; exact size59_ok
  · cases h; exact size60_ok
  · cases h

theorem pages_law {x : Cfg} (hx : CfgIn x) : ∀ (z : Int), z = ar0.wrap IntKind.i64 (ar0.sub x.page 5) → CfgIn x ∧ ∀ (y : Unit), True → ∀ (z_1 : Int), z_1 = ar0.wrap IntKind.i64 (ar0.add (PL.lenI x) z) → ∀ (z_2 : Int), z_2 = ar0.wrap IntKind.i64 (ar0.sub z_1 1) → ¬ar0.eq z 0 ∧ ∀ (z_3 : Int), z_3 = ar0.wrap IntKind.i64 (ar0.quo z_2 z) → ∃ (y : Unit), True ∧ z_3 = PL.pagesI x ∧ True := by
  intro z hz
  refine ⟨hx, fun _ _ => ?_⟩
  obtain ⟨h1, h2, h3, h4, h5, h6⟩ := hx
  simp only [ars, exists_const, true_and, and_true] at hz ⊢
  rw [wrap_i64 (by omega) (by omega)] at hz
  subst hz
  intro z1 hz1 z2 hz2
  have hl : 0 ≤ PL.lenI x ∧ PL.lenI x ≤ 100000000 := by unfold PL.lenI; omega
  rw [wrap_i64 (by omega) (by omega)] at hz1
  subst hz1
  rw [wrap_i64 (by omega) (by omega)] at hz2
  subst hz2
  refine ⟨by omega, fun z3 hz3 => ?_⟩
  have hp : 0 < x.page - 5 := by omega
  rw [Int.tdiv_eq_ediv_of_nonneg (by omega)] at hz3
  have hb : 0 ≤ (PL.lenI x + (x.page - 5) - 1) / (x.page - 5) := Int.ediv_nonneg (by omega) (by omega)
  have hb2 : (PL.lenI x + (x.page - 5) - 1) / (x.page - 5) ≤ PL.lenI x + (x.page - 5) - 1 := Int.ediv_le_self _ (by omega)
  rw [wrap_i64 (by omega) (by omega)] at hz3
  exact hz3

theorem pages28_ok : pagesSpec.OK PP 28 := by
  refine Spec.ok_of_run (fn := Try.f28) (c := Try.f28.body.getD .skip) (by kernel_rfl) (by kernel_rfl) (by kernel_rfl) pSpecs_ok (fun _ => noInv) 1000 ?_
  intro (x : Cfg) hx
  refine (vc28 ar0 x).mpr ?_
  simp only [ex_cfg]
  exact pages_law hx
theorem pages29_ok : pagesSpec.OK PP 29 := by
  refine Spec.ok_of_run (fn := Try.f29) (c := Try.f29.body.getD .skip) (by kernel_rfl) (by kernel_rfl) (by kernel_rfl) pSpecs_ok (fun _ => noInv) 1000 ?_
  intro (x : Cfg) hx
  refine (vc29 ar0 x).mpr ?_
  simp only [ex_cfg]
  exact pages_law hx

theorem kSpecs_ok : SpecsOK PP kSpecs := by
  intro f xs _ S h
  unfold kSpecs at h
  split at h
  · cases h; exact pages28_ok
  · cases h; exact pages29_ok
  · cases h; exact betweenSpec_ok
  · cases h

theorem check10_ok : checkSpec.OK PP 10 := by
  refine Spec.ok_of_run (fn := Try.f10) (c := Try.f10.body.getD .skip) (by kernel_rfl) (by kernel_rfl) (by kernel_rfl) kSpecs_ok (fun _ => noInv) 1000 ?_
  intro (x : Cfg) hx
  refine (vc10 ar0 x).mpr ?_
  simp only [ars, ex_cfg, ex_int3, ints3, cfgBad, exists_const, true_and, and_true, and_false, or_false, false_or, forall_const, imp_false, Classical.not_not]
  refine ⟨fun h1 => ⟨fun h2 => ⟨fun h3 => ⟨fun h4 => ⟨fun h5 => ⟨fun h6 => ⟨⟨h1, h2, h3, h4, h5, h6⟩, fun h7 hc => ?_, fun h7 => ⟨⟨h1, h2, h3, h4, h5, h6⟩, ?_⟩⟩, fun h hc => h hc.ok.page⟩, fun h hc => h hc.ok.least⟩, fun h hc => h hc.ok.most⟩, fun h hc => h hc.ok.dirs⟩, fun h hc => h hc.ok.files⟩, fun h hc => h hc.ok.slots⟩
  · exact absurd hc.pages (by omega)
  · omega

theorem check11_ok : checkSpec.OK PP 11 := by
  refine Spec.ok_of_run (fn := Try.f11) (c := Try.f11.body.getD .skip) (by kernel_rfl) (by kernel_rfl) (by kernel_rfl) kSpecs_ok (fun _ => noInv) 1000 ?_
  intro (x : Cfg) hx
  refine (vc11 ar0 x).mpr ?_
  simp only [ars, ex_cfg, ex_int3, ints3, cfgBad, exists_const, true_and, and_true, and_false, or_false, false_or, forall_const, imp_false, Classical.not_not]
  refine ⟨fun a1 => ⟨fun b1 => ⟨fun a2 => ⟨fun b2 => ⟨fun a3 => ⟨fun b3 => ⟨fun a4 => ⟨fun b4 => ⟨fun a5 => ⟨fun b5 => ⟨fun a6 => ⟨fun b6 => ⟨⟨⟨a1, b1⟩, ⟨a2, b2⟩, ⟨a3, b3⟩, ⟨a4, b4⟩, ⟨a5, b5⟩, ⟨a6, b6⟩⟩, fun h7 hc => ?_, fun h7 => ⟨⟨⟨a1, b1⟩, ⟨a2, b2⟩, ⟨a3, b3⟩, ⟨a4, b4⟩, ⟨a5, b5⟩, ⟨a6, b6⟩⟩, ?_⟩⟩,
    fun h hc => h hc.ok.page.2⟩, fun h hc => h hc.ok.page.1⟩, fun h hc => h hc.ok.least.2⟩, fun h hc => h hc.ok.least.1⟩, fun h hc => h hc.ok.most.2⟩, fun h hc => h hc.ok.most.1⟩, fun h hc => h hc.ok.dirs.2⟩, fun h hc => h hc.ok.dirs.1⟩, fun h hc => h hc.ok.files.2⟩, fun h hc => h hc.ok.files.1⟩, fun h hc => h hc.ok.slots.2⟩, fun h hc => h hc.ok.slots.1⟩
  · exact absurd hc.pages (by omega)
  · omega

theorem eSpecs_ok : SpecsOK PP eSpecs := by
  intro f xs _ S h
  unfold eSpecs at h
  split at h
  · cases h; exact pages28_ok
  · cases h; exact pages29_ok
  · cases h; exact check10_ok
  · cases h; exact check11_ok
  · cases h

theorem Pages7_ok : PagesSpec.OK PP 7 := by
  refine Spec.ok_of_run (fn := Try.f7) (c := Try.f7.body.getD .skip) (by kernel_rfl) (by kernel_rfl) (by kernel_rfl) eSpecs_ok (fun _ => noInv) 1000 ?_
  intro (x : Cfg) hx
  refine (vc7 ar0 x).mpr ?_
  simp only [ex_cfg, cfgAny, cfgBad, exists_const, true_and, and_true, and_false, or_false, false_or, forall_const]
  exact ⟨fun h => ⟨h.ok, h⟩, fun h => h⟩
theorem Pages8_ok : PagesSpec.OK PP 8 := by
  refine Spec.ok_of_run (fn := Try.f8) (c := Try.f8.body.getD .skip) (by kernel_rfl) (by kernel_rfl) (by kernel_rfl) eSpecs_ok (fun _ => noInv) 1000 ?_
  intro (x : Cfg) hx
  refine (vc8 ar0 x).mpr ?_
  simp only [ex_cfg, cfgAny, cfgBad, exists_const, true_and, and_true, and_false, or_false, false_or, forall_const]
  exact ⟨fun h => ⟨h.ok, h⟩, fun h => h⟩

theorem cSpecs_ok : SpecsOK PP cSpecs := by
  intro f xs _ S h
  unfold cSpecs at h
  split at h
  · cases h; exact Pages7_ok
  · cases h; exact Pages8_ok
  · cases h; exact numSpec_ok
  · cases h; exact check10_ok
  · cases h; exact check11_ok
  · cases h

theorem checksSpec_ok : checksSpec.OK PP 3 := by
  refine Spec.ok_of_run (fn := Try.f3) (c := Try.f3.body.getD .skip) (by kernel_rfl) (by kernel_rfl) (by kernel_rfl) cSpecs_ok (fun _ => noInv) 1000 ?_
  intro (x : Cfg) hx
  refine (vc3 ar0 x).mpr ?_
  by_cases h : CfgOK x <;>
  simp only [ars, ex_cfg, cfgAny, cfgBad, h, ints3, exists_const, true_and, and_true, and_false, or_false, false_or, forall_const, exists_eq_left', not_true_eq_false, not_false_eq_true, false_imp_iff, implies_true, Nat.reduceEqDiff, and_self]
end Go.Eng
