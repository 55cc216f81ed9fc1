/- Poly: block: the contract holds. -/
import Derived.Test.YtnkdnnaelcgenaaEngC
import Derived.KernelRfl
import Derived.Test.YtnkdnnaelcgenaaProg
set_option linter.unusedVariables false
set_option linter.unusedSimpArgs false

/- Law seat poly: contracts. Equal. -/
set_option linter.unusedSectionVars false
namespace Go.Eng
variable [CW : CWorld]
open Go.Proofs
set_option maxRecDepth 100000

noncomputable abbrev PP := Try.prog

/-- A frame of n temporaries of which these are known. -/
def frame (n : Nat) (l : List (Nat × SV)) : List SV := (List.range n).map fun i => (l.lookup i).getD .any

def noInv : Invs := fun _ _ => none
def noSpec : Specs := fun _ _ _ => none
theorem noSpec_ok {P : Program} : SpecsOK P noSpec := fun f _ _ S h => by cases h

/-- The bytes so far have these differences. -/
def _root_.Go.PL.offZ (a b : List UInt8) (n : Nat) : Int := (((a.take n).zip (b.take n)).foldl (fun x p => x ||| (p.1 ^^^ p.2)) (0 : UInt8)).toNat

def eqInv (a b : List UInt8) (ar : AR) : Inv where
  ι := Nat
  fr n := frame 29 [(0, .str a), (1, .str b), (5, .int .u8 (.x (PL.offZ a b n))), (13, .int .i64 (.x (ar.slen a))), (14, .int .i64 (.x (n : Int)))]
  hp _ := []
  μ n := a.length - n
  ok n := n ≤ a.length

def eqSpec : Spec where
  X := List UInt8 × List UInt8
  A x := [.str x.1, .str x.2]
  H _ := []
  pre x := x.1.length < 2 ^ 62 ∧ x.2.length < 2 ^ 62
  outs := [{ Y _ := Unit, post _ _ := True, R x _ := .bool (.x (x.1 = x.2)), H' _ _ := [] }]

end Go.Eng

/- Arithmetic of the machine's numbers, as plain numbers. -/
set_option linter.unusedSimpArgs false
set_option linter.unusedSectionVars false
namespace Go.Eng
variable [CW : CWorld]

theorem wrap_i64 {n : Int} (h0 : -9223372036854775808 ≤ n) (h1 : n < 9223372036854775808) : IntKind.i64.wrap n = n := by
  show (if (true && decide (n % (2 ^ 64 : Int) ≥ (2 ^ 63 : Int))) = true then n % (2 ^ 64 : Int) - (2 ^ 64 : Int) else n % (2 ^ 64 : Int)) = n
  rw [show (2 : Int) ^ 64 = 18446744073709551616 by decide, show (2 : Int) ^ 63 = 9223372036854775808 by decide]
  by_cases h : n % 18446744073709551616 ≥ 9223372036854775808
  · rw [if_pos (by simpa using h)]; omega
  · rw [if_neg (by simpa using h)]; omega

theorem wrap_u64 (n : Int) : IntKind.u64.wrap n = n % 18446744073709551616 := by
  show (if (false && decide (n % (2 ^ 64 : Int) ≥ (2 ^ 63 : Int))) = true then n % (2 ^ 64 : Int) - (2 ^ 64 : Int) else n % (2 ^ 64 : Int)) = _
  rw [show (2 : Int) ^ 64 = 18446744073709551616 by decide]
  simp

theorem wrap_u8 (n : Int) : IntKind.u8.wrap n = n % 256 := by
  show (if (false && decide (n % (2 ^ 8 : Int) ≥ (2 ^ 7 : Int))) = true then n % (2 ^ 8 : Int) - (2 ^ 8 : Int) else n % (2 ^ 8 : Int)) = _
  rw [show (2 : Int) ^ 8 = 256 by decide]
  simp

theorem wrap_u32 (n : Int) : IntKind.u32.wrap n = n % 4294967296 := by
  show (if (false && decide (n % (2 ^ 32 : Int) ≥ (2 ^ 31 : Int))) = true then n % (2 ^ 32 : Int) - (2 ^ 32 : Int) else n % (2 ^ 32 : Int)) = _
  rw [show (2 : Int) ^ 32 = 4294967296 by decide]
  simp

theorem wrap_u16 (n : Int) : IntKind.u16.wrap n = n % 65536 := by
  show (if (false && decide (n % (2 ^ 16 : Int) ≥ (2 ^ 15 : Int))) = true then n % (2 ^ 16 : Int) - (2 ^ 16 : Int) else n % (2 ^ 16 : Int)) = _
  rw [show (2 : Int) ^ 16 = 65536 by decide]
  simp

theorem u8_toNat_lt (a : UInt8) : a.toNat < 256 := a.toNat_lt

theorem band_u8 (a b : UInt8) : ar0.band .u8 (a.toNat : Int) (b.toNat : Int) = ((a &&& b).toNat : Int) := by
  have h : ∀ x : Nat, BitVec.ofInt 8 (x : Int) = BitVec.ofNat 8 x := fun x => BitVec.ofInt_natCast 8 x
  show IntKind.u8.wrap (BitVec.ofInt 8 (a.toNat : Int) &&& BitVec.ofInt 8 (b.toNat : Int)).toNat = _
  rw [wrap_u8, h, h]
  have hlt := (a &&& b).toNat_lt
  simp only [BitVec.toNat_and, BitVec.toNat_ofNat, UInt8.toNat_and] at *
  rw [Nat.mod_eq_of_lt a.toNat_lt, Nat.mod_eq_of_lt b.toNat_lt]
  omega
theorem bor_u8 (a b : UInt8) : ar0.bor .u8 (a.toNat : Int) (b.toNat : Int) = ((a ||| b).toNat : Int) := by
  have h : ∀ x : Nat, BitVec.ofInt 8 (x : Int) = BitVec.ofNat 8 x := fun x => BitVec.ofInt_natCast 8 x
  show IntKind.u8.wrap (BitVec.ofInt 8 (a.toNat : Int) ||| BitVec.ofInt 8 (b.toNat : Int)).toNat = _
  rw [wrap_u8, h, h]
  have hlt := (a ||| b).toNat_lt
  simp only [BitVec.toNat_or, BitVec.toNat_ofNat, UInt8.toNat_or] at *
  rw [Nat.mod_eq_of_lt a.toNat_lt, Nat.mod_eq_of_lt b.toNat_lt]
  omega
theorem bxor_u8 (a b : UInt8) : ar0.bxor .u8 (a.toNat : Int) (b.toNat : Int) = ((a ^^^ b).toNat : Int) := by
  have h : ∀ x : Nat, BitVec.ofInt 8 (x : Int) = BitVec.ofNat 8 x := fun x => BitVec.ofInt_natCast 8 x
  show IntKind.u8.wrap (BitVec.ofInt 8 (a.toNat : Int) ^^^ BitVec.ofInt 8 (b.toNat : Int)).toNat = _
  rw [wrap_u8, h, h]
  have hlt := (a ^^^ b).toNat_lt
  simp only [BitVec.toNat_xor, BitVec.toNat_ofNat, UInt8.toNat_xor] at *
  rw [Nat.mod_eq_of_lt a.toNat_lt, Nat.mod_eq_of_lt b.toNat_lt]
  omega

theorem band_u64 {a b : Nat} (ha : a < 18446744073709551616) (hb : b < 18446744073709551616) : ar0.band .u64 (a : Int) (b : Int) = ((a &&& b : Nat) : Int) := by
  have h : ∀ x : Nat, BitVec.ofInt 64 (x : Int) = BitVec.ofNat 64 x := fun x => BitVec.ofInt_natCast 64 x
  show IntKind.u64.wrap (BitVec.ofInt 64 (a : Int) &&& BitVec.ofInt 64 (b : Int)).toNat = _
  rw [wrap_u64, h, h]
  have hlt : a &&& b < 18446744073709551616 := Nat.lt_of_le_of_lt Nat.and_le_left ha
  rw [BitVec.toNat_and, BitVec.toNat_ofNat, BitVec.toNat_ofNat, Nat.mod_eq_of_lt (b := 2 ^ 64) ha, Nat.mod_eq_of_lt (b := 2 ^ 64) hb]
  omega
theorem bor_u64 {a b : Nat} (ha : a < 18446744073709551616) (hb : b < 18446744073709551616) : ar0.bor .u64 (a : Int) (b : Int) = ((a ||| b : Nat) : Int) := by
  have h : ∀ x : Nat, BitVec.ofInt 64 (x : Int) = BitVec.ofNat 64 x := fun x => BitVec.ofInt_natCast 64 x
  show IntKind.u64.wrap (BitVec.ofInt 64 (a : Int) ||| BitVec.ofInt 64 (b : Int)).toNat = _
  rw [wrap_u64, h, h]
  have hlt : a ||| b < 18446744073709551616 := Nat.or_lt_two_pow (n := 64) ha hb
  rw [BitVec.toNat_or, BitVec.toNat_ofNat, BitVec.toNat_ofNat, Nat.mod_eq_of_lt (b := 2 ^ 64) ha, Nat.mod_eq_of_lt (b := 2 ^ 64) hb]
  omega
theorem shr_u64 {a : Nat} {k : Int} (h0 : 0 ≤ k) (h1 : k < 64) : ar0.shr .u64 (a : Int) k = ((a / 2 ^ k.toNat : Nat) : Int) := by
  show (a : Int).fdiv (2 ^ (min k.toNat 64)) = _
  rw [Nat.min_eq_left (a := k.toNat) (b := 64) (by omega), Int.fdiv_eq_ediv_of_nonneg _ (by exact_mod_cast Nat.zero_le _)]
  norm_cast
theorem shl_u64 {a : Nat} {k : Int} (h0 : 0 ≤ k) (h1 : k < 64) : ar0.shl .u64 (a : Int) k = ((a * 2 ^ k.toNat % 18446744073709551616 : Nat) : Int) := by
  show IntKind.u64.wrap ((a : Int) * 2 ^ (min k.toNat 64)) = _
  rw [wrap_u64, Nat.min_eq_left (a := k.toNat) (b := 64) (by omega), Int.natCast_emod, Int.natCast_mul, Int.natCast_pow]
  rfl

end Go.Eng
set_option linter.unusedSectionVars false
namespace Go.Eng
variable [CW : CWorld]
/-! The same of whole numbers that fit. -/
theorem u64_shr {x k : Int} (h0 : 0 ≤ x) (hk : 0 ≤ k) (hk1 : k < 64) : ar0.shr .u64 x k = x / 2 ^ k.toNat := by
  obtain ⟨n, rfl⟩ := Int.eq_ofNat_of_zero_le h0
  rw [shr_u64 hk hk1, Int.natCast_ediv, Int.natCast_pow]
  rfl
theorem u64_low {x : Int} (h0 : 0 ≤ x) (h1 : x < 18446744073709551616) (k : Nat) (hk : k < 64) : ar0.band .u64 x ((2 ^ k - 1 : Nat) : Int) = x % 2 ^ k := by
  obtain ⟨n, rfl⟩ := Int.eq_ofNat_of_zero_le h0
  have hlt : 2 ^ k - 1 < 18446744073709551616 := by
    have : 2 ^ k ≤ 2 ^ 63 := Nat.pow_le_pow_right (by omega) (by omega)
    omega
  rw [band_u64 (by omega) hlt, Nat.and_two_pow_sub_one_eq_mod, Int.natCast_emod, Int.natCast_pow]
  rfl
theorem u64_shr26 {x : Int} (h0 : 0 ≤ x) : ar0.shr .u64 x 26 = x / 67108864 := u64_shr h0 (by omega) (by omega)
theorem u64_low26 {x : Int} (h0 : 0 ≤ x) (h1 : x < 18446744073709551616) : ar0.band .u64 x 67108863 = x % 67108864 := u64_low h0 h1 26 (by omega)
theorem u64_add {x y : Int} (h0 : 0 ≤ x + y) (h1 : x + y < 18446744073709551616) : ar0.wrap .u64 (ar0.add x y) = x + y := by
  show IntKind.u64.wrap (x + y) = _
  rw [wrap_u64]; omega
theorem u64_mul {x y : Int} (h0 : 0 ≤ x * y) (h1 : x * y < 18446744073709551616) : ar0.wrap .u64 (ar0.mul x y) = x * y := by
  show IntKind.u64.wrap (x * y) = _
  rw [wrap_u64, Int.emod_eq_of_lt h0 h1]
theorem i64_add {x y : Int} (h0 : -9223372036854775808 ≤ x + y) (h1 : x + y < 9223372036854775808) : ar0.wrap .i64 (ar0.add x y) = x + y := wrap_i64 h0 h1
theorem i64_sub {x y : Int} (h0 : -9223372036854775808 ≤ x - y) (h1 : x - y < 9223372036854775808) : ar0.wrap .i64 (ar0.sub x y) = x - y := wrap_i64 h0 h1
theorem i64_mul {x y : Int} (h0 : -9223372036854775808 ≤ x * y) (h1 : x * y < 9223372036854775808) : ar0.wrap .i64 (ar0.mul x y) = x * y := wrap_i64 h0 h1
end Go.Eng

/- Poly: the shapes and contracts of the program's own numbers. -/
namespace Go.PL
structure L5 where
  a : Int
  b : Int
  c : Int
  d : Int
  e : Int

def L5.val (x : L5) : Int := x.a + 67108864 * x.b + 4503599627370496 * x.c + 302231454903657293676544 * x.d + 20282409603651670423947251286016 * x.e
def PQ : Int := 1361129467683753853853498429727072845819
def L5.lt (x : L5) (n : Int) : Prop := (0 ≤ x.a ∧ x.a < n) ∧ (0 ≤ x.b ∧ x.b < n) ∧ (0 ≤ x.c ∧ x.c < n) ∧ (0 ≤ x.d ∧ x.d < n) ∧ 0 ≤ x.e ∧ x.e < n
/-- The program's Mac. -/
structure MacS where
  acc : L5
  r : L5
  s0 : Int
  s1 : Int
  rest : List Int
  held : Int
def near (x : L5) : Prop := (0 ≤ x.a ∧ x.a < 67108864) ∧ (0 ≤ x.b ∧ x.b ≤ 67108864 ∧ (x.b = 67108864 → x.a < 16)) ∧ (0 ≤ x.c ∧ x.c < 67108864) ∧ (0 ≤ x.d ∧ x.d < 67108864) ∧ 0 ≤ x.e ∧ x.e < 67108864
structure carried (x y : L5) : Prop where
  lt : y.lt 134217728
  val : ∃ k : Int, y.val = x.val - PQ * k
  first : x.lt 134217728 → near y
  then' : near x → y.lt 67108864
structure blocked (m : MacS) (x y : L5) : Prop where
  lt : y.lt 134217728
  val : ∃ k : Int, y.val = (m.acc.val + x.val) * m.r.val - PQ * k
structure blockPre (m : MacS) (x : L5) : Prop where
  acc : m.acc.lt 134217728
  r : m.r.lt 67108864
  x : x.lt 67108864
structure isReduced (x y : L5) : Prop where
  lt : y.lt 67108864
  val : y.val = x.val % PQ
structure L5.Lt (x : L5) (n : Int) : Prop where
  lt : x.lt n
end Go.PL
set_option linter.unusedSectionVars false
namespace Go.Eng
variable [CW : CWorld]
open Go.Proofs
open Go.PL (L5 MacS)
set_option maxRecDepth 100000

def l5 (x : L5) : List SV := [.int .u64 (.x x.a), .int .u64 (.x x.b), .int .u64 (.x x.c), .int .u64 (.x x.d), .int .u64 (.x x.e)]

def carrySpec : Spec where
  X := L5
  A _ := [.ptr 0 (.l 0)]
  H x := [.mk 57 ((l5 x).map .one)]
  pre x := x.Lt 1152921504606846976
  outs := [{ Y _ := L5, post x y := PL.carried x y, R _ _ := .tup [], H' _ y := [.mk 57 ((l5 y).map .one)] }]

def macSegs (m : MacS) : List Seg := ((l5 m.acc).map .one) ++ ((l5 m.r).map .one) ++ [.one (.int .u64 (.x m.s0)), .one (.int .u64 (.x m.s1)), .arr (.l 16) [.ints .u8 m.rest], .one (.int .i64 (.x m.held))]

def blockSpec : Spec where
  X := MacS × L5
  A x := [.ptr 0 (.l 0), .agg (l5 x.2)]
  H x := [.mk 62 (macSegs x.1)]
  pre x := PL.blockPre x.1 x.2
  outs := [{ Y _ := L5, post x y := PL.blocked x.1 x.2 y, R _ _ := .tup [], H' x y := [.mk 62 (macSegs { x.1 with acc := y })] }]

def reducedSpec : Spec where
  X := L5
  A x := [.agg (l5 x)]
  H _ := []
  pre x := x.Lt 134217728
  outs := [{ Y _ := L5, post x y := PL.isReduced x y, R _ y := .agg (l5 y), H' _ _ := [] }]

noncomputable def cSpecs : Specs := fun f _ _ => match f with
  | 37 => some carrySpec
  | _ => none

noncomputable def mSpecs : Specs := fun f _ _ => match f with
  | 37 => some carrySpec
  | 29 => some blockSpec
  | 30 => some reducedSpec
  | _ => none

end Go.Eng

/- Poly: the contracts of load. -/
namespace Go.PL
/-- The number of bytes, the lowest first. -/
def leI : List Int → Int
  | [] => 0
  | b :: l => b + 256 * leI l
structure Bytes (l : List Int) : Prop where
  b : ∀ x ∈ l, 0 ≤ x ∧ x < 256
structure loadPre (l : List Int) (n : Int) : Prop where
  len : l.length = 16
  b : Bytes l
  n : n = 0 ∨ n = 1
structure loaded (l : List Int) (n : Int) (y : L5) : Prop where
  lt : y.lt 67108864
  val : y.val = leI l + n * 340282366920938463463374607431768211456
end Go.PL
set_option linter.unusedSectionVars false
namespace Go.Eng
variable [CW : CWorld]
open Go.Proofs
open Go.PL (L5 MacS)
set_option maxRecDepth 100000

def loadSpec : Spec where
  X := List Int × Int
  A x := [.ptr 0 (.l 0), .int .u64 (.x x.2)]
  H x := [.mk 52 [.arr (.l 16) [.ints .u8 x.1]]]
  pre x := PL.loadPre x.1 x.2
  outs := [{ Y _ := L5, post x y := PL.loaded x.1 x.2 y, R _ y := .agg (l5 y), H' x _ := [.mk 52 [.arr (.l 16) [.ints .u8 x.1]]] }]

def loadMacSpec : Spec where
  X := MacS × Int
  A x := [.ptr 0 (.l 12), .int .u64 (.x x.2)]
  H x := [.mk 62 (macSegs x.1)]
  pre x := PL.loadPre x.1.rest x.2
  outs := [{ Y _ := L5, post x y := PL.loaded x.1.rest x.2 y, R _ y := .agg (l5 y), H' x _ := [.mk 62 (macSegs x.1)] }]

end Go.Eng

/- Poly: walks. -/
set_option linter.unusedVariables false
set_option linter.unusedSectionVars false
namespace Go.Eng
variable [CW : CWorld]
open Go.Proofs
open Go.PL (L5 MacS)
set_option maxRecDepth 100000
theorem vc37 (ar : AR) (x : L5) : (run ar PP noSpec noInv 1000 37 1 (Try.f37.body.getD .skip) ([.ptr 0 (.l 0)] ++ List.replicate (Try.f37.ntmps - 1) .any) [.mk 57 ((l5 x).map .one)] (endCall ar PP Try.f37.results.toList (carrySpec.fin x))) = (
    ∀ (z : Int), z = ar.shr IntKind.u64 x.a 26 → ∀ (z_1 : Int), z_1 = ar.wrap IntKind.u64 (ar.add x.b z) → ∀ (z : Int), z = ar.band IntKind.u64 x.a 67108863 → ∀ (z_2 : Int), z_2 =
    ar.shr IntKind.u64 z_1 26 → ∀ (z_3 : Int), z_3 = ar.wrap IntKind.u64 (ar.add x.c z_2) → ∀ (z_4 : Int), z_4 = ar.band IntKind.u64 z_1 67108863 → ∀ (z_5 : Int), z_5 = ar.shr
    IntKind.u64 z_3 26 → ∀ (z_6 : Int), z_6 = ar.wrap IntKind.u64 (ar.add x.d z_5) → ∀ (z_7 : Int), z_7 = ar.band IntKind.u64 z_3 67108863 → ∀ (z_8 : Int), z_8 = ar.shr IntKind.u64
    z_6 26 → ∀ (z_9 : Int), z_9 = ar.wrap IntKind.u64 (ar.add x.e z_8) → ∀ (z_10 : Int), z_10 = ar.band IntKind.u64 z_6 67108863 → ∀ (z_11 : Int), z_11 = ar.shr IntKind.u64 z_9 26
    → ∀ (z_12 : Int), z_12 = ar.wrap IntKind.u64 (ar.mul z_11 5) → ∀ (z_13 : Int), z_13 = ar.wrap IntKind.u64 (ar.add z z_12) → ∀ (z : Int), z = ar.band IntKind.u64 z_9 67108863 →
    ∀ (z_14 : Int), z_14 = ar.shr IntKind.u64 z_13 26 → ∀ (z_15 : Int), z_15 = ar.wrap IntKind.u64 (ar.add z_4 z_14) → ∀ (z_16 : Int), z_16 = ar.band IntKind.u64 z_13 67108863 → ∃
    (y : L5), PL.carried x y ∧ z_16 = y.a ∧ z_15 = y.b ∧ z_7 = y.c ∧ z_10 = y.d ∧ z = y.e ∧ True) := by
  kernel_rfl
end Go.Eng


/- Poly: walks. -/
set_option linter.unusedVariables false
set_option linter.unusedSectionVars false
namespace Go.Eng
variable [CW : CWorld]
open Go.Proofs
open Go.PL (L5 MacS)
set_option maxRecDepth 100000
theorem vc30 (ar : AR) (x : L5) : (run ar PP cSpecs noInv 1000 30 0 (Try.f30.body.getD .skip) ([.agg (l5 x)] ++ List.replicate (Try.f30.ntmps - 1) .any) [] (endCall ar PP Try.f30.results.toList (reducedSpec.fin x))) = (
    ∃ (x_1 : L5), x.a = x_1.a ∧ x.b = x_1.b ∧ x.c = x_1.c ∧ x.d = x_1.d ∧ x.e = x_1.e ∧ x_1.Lt 1152921504606846976 ∧ ∀ (y : L5), PL.carried x_1 y → ∃ (x_2 : L5), y.a = x_2.a ∧ y.b
    = x_2.b ∧ y.c = x_2.c ∧ y.d = x_2.d ∧ y.e = x_2.e ∧ x_2.Lt 1152921504606846976 ∧ ∀ (y : L5), PL.carried x_2 y → ∀ (z : Int), z = ar.wrap IntKind.u64 (ar.add y.a 5) → ∀ (z_1 :
    Int), z_1 = ar.shr IntKind.u64 z 26 → ∀ (z_2 : Int), z_2 = ar.wrap IntKind.u64 (ar.add y.b z_1) → ∀ (z_3 : Int), z_3 = ar.band IntKind.u64 z 67108863 → ∀ (z : Int), z = ar.shr
    IntKind.u64 z_2 26 → ∀ (z_4 : Int), z_4 = ar.wrap IntKind.u64 (ar.add y.c z) → ∀ (z : Int), z = ar.band IntKind.u64 z_2 67108863 → ∀ (z_5 : Int), z_5 = ar.shr IntKind.u64 z_4
    26 → ∀ (z_6 : Int), z_6 = ar.wrap IntKind.u64 (ar.add y.d z_5) → ∀ (z_7 : Int), z_7 = ar.band IntKind.u64 z_4 67108863 → ∀ (z_8 : Int), z_8 = ar.shr IntKind.u64 z_6 26 → ∀ (z_9
    : Int), z_9 = ar.wrap IntKind.u64 (ar.add y.e z_8) → ∀ (z_10 : Int), z_10 = ar.band IntKind.u64 z_6 67108863 → ∀ (z_11 : Int), z_11 = ar.shr IntKind.u64 z_9 26 → (ar.eq z_11 0
    → ∃ (y_1 : L5), PL.isReduced x y_1 ∧ y.a = y_1.a ∧ y.b = y_1.b ∧ y.c = y_1.c ∧ y.d = y_1.d ∧ y.e = y_1.e ∧ True) ∧ (¬ar.eq z_11 0 → ∀ (z_12 : Int), z_12 = ar.band IntKind.u64
    z_9 67108863 → ∃ (y : L5), PL.isReduced x y ∧ z_3 = y.a ∧ z = y.b ∧ z_7 = y.c ∧ z_10 = y.d ∧ z_12 = y.e ∧ True)) := by
  kernel_rfl
end Go.Eng


/- Poly: walks. -/
set_option linter.unusedVariables false
set_option linter.unusedSectionVars false
namespace Go.Eng
variable [CW : CWorld]
open Go.Proofs
open Go.PL (L5 MacS)
set_option maxRecDepth 100000
theorem vc29 (ar : AR) (m : MacS) (x : L5) : (run ar PP cSpecs noInv 1000 29 1 (Try.f29.body.getD .skip) ([.ptr 0 (.l 0), .agg (l5 x)] ++ List.replicate (Try.f29.ntmps - 2) .any) [.mk 62 (macSegs m)] (endCall ar PP Try.f29.results.toList (blockSpec.fin (m, x)))) = (
    ∀ (z : Int), z = ar.wrap IntKind.u64 (ar.add m.acc.a x.a) → ∀ (z_1 : Int), z_1 = ar.wrap IntKind.u64 (ar.add m.acc.b x.b) → ∀ (z_2 : Int), z_2 = ar.wrap IntKind.u64 (ar.add
    m.acc.c x.c) → ∀ (z_3 : Int), z_3 = ar.wrap IntKind.u64 (ar.add m.acc.d x.d) → ∀ (z_4 : Int), z_4 = ar.wrap IntKind.u64 (ar.add m.acc.e x.e) → ∀ (z_5 : Int), z_5 = ar.wrap
    IntKind.u64 (ar.mul z m.r.a) → ∀ (z_6 : Int), z_6 = ar.wrap IntKind.u64 (ar.add 0 z_5) → ∀ (z_7 : Int), z_7 = ar.wrap IntKind.u64 (ar.mul z m.r.b) → ∀ (z_8 : Int), z_8 =
    ar.wrap IntKind.u64 (ar.add 0 z_7) → ∀ (z_9 : Int), z_9 = ar.wrap IntKind.u64 (ar.mul z m.r.c) → ∀ (z_10 : Int), z_10 = ar.wrap IntKind.u64 (ar.add 0 z_9) → ∀ (z_11 : Int),
    z_11 = ar.wrap IntKind.u64 (ar.mul z m.r.d) → ∀ (z_12 : Int), z_12 = ar.wrap IntKind.u64 (ar.add 0 z_11) → ∀ (z_13 : Int), z_13 = ar.wrap IntKind.u64 (ar.mul z m.r.e) → ∀ (z :
    Int), z = ar.wrap IntKind.u64 (ar.add 0 z_13) → ∀ (z_14 : Int), z_14 = ar.wrap IntKind.u64 (ar.mul z_1 m.r.a) → ∀ (z_15 : Int), z_15 = ar.wrap IntKind.u64 (ar.add z_8 z_14) → ∀
    (z_16 : Int), z_16 = ar.wrap IntKind.u64 (ar.mul z_1 m.r.b) → ∀ (z_17 : Int), z_17 = ar.wrap IntKind.u64 (ar.add z_10 z_16) → ∀ (z_18 : Int), z_18 = ar.wrap IntKind.u64 (ar.mul
    z_1 m.r.c) → ∀ (z_19 : Int), z_19 = ar.wrap IntKind.u64 (ar.add z_12 z_18) → ∀ (z_20 : Int), z_20 = ar.wrap IntKind.u64 (ar.mul z_1 m.r.d) → ∀ (z_21 : Int), z_21 = ar.wrap
    IntKind.u64 (ar.add z z_20) → ∀ (z : Int), z = ar.wrap IntKind.u64 (ar.mul z_1 m.r.e) → ∀ (z_22 : Int), z_22 = ar.wrap IntKind.u64 (ar.mul z 5) → ∀ (z : Int), z = ar.wrap
    IntKind.u64 (ar.add z_6 z_22) → ∀ (z_23 : Int), z_23 = ar.wrap IntKind.u64 (ar.mul z_2 m.r.a) → ∀ (z_24 : Int), z_24 = ar.wrap IntKind.u64 (ar.add z_17 z_23) → ∀ (z_25 : Int),
    z_25 = ar.wrap IntKind.u64 (ar.mul z_2 m.r.b) → ∀ (z_26 : Int), z_26 = ar.wrap IntKind.u64 (ar.add z_19 z_25) → ∀ (z_27 : Int), z_27 = ar.wrap IntKind.u64 (ar.mul z_2 m.r.c) →
    ∀ (z_28 : Int), z_28 = ar.wrap IntKind.u64 (ar.add z_21 z_27) → ∀ (z_29 : Int), z_29 = ar.wrap IntKind.u64 (ar.mul z_2 m.r.d) → ∀ (z_30 : Int), z_30 = ar.wrap IntKind.u64
    (ar.mul z_29 5) → ∀ (z_31 : Int), z_31 = ar.wrap IntKind.u64 (ar.add z z_30) → ∀ (z : Int), z = ar.wrap IntKind.u64 (ar.mul z_2 m.r.e) → ∀ (z_32 : Int), z_32 = ar.wrap
    IntKind.u64 (ar.mul z 5) → ∀ (z : Int), z = ar.wrap IntKind.u64 (ar.add z_15 z_32) → ∀ (z_33 : Int), z_33 = ar.wrap IntKind.u64 (ar.mul z_3 m.r.a) → ∀ (z_34 : Int), z_34 =
    ar.wrap IntKind.u64 (ar.add z_26 z_33) → ∀ (z_35 : Int), z_35 = ar.wrap IntKind.u64 (ar.mul z_3 m.r.b) → ∀ (z_36 : Int), z_36 = ar.wrap IntKind.u64 (ar.add z_28 z_35) → ∀ (z_37
    : Int), z_37 = ar.wrap IntKind.u64 (ar.mul z_3 m.r.c) → ∀ (z_38 : Int), z_38 = ar.wrap IntKind.u64 (ar.mul z_37 5) → ∀ (z_39 : Int), z_39 = ar.wrap IntKind.u64 (ar.add z_31
    z_38) → ∀ (z_40 : Int), z_40 = ar.wrap IntKind.u64 (ar.mul z_3 m.r.d) → ∀ (z_41 : Int), z_41 = ar.wrap IntKind.u64 (ar.mul z_40 5) → ∀ (z_42 : Int), z_42 = ar.wrap IntKind.u64
    (ar.add z z_41) → ∀ (z : Int), z = ar.wrap IntKind.u64 (ar.mul z_3 m.r.e) → ∀ (z_43 : Int), z_43 = ar.wrap IntKind.u64 (ar.mul z 5) → ∀ (z : Int), z = ar.wrap IntKind.u64
    (ar.add z_24 z_43) → ∀ (z_44 : Int), z_44 = ar.wrap IntKind.u64 (ar.mul z_4 m.r.a) → ∀ (z_45 : Int), z_45 = ar.wrap IntKind.u64 (ar.add z_36 z_44) → ∀ (z_46 : Int), z_46 =
    ar.wrap IntKind.u64 (ar.mul z_4 m.r.b) → ∀ (z_47 : Int), z_47 = ar.wrap IntKind.u64 (ar.mul z_46 5) → ∀ (z_48 : Int), z_48 = ar.wrap IntKind.u64 (ar.add z_39 z_47) → ∀ (z_49 :
    Int), z_49 = ar.wrap IntKind.u64 (ar.mul z_4 m.r.c) → ∀ (z_50 : Int), z_50 = ar.wrap IntKind.u64 (ar.mul z_49 5) → ∀ (z_51 : Int), z_51 = ar.wrap IntKind.u64 (ar.add z_42 z_50)
    → ∀ (z_52 : Int), z_52 = ar.wrap IntKind.u64 (ar.mul z_4 m.r.d) → ∀ (z_53 : Int), z_53 = ar.wrap IntKind.u64 (ar.mul z_52 5) → ∀ (z_54 : Int), z_54 = ar.wrap IntKind.u64
    (ar.add z z_53) → ∀ (z : Int), z = ar.wrap IntKind.u64 (ar.mul z_4 m.r.e) → ∀ (z_55 : Int), z_55 = ar.wrap IntKind.u64 (ar.mul z 5) → ∀ (z : Int), z = ar.wrap IntKind.u64
    (ar.add z_34 z_55) → ∃ (x_1 : L5), z_48 = x_1.a ∧ z_51 = x_1.b ∧ z_54 = x_1.c ∧ z = x_1.d ∧ z_45 = x_1.e ∧ x_1.Lt 1152921504606846976 ∧ ∀ (y : L5), PL.carried x_1 y → ∃ (y_1 :
    L5), PL.blocked m x y_1 ∧ y.a = y_1.a ∧ y.b = y_1.b ∧ y.c = y_1.c ∧ y.d = y_1.d ∧ y.e = y_1.e ∧ m.r.a = (m, x).fst.r.a ∧ m.r.b = (m, x).fst.r.b ∧ m.r.c = (m, x).fst.r.c ∧ m.r.d
    = (m, x).fst.r.d ∧ m.r.e = (m, x).fst.r.e ∧ m.s0 = m.s0 ∧ m.s1 = m.s1 ∧ m.rest = m.rest ∧ m.held = m.held ∧ True) := by
  kernel_rfl
end Go.Eng


/- Poly: load: the walks. -/
set_option linter.unusedVariables false
set_option linter.unusedSectionVars false
namespace Go.Eng
variable [CW : CWorld]
open Go.Proofs
open Go.PL (L5 MacS)
set_option maxRecDepth 100000
theorem vc26 (ar : AR) (x : List Int × Int) : (run ar PP noSpec noInv 1000 26 1 (Try.f26.body.getD .skip) ([.ptr 0 (.l 0), .int .u64 (.x x.2)] ++ List.replicate (Try.f26.ntmps - 2) .any) [.mk 52 [.arr (.l 16) [.ints .u8 x.1]]] (endCall ar PP Try.f26.results.toList (loadSpec.fin x))) = (
    ar.le 0 0 ∧ ar.lt 0 (ar.ilen x.fst) ∧ ∀ (z : Int), z = ar.wrap IntKind.u64 (ar.iget x.fst 0) → ∀ (z_1 : Int), z_1 = ar.shl IntKind.u64 z 0 → ∀ (z : Int), z = ar.bor IntKind.u64
    0 z_1 → ar.le 0 1 ∧ ar.lt 1 (ar.ilen x.fst) ∧ ∀ (z_2 : Int), z_2 = ar.wrap IntKind.u64 (ar.iget x.fst 1) → ∀ (z_3 : Int), z_3 = ar.shl IntKind.u64 z_2 8 → ∀ (z_4 : Int), z_4 =
    ar.bor IntKind.u64 z z_3 → ar.le 0 2 ∧ ar.lt 2 (ar.ilen x.fst) ∧ ∀ (z : Int), z = ar.wrap IntKind.u64 (ar.iget x.fst 2) → ∀ (z_5 : Int), z_5 = ar.shl IntKind.u64 z 16 → ∀ (z :
    Int), z = ar.bor IntKind.u64 z_4 z_5 → ar.le 0 3 ∧ ar.lt 3 (ar.ilen x.fst) ∧ ∀ (z_6 : Int), z_6 = ar.wrap IntKind.u64 (ar.iget x.fst 3) → ∀ (z_7 : Int), z_7 = ar.shl
    IntKind.u64 z_6 24 → ∀ (z_8 : Int), z_8 = ar.bor IntKind.u64 z z_7 → ar.le 0 4 ∧ ar.lt 4 (ar.ilen x.fst) ∧ ∀ (z : Int), z = ar.wrap IntKind.u64 (ar.iget x.fst 4) → ∀ (z_9 :
    Int), z_9 = ar.shl IntKind.u64 z 32 → ∀ (z : Int), z = ar.bor IntKind.u64 z_8 z_9 → ar.le 0 5 ∧ ar.lt 5 (ar.ilen x.fst) ∧ ∀ (z_10 : Int), z_10 = ar.wrap IntKind.u64 (ar.iget
    x.fst 5) → ∀ (z_11 : Int), z_11 = ar.shl IntKind.u64 z_10 40 → ∀ (z_12 : Int), z_12 = ar.bor IntKind.u64 z z_11 → ar.le 0 6 ∧ ar.lt 6 (ar.ilen x.fst) ∧ ∀ (z : Int), z = ar.wrap
    IntKind.u64 (ar.iget x.fst 6) → ∀ (z_13 : Int), z_13 = ar.shl IntKind.u64 z 48 → ∀ (z : Int), z = ar.bor IntKind.u64 z_12 z_13 → ar.le 0 7 ∧ ar.lt 7 (ar.ilen x.fst) ∧ ∀ (z_14 :
    Int), z_14 = ar.wrap IntKind.u64 (ar.iget x.fst 7) → ∀ (z_15 : Int), z_15 = ar.shl IntKind.u64 z_14 56 → ∀ (z_16 : Int), z_16 = ar.bor IntKind.u64 z z_15 → ar.le 0 8 ∧ ar.lt 8
    (ar.ilen x.fst) ∧ ∀ (z : Int), z = ar.wrap IntKind.u64 (ar.iget x.fst 8) → ∀ (z_17 : Int), z_17 = ar.shl IntKind.u64 z 0 → ∀ (z : Int), z = ar.bor IntKind.u64 0 z_17 → ar.le 0
    9 ∧ ar.lt 9 (ar.ilen x.fst) ∧ ∀ (z_18 : Int), z_18 = ar.wrap IntKind.u64 (ar.iget x.fst 9) → ∀ (z_19 : Int), z_19 = ar.shl IntKind.u64 z_18 8 → ∀ (z_20 : Int), z_20 = ar.bor
    IntKind.u64 z z_19 → ar.le 0 10 ∧ ar.lt 10 (ar.ilen x.fst) ∧ ∀ (z : Int), z = ar.wrap IntKind.u64 (ar.iget x.fst 10) → ∀ (z_21 : Int), z_21 = ar.shl IntKind.u64 z 16 → ∀ (z :
    Int), z = ar.bor IntKind.u64 z_20 z_21 → ar.le 0 11 ∧ ar.lt 11 (ar.ilen x.fst) ∧ ∀ (z_22 : Int), z_22 = ar.wrap IntKind.u64 (ar.iget x.fst 11) → ∀ (z_23 : Int), z_23 = ar.shl
    IntKind.u64 z_22 24 → ∀ (z_24 : Int), z_24 = ar.bor IntKind.u64 z z_23 → ar.le 0 12 ∧ ar.lt 12 (ar.ilen x.fst) ∧ ∀ (z : Int), z = ar.wrap IntKind.u64 (ar.iget x.fst 12) → ∀
    (z_25 : Int), z_25 = ar.shl IntKind.u64 z 32 → ∀ (z : Int), z = ar.bor IntKind.u64 z_24 z_25 → ar.le 0 13 ∧ ar.lt 13 (ar.ilen x.fst) ∧ ∀ (z_26 : Int), z_26 = ar.wrap
    IntKind.u64 (ar.iget x.fst 13) → ∀ (z_27 : Int), z_27 = ar.shl IntKind.u64 z_26 40 → ∀ (z_28 : Int), z_28 = ar.bor IntKind.u64 z z_27 → ar.le 0 14 ∧ ar.lt 14 (ar.ilen x.fst) ∧
    ∀ (z : Int), z = ar.wrap IntKind.u64 (ar.iget x.fst 14) → ∀ (z_29 : Int), z_29 = ar.shl IntKind.u64 z 48 → ∀ (z : Int), z = ar.bor IntKind.u64 z_28 z_29 → ar.le 0 15 ∧ ar.lt 15
    (ar.ilen x.fst) ∧ ∀ (z_30 : Int), z_30 = ar.wrap IntKind.u64 (ar.iget x.fst 15) → ∀ (z_31 : Int), z_31 = ar.shl IntKind.u64 z_30 56 → ∀ (z_32 : Int), z_32 = ar.bor IntKind.u64
    z z_31 → ∀ (z : Int), z = ar.band IntKind.u64 z_16 67108863 → ∀ (z_33 : Int), z_33 = ar.shr IntKind.u64 z_16 26 → ∀ (z_34 : Int), z_34 = ar.band IntKind.u64 z_33 67108863 → ∀
    (z_35 : Int), z_35 = ar.shr IntKind.u64 z_16 52 → ∀ (z_36 : Int), z_36 = ar.shl IntKind.u64 z_32 12 → ∀ (z_37 : Int), z_37 = ar.bor IntKind.u64 z_35 z_36 → ∀ (z_38 : Int), z_38
    = ar.band IntKind.u64 z_37 67108863 → ∀ (z_39 : Int), z_39 = ar.shr IntKind.u64 z_32 14 → ∀ (z_40 : Int), z_40 = ar.band IntKind.u64 z_39 67108863 → ∀ (z_41 : Int), z_41 =
    ar.shr IntKind.u64 z_32 40 → ∀ (z_42 : Int), z_42 = ar.shl IntKind.u64 x.snd 24 → ∀ (z_43 : Int), z_43 = ar.bor IntKind.u64 z_41 z_42 → ∃ (y : L5), PL.loaded x.fst x.snd y ∧ z
    = y.a ∧ z_34 = y.b ∧ z_38 = y.c ∧ z_40 = y.d ∧ z_43 = y.e ∧ x.fst = x.fst ∧ True) := by
  kernel_rfl
theorem vc26m (ar : AR) (x : MacS × Int) : (run ar PP noSpec noInv 1000 26 1 (Try.f26.body.getD .skip) ([.ptr 0 (.l 12), .int .u64 (.x x.2)] ++ List.replicate (Try.f26.ntmps - 2) .any) [.mk 62 (macSegs x.1)] (endCall ar PP Try.f26.results.toList (loadMacSpec.fin x))) = (
    ar.le 0 0 ∧ ar.lt 0 (ar.ilen x.fst.rest) ∧ ∀ (z : Int), z = ar.wrap IntKind.u64 (ar.iget x.fst.rest 0) → ∀ (z_1 : Int), z_1 = ar.shl IntKind.u64 z 0 → ∀ (z : Int), z = ar.bor
    IntKind.u64 0 z_1 → ar.le 0 1 ∧ ar.lt 1 (ar.ilen x.fst.rest) ∧ ∀ (z_2 : Int), z_2 = ar.wrap IntKind.u64 (ar.iget x.fst.rest 1) → ∀ (z_3 : Int), z_3 = ar.shl IntKind.u64 z_2 8 →
    ∀ (z_4 : Int), z_4 = ar.bor IntKind.u64 z z_3 → ar.le 0 2 ∧ ar.lt 2 (ar.ilen x.fst.rest) ∧ ∀ (z : Int), z = ar.wrap IntKind.u64 (ar.iget x.fst.rest 2) → ∀ (z_5 : Int), z_5 =
    ar.shl IntKind.u64 z 16 → ∀ (z : Int), z = ar.bor IntKind.u64 z_4 z_5 → ar.le 0 3 ∧ ar.lt 3 (ar.ilen x.fst.rest) ∧ ∀ (z_6 : Int), z_6 = ar.wrap IntKind.u64 (ar.iget x.fst.rest
    3) → ∀ (z_7 : Int), z_7 = ar.shl IntKind.u64 z_6 24 → ∀ (z_8 : Int), z_8 = ar.bor IntKind.u64 z z_7 → ar.le 0 4 ∧ ar.lt 4 (ar.ilen x.fst.rest) ∧ ∀ (z : Int), z = ar.wrap
    IntKind.u64 (ar.iget x.fst.rest 4) → ∀ (z_9 : Int), z_9 = ar.shl IntKind.u64 z 32 → ∀ (z : Int), z = ar.bor IntKind.u64 z_8 z_9 → ar.le 0 5 ∧ ar.lt 5 (ar.ilen x.fst.rest) ∧ ∀
    (z_10 : Int), z_10 = ar.wrap IntKind.u64 (ar.iget x.fst.rest 5) → ∀ (z_11 : Int), z_11 = ar.shl IntKind.u64 z_10 40 → ∀ (z_12 : Int), z_12 = ar.bor IntKind.u64 z z_11 → ar.le 0
    6 ∧ ar.lt 6 (ar.ilen x.fst.rest) ∧ ∀ (z : Int), z = ar.wrap IntKind.u64 (ar.iget x.fst.rest 6) → ∀ (z_13 : Int), z_13 = ar.shl IntKind.u64 z 48 → ∀ (z : Int), z = ar.bor
    IntKind.u64 z_12 z_13 → ar.le 0 7 ∧ ar.lt 7 (ar.ilen x.fst.rest) ∧ ∀ (z_14 : Int), z_14 = ar.wrap IntKind.u64 (ar.iget x.fst.rest 7) → ∀ (z_15 : Int), z_15 = ar.shl IntKind.u64
    z_14 56 → ∀ (z_16 : Int), z_16 = ar.bor IntKind.u64 z z_15 → ar.le 0 8 ∧ ar.lt 8 (ar.ilen x.fst.rest) ∧ ∀ (z : Int), z = ar.wrap IntKind.u64 (ar.iget x.fst.rest 8) → ∀ (z_17 :
    Int), z_17 = ar.shl IntKind.u64 z 0 → ∀ (z : Int), z = ar.bor IntKind.u64 0 z_17 → ar.le 0 9 ∧ ar.lt 9 (ar.ilen x.fst.rest) ∧ ∀ (z_18 : Int), z_18 = ar.wrap IntKind.u64
    (ar.iget x.fst.rest 9) → ∀ (z_19 : Int), z_19 = ar.shl IntKind.u64 z_18 8 → ∀ (z_20 : Int), z_20 = ar.bor IntKind.u64 z z_19 → ar.le 0 10 ∧ ar.lt 10 (ar.ilen x.fst.rest) ∧ ∀ (z
    : Int), z = ar.wrap IntKind.u64 (ar.iget x.fst.rest 10) → ∀ (z_21 : Int), z_21 = ar.shl IntKind.u64 z 16 → ∀ (z : Int), z = ar.bor IntKind.u64 z_20 z_21 → ar.le 0 11 ∧ ar.lt 11
    (ar.ilen x.fst.rest) ∧ ∀ (z_22 : Int), z_22 = ar.wrap IntKind.u64 (ar.iget x.fst.rest 11) → ∀ (z_23 : Int), z_23 = ar.shl IntKind.u64 z_22 24 → ∀ (z_24 : Int), z_24 = ar.bor
    IntKind.u64 z z_23 → ar.le 0 12 ∧ ar.lt 12 (ar.ilen x.fst.rest) ∧ ∀ (z : Int), z = ar.wrap IntKind.u64 (ar.iget x.fst.rest 12) → ∀ (z_25 : Int), z_25 = ar.shl IntKind.u64 z 32
    → ∀ (z : Int), z = ar.bor IntKind.u64 z_24 z_25 → ar.le 0 13 ∧ ar.lt 13 (ar.ilen x.fst.rest) ∧ ∀ (z_26 : Int), z_26 = ar.wrap IntKind.u64 (ar.iget x.fst.rest 13) → ∀ (z_27 :
    Int), z_27 = ar.shl IntKind.u64 z_26 40 → ∀ (z_28 : Int), z_28 = ar.bor IntKind.u64 z z_27 → ar.le 0 14 ∧ ar.lt 14 (ar.ilen x.fst.rest) ∧ ∀ (z : Int), z = ar.wrap IntKind.u64
    (ar.iget x.fst.rest 14) → ∀ (z_29 : Int), z_29 = ar.shl IntKind.u64 z 48 → ∀ (z : Int), z = ar.bor IntKind.u64 z_28 z_29 → ar.le 0 15 ∧ ar.lt 15 (ar.ilen x.fst.rest) ∧ ∀ (z_30
    : Int), z_30 = ar.wrap IntKind.u64 (ar.iget x.fst.rest 15) → ∀ (z_31 : Int), z_31 = ar.shl IntKind.u64 z_30 56 → ∀ (z_32 : Int), z_32 = ar.bor IntKind.u64 z z_31 → ∀ (z : Int),
    z = ar.band IntKind.u64 z_16 67108863 → ∀ (z_33 : Int), z_33 = ar.shr IntKind.u64 z_16 26 → ∀ (z_34 : Int), z_34 = ar.band IntKind.u64 z_33 67108863 → ∀ (z_35 : Int), z_35 =
    ar.shr IntKind.u64 z_16 52 → ∀ (z_36 : Int), z_36 = ar.shl IntKind.u64 z_32 12 → ∀ (z_37 : Int), z_37 = ar.bor IntKind.u64 z_35 z_36 → ∀ (z_38 : Int), z_38 = ar.band
    IntKind.u64 z_37 67108863 → ∀ (z_39 : Int), z_39 = ar.shr IntKind.u64 z_32 14 → ∀ (z_40 : Int), z_40 = ar.band IntKind.u64 z_39 67108863 → ∀ (z_41 : Int), z_41 = ar.shr
    IntKind.u64 z_32 40 → ∀ (z_42 : Int), z_42 = ar.shl IntKind.u64 x.snd 24 → ∀ (z_43 : Int), z_43 = ar.bor IntKind.u64 z_41 z_42 → ∃ (y : L5), PL.loaded x.fst.rest x.snd y ∧ z =
    y.a ∧ z_34 = y.b ∧ z_38 = y.c ∧ z_40 = y.d ∧ z_43 = y.e ∧ x.fst.acc.a = x.fst.acc.a ∧ x.fst.acc.b = x.fst.acc.b ∧ x.fst.acc.c = x.fst.acc.c ∧ x.fst.acc.d = x.fst.acc.d ∧
    x.fst.acc.e = x.fst.acc.e ∧ x.fst.r.a = x.fst.r.a ∧ x.fst.r.b = x.fst.r.b ∧ x.fst.r.c = x.fst.r.c ∧ x.fst.r.d = x.fst.r.d ∧ x.fst.r.e = x.fst.r.e ∧ x.fst.s0 = x.fst.s0 ∧
    x.fst.s1 = x.fst.s1 ∧ x.fst.rest = x.fst.rest ∧ x.fst.held = x.fst.held ∧ True) := by
  kernel_rfl
end Go.Eng


/- Poly: carry, reduced: the contracts hold. -/
set_option linter.unusedSimpArgs false
set_option linter.unusedVariables false
set_option maxRecDepth 100000
set_option linter.unusedSectionVars false
namespace Go.Eng
variable [CW : CWorld]
open Go.Proofs
open Go.PL (L5 MacS)

/-- A number in two parts. -/
structure Cut (x q r : Int) : Prop where
  eq : x = 67108864 * q + r
  r0 : 0 ≤ r
  r1 : r < 67108864
theorem cut_of {x q r : Int} (hq : q = x / 67108864) (hr : r = x % 67108864) : Cut x q r := ⟨by omega, by omega, by omega⟩
theorem Cut.q0 {x q r : Int} (h : Cut x q r) (h0 : 0 ≤ x) : 0 ≤ q := by
  obtain ⟨e, a, b⟩ := h; omega
theorem Cut.le {x q r : Int} (h : Cut x q r) {n : Int} (hx : x < 67108864 * (n + 1)) : q ≤ n := by
  obtain ⟨e, a, b⟩ := h; omega
theorem Cut.zero {x q r : Int} (h : Cut x q r) (h0 : 0 ≤ x) (hx : x < 67108864) : q = 0 ∧ r = x := by
  obtain ⟨e, a, b⟩ := h; omega
theorem Cut.one {x q r : Int} (h : Cut x q r) (hx : x = 67108864) : q = 1 ∧ r = 0 := by
  obtain ⟨e, a, b⟩ := h; omega

theorem carry_val {a b c d e q0 r0 q1 r1 q2 r2 q3 r3 q4 r4 q5 r5 : Int} (h0 : a = 67108864 * q0 + r0) (h1 : b + q0 = 67108864 * q1 + r1) (h2 : c + q1 = 67108864 * q2 + r2)
    (h3 : d + q2 = 67108864 * q3 + r3) (h4 : e + q3 = 67108864 * q4 + r4) (h5 : r0 + q4 * 5 = 67108864 * q5 + r5) :
    r5 + 67108864 * (r1 + q5) + 4503599627370496 * r2 + 302231454903657293676544 * r3 + 20282409603651670423947251286016 * r4 =
      a + 67108864 * b + 4503599627370496 * c + 302231454903657293676544 * d + 20282409603651670423947251286016 * e - 1361129467683753853853498429727072845819 * q4 := by
  omega

theorem carry_first {a b c d e q0 r0 q1 r1 q2 r2 q3 r3 q4 r4 q5 r5 : Int} (h0 : Cut a q0 r0) (h1 : Cut (b + q0) q1 r1) (h2 : Cut (c + q1) q2 r2)
    (h3 : Cut (d + q2) q3 r3) (h4 : Cut (e + q3) q4 r4) (h5 : Cut (r0 + q4 * 5) q5 r5) (ha : a < 134217728) (hb : b < 134217728) (hc : c < 134217728) (hd : d < 134217728) (he : e < 134217728) :
    r1 + q5 ≤ 67108864 ∧ (r1 + q5 = 67108864 → r5 < 16) := by
  have i0 : q0 ≤ 1 := h0.le (by omega)
  have i1 : q1 ≤ 2 := h1.le (by omega)
  have i2 : q2 ≤ 2 := h2.le (by omega)
  have i3 : q3 ≤ 2 := h3.le (by omega)
  have i4 : q4 ≤ 2 := h4.le (by omega)
  have k0 := h0.r1
  have i5 : q5 ≤ 1 := h5.le (by omega)
  have k1 := h1.r1
  refine ⟨by omega, fun hx => ?_⟩
  have e5 := h5.eq
  have : q5 = 1 := by omega
  subst this
  omega

theorem carry_then {a b c d e q0 r0 q1 r1 q2 r2 q3 r3 q4 r4 q5 r5 : Int} (h0 : Cut a q0 r0) (h1 : Cut (b + q0) q1 r1) (h2 : Cut (c + q1) q2 r2)
    (h3 : Cut (d + q2) q3 r3) (h4 : Cut (e + q3) q4 r4) (h5 : Cut (r0 + q4 * 5) q5 r5) (a0 : 0 ≤ a) (ha : a < 67108864) (b0 : 0 ≤ b) (hb : b ≤ 67108864) (hb' : b = 67108864 → a < 16)
    (c0 : 0 ≤ c) (hc : c < 67108864) (d0 : 0 ≤ d) (hd : d < 67108864) (e0 : 0 ≤ e) (he : e < 67108864) : r1 + q5 < 67108864 := by
  obtain ⟨rfl, rfl⟩ := h0.zero a0 ha
  rw [Int.add_zero] at h1
  by_cases hx : b = 67108864
  · obtain ⟨rfl, rfl⟩ := h1.one hx
    have i2 : q2 ≤ 1 := h2.le (by omega)
    have i3 : q3 ≤ 1 := h3.le (by omega)
    have i4 : q4 ≤ 1 := h4.le (by omega)
    have := hb' hx
    have i5 : q5 ≤ 0 := h5.le (by omega)
    omega
  · obtain ⟨rfl, rfl⟩ := h1.zero b0 (by omega)
    rw [Int.add_zero] at h2
    obtain ⟨rfl, rfl⟩ := h2.zero c0 hc
    rw [Int.add_zero] at h3
    obtain ⟨rfl, rfl⟩ := h3.zero d0 hd
    rw [Int.add_zero] at h4
    obtain ⟨rfl, rfl⟩ := h4.zero e0 he
    rw [Int.zero_mul, Int.add_zero] at h5
    obtain ⟨rfl, rfl⟩ := h5.zero a0 ha
    omega

theorem carrySpec_ok : carrySpec.OK PP 37 := by
  refine Spec.ok_of_run (fn := Try.f37) (c := Try.f37.body.getD .skip) (by kernel_rfl) (by kernel_rfl) (by kernel_rfl) noSpec_ok (fun _ => noInv) 1000 ?_
  rintro x ⟨⟨a0, a1⟩, ⟨b0, b1⟩, ⟨c0, c1⟩, ⟨d0, d1⟩, e0, e1⟩
  refine (vc37 ar0 x).mpr ?_
  intro z hz z1 hz1 z' hz' z2 hz2 z3 hz3 z4 hz4 z5 hz5 z6 hz6 z7 hz7 z8 hz8 z9 hz9 z10 hz10 z11 hz11 z12 hz12 z13 hz13 z'' hz'' z14 hz14 z15 hz15 z16 hz16
  rw [u64_shr26 a0] at hz
  rw [u64_low26 a0 (Int.lt_trans a1 (by decide))] at hz'
  have k0 := cut_of hz hz'
  clear hz hz'
  have p0 := k0.q0 a0
  have l0 : z ≤ 17179869183 := k0.le (by omega)
  rw [u64_add (by omega) (by omega)] at hz1
  subst hz1
  rw [u64_shr26 (by omega)] at hz2
  rw [u64_low26 (by omega) (by omega)] at hz4
  have k1 := cut_of hz2 hz4
  clear hz2 hz4
  have p1 := k1.q0 (by omega)
  have l1 : z2 ≤ 17179880000 := k1.le (by omega)
  rw [u64_add (by omega) (by omega)] at hz3
  subst hz3
  rw [u64_shr26 (by omega)] at hz5
  rw [u64_low26 (by omega) (by omega)] at hz7
  have k2 := cut_of hz5 hz7
  clear hz5 hz7
  have p2 := k2.q0 (by omega)
  have l2 : z5 ≤ 17179880000 := k2.le (by omega)
  rw [u64_add (by omega) (by omega)] at hz6
  subst hz6
  rw [u64_shr26 (by omega)] at hz8
  rw [u64_low26 (by omega) (by omega)] at hz10
  have k3 := cut_of hz8 hz10
  clear hz8 hz10
  have p3 := k3.q0 (by omega)
  have l3 : z8 ≤ 17179880000 := k3.le (by omega)
  rw [u64_add (by omega) (by omega)] at hz9
  subst hz9
  rw [u64_shr26 (by omega)] at hz11
  rw [u64_low26 (by omega) (by omega)] at hz''
  have k4 := cut_of hz11 hz''
  clear hz11 hz''
  have p4 := k4.q0 (by omega)
  have l4 : z11 ≤ 17179880000 := k4.le (by omega)
  rw [u64_mul (by omega) (by omega)] at hz12
  subst hz12
  have r00 := k0.r0
  have r01 := k0.r1
  rw [u64_add (by omega) (by omega)] at hz13
  subst hz13
  rw [u64_shr26 (by omega)] at hz14
  rw [u64_low26 (by omega) (by omega)] at hz16
  have k5 := cut_of hz14 hz16
  clear hz14 hz16
  have p5 := k5.q0 (by omega)
  have l5 : z14 ≤ 1300 := k5.le (by omega)
  have r10 := k1.r0
  have r11 := k1.r1
  rw [u64_add (by omega) (by omega)] at hz15
  subst hz15
  refine ⟨⟨z16, z4 + z14, z7, z10, z''⟩, ⟨⟨⟨k5.r0, ?_⟩, ⟨?_, ?_⟩, ⟨k2.r0, ?_⟩, ⟨k3.r0, ?_⟩, k4.r0, ?_⟩, ⟨z11, carry_val k0.eq k1.eq k2.eq k3.eq k4.eq k5.eq⟩, ?_, ?_⟩, rfl, rfl, rfl, rfl, rfl, trivial⟩
  · exact Int.lt_trans k5.r1 (by decide)
  · simp only; omega
  · simp only; omega
  · exact Int.lt_trans k2.r1 (by decide)
  · exact Int.lt_trans k3.r1 (by decide)
  · exact Int.lt_trans k4.r1 (by decide)
  · rintro ⟨⟨_, a1⟩, ⟨_, b1⟩, ⟨_, c1⟩, ⟨_, d1⟩, _, e1⟩
    obtain ⟨f1, f2⟩ := carry_first k0 k1 k2 k3 k4 k5 a1 b1 c1 d1 e1
    exact ⟨⟨k5.r0, k5.r1⟩, ⟨by simp only; omega, f1, f2⟩, ⟨k2.r0, k2.r1⟩, ⟨k3.r0, k3.r1⟩, k4.r0, k4.r1⟩
  · rintro ⟨⟨a0, a1⟩, ⟨b0, b1, b2⟩, ⟨c0, c1⟩, ⟨d0, d1⟩, e0, e1⟩
    exact ⟨⟨k5.r0, k5.r1⟩, ⟨by simp only; omega, carry_then k0 k1 k2 k3 k4 k5 a0 a1 b0 b1 b2 c0 c1 d0 d1 e0 e1⟩, ⟨k2.r0, k2.r1⟩, ⟨k3.r0, k3.r1⟩, k4.r0, k4.r1⟩

end Go.Eng

/- Poly: reduced: the contract holds. -/
set_option linter.unusedSimpArgs false
set_option linter.unusedVariables false
set_option maxRecDepth 100000
set_option linter.unusedSectionVars false
namespace Go.Eng
variable [CW : CWorld]
open Go.Proofs
open Go.PL (L5 MacS)

theorem red_val {a b c d e q0 r0 q1 r1 q2 r2 q3 r3 q4 r4 : Int} (h0 : a + 5 = 67108864 * q0 + r0) (h1 : b + q0 = 67108864 * q1 + r1) (h2 : c + q1 = 67108864 * q2 + r2)
    (h3 : d + q2 = 67108864 * q3 + r3) (h4 : e + q3 = 67108864 * q4 + r4) :
    r0 + 67108864 * r1 + 4503599627370496 * r2 + 302231454903657293676544 * r3 + 20282409603651670423947251286016 * r4 =
      a + 67108864 * b + 4503599627370496 * c + 302231454903657293676544 * d + 20282409603651670423947251286016 * e + 5 - 1361129467683753853853498429727072845824 * q4 := by
  omega

theorem L5.bounds {x : L5} (h : x.lt 67108864) : 0 ≤ x.val ∧ x.val < 1361129467683753853853498429727072845824 := by
  obtain ⟨⟨a0, a1⟩, ⟨b0, b1⟩, ⟨c0, c1⟩, ⟨d0, d1⟩, e0, e1⟩ := h
  unfold PL.L5.val
  constructor <;> omega

theorem emod_of {v x k : Int} (h : v = x - PL.PQ * k) (h0 : 0 ≤ v) (h1 : v < PL.PQ) : v = x % PL.PQ := by
  have : x = v + PL.PQ * k := by omega
  rw [this, Int.add_mul_emod_self_left, Int.emod_eq_of_lt h0 h1]

theorem cSpecs_ok : SpecsOK PP cSpecs := by
  intro f _ _ S h
  unfold cSpecs at h
  split at h
  · cases h; exact carrySpec_ok
  · cases h

theorem reducedSpec_ok : reducedSpec.OK PP 30 := by
  refine Spec.ok_of_run (fn := Try.f30) (c := Try.f30.body.getD .skip) (by kernel_rfl) (by kernel_rfl) (by kernel_rfl) cSpecs_ok (fun _ => noInv) 1000 ?_
  rintro x ⟨hx⟩
  refine (vc30 ar0 x).mpr ?_
  refine ⟨x, rfl, rfl, rfl, rfl, rfl, ⟨?_⟩, fun y1 hy1 => ?_⟩
  · obtain ⟨⟨a0, a1⟩, ⟨b0, b1⟩, ⟨c0, c1⟩, ⟨d0, d1⟩, e0, e1⟩ := hx
    exact ⟨⟨a0, by omega⟩, ⟨b0, by omega⟩, ⟨c0, by omega⟩, ⟨d0, by omega⟩, e0, by omega⟩
  refine ⟨y1, rfl, rfl, rfl, rfl, rfl, ⟨?_⟩, fun y hy => ?_⟩
  · obtain ⟨⟨a0, a1⟩, ⟨b0, b1⟩, ⟨c0, c1⟩, ⟨d0, d1⟩, e0, e1⟩ := hy1.lt
    exact ⟨⟨a0, by omega⟩, ⟨b0, by omega⟩, ⟨c0, by omega⟩, ⟨d0, by omega⟩, e0, by omega⟩
  have hlt := hy.then' (hy1.first hx)
  obtain ⟨n1, hk1⟩ := hy1.val
  obtain ⟨n2, hk2⟩ := hy.val
  have hval : y.val = x.val - PL.PQ * (n1 + n2) := by
    rw [hk2, hk1, Int.mul_add]; omega
  have hbd := L5.bounds hlt
  obtain ⟨⟨a0, a1⟩, ⟨b0, b1⟩, ⟨c0, c1⟩, ⟨d0, d1⟩, e0, e1⟩ := hlt
  intro z hz z1 hz1 z2 hz2 z3 hz3 z4 hz4 z5 hz5 z6 hz6 z7 hz7 z8 hz8 z9 hz9 z10 hz10 z11 hz11 z12 hz12 z13 hz13
  rw [u64_add (by omega) (by omega)] at hz
  subst hz
  rw [u64_shr26 (by omega)] at hz1
  rw [u64_low26 (by omega) (by omega)] at hz3
  have k0 := cut_of hz1 hz3
  clear hz1 hz3
  have p0 := k0.q0 (by omega)
  have l0 : z1 ≤ 1 := k0.le (by omega)
  rw [u64_add (by omega) (by omega)] at hz2
  subst hz2
  rw [u64_shr26 (by omega)] at hz4
  rw [u64_low26 (by omega) (by omega)] at hz6
  have k1 := cut_of hz4 hz6
  clear hz4 hz6
  have p1 := k1.q0 (by omega)
  have l1 : z4 ≤ 1 := k1.le (by omega)
  rw [u64_add (by omega) (by omega)] at hz5
  subst hz5
  rw [u64_shr26 (by omega)] at hz7
  rw [u64_low26 (by omega) (by omega)] at hz9
  have k2 := cut_of hz7 hz9
  clear hz7 hz9
  have p2 := k2.q0 (by omega)
  have l2 : z7 ≤ 1 := k2.le (by omega)
  rw [u64_add (by omega) (by omega)] at hz8
  subst hz8
  rw [u64_shr26 (by omega)] at hz10
  rw [u64_low26 (by omega) (by omega)] at hz12
  have k3 := cut_of hz10 hz12
  clear hz10 hz12
  have p3 := k3.q0 (by omega)
  have l3 : z10 ≤ 1 := k3.le (by omega)
  rw [u64_add (by omega) (by omega)] at hz11
  subst hz11
  rw [u64_shr26 (by omega)] at hz13
  have hr : y.e + z10 = 67108864 * z13 + (y.e + z10) % 67108864 := by omega
  have hr0 : 0 ≤ (y.e + z10) % 67108864 := by omega
  have hr1 : (y.e + z10) % 67108864 < 67108864 := by omega
  have hv := red_val k0.eq k1.eq k2.eq k3.eq hr
  have hb := L5.bounds (x := ⟨z3, z6, z9, z12, (y.e + z10) % 67108864⟩) ⟨⟨k0.r0, k0.r1⟩, ⟨k1.r0, k1.r1⟩, ⟨k2.r0, k2.r1⟩, ⟨k3.r0, k3.r1⟩, hr0, hr1⟩
  have hq : z13 = 0 ∨ z13 = 1 := by
    have : z13 ≤ 1 := by omega
    have : 0 ≤ z13 := by omega
    omega
  have hv' : PL.L5.val ⟨z3, z6, z9, z12, (y.e + z10) % 67108864⟩ = y.val + 5 - 1361129467683753853853498429727072845824 * z13 := hv
  have hPQ : PL.PQ = 1361129467683753853853498429727072845819 := rfl
  refine ⟨fun h0 => ⟨y, ⟨⟨⟨a0, a1⟩, ⟨b0, b1⟩, ⟨c0, c1⟩, ⟨d0, d1⟩, e0, e1⟩, emod_of hval hbd.1 ?_⟩, rfl, rfl, rfl, rfl, rfl, trivial⟩, fun h0 z14 hz14 => ?_⟩
  · have h0 : z13 = 0 := h0
    rw [h0] at hv'
    omega
  · have h1 : z13 = 1 := by
      rcases hq with h | h
      · exact absurd h h0
      · exact h
    rw [u64_low26 (by omega) (by omega)] at hz14
    subst hz14
    rw [h1] at hv'
    refine ⟨⟨z3, z6, z9, z12, (y.e + z10) % 67108864⟩, ⟨⟨⟨k0.r0, k0.r1⟩, ⟨k1.r0, k1.r1⟩, ⟨k2.r0, k2.r1⟩, ⟨k3.r0, k3.r1⟩, hr0, hr1⟩, emod_of (k := n1 + n2 + 1) ?_ hb.1 ?_⟩, rfl, rfl, rfl, rfl, rfl, trivial⟩
    · rw [hv', hval, Int.mul_add, Int.mul_add, Int.mul_add]
      omega
    · omega

end Go.Eng

/- Poly: load: the contracts hold. -/
set_option linter.unusedSimpArgs false
set_option linter.unusedVariables false
set_option maxRecDepth 100000
set_option linter.unusedSectionVars false
namespace Go.Eng
variable [CW : CWorld]
open Go.Proofs
open Go.PL (L5 MacS)

/-- Bits above: or is plus. -/
theorem or_add {n m : Nat} (k : Nat) (h : n < 2 ^ k) : n ||| m * 2 ^ k = n + m * 2 ^ k := by
  rw [Nat.or_comm, Nat.mul_comm, ← Nat.two_pow_add_eq_or_of_lt h, Nat.add_comm]

theorem u64_or_add {x y : Int} (k : Nat) (hx0 : 0 ≤ x) (hx1 : x < 2 ^ k) (hy0 : 0 ≤ y) (hk : k < 64) (hy1 : y * 2 ^ k < 18446744073709551616) : ar0.bor .u64 x (y * 2 ^ k) = x + y * 2 ^ k := by
  obtain ⟨n, rfl⟩ := Int.eq_ofNat_of_zero_le hx0
  obtain ⟨m, rfl⟩ := Int.eq_ofNat_of_zero_le hy0
  have e : ((m : Int) * 2 ^ k) = ((m * 2 ^ k : Nat) : Int) := by rw [Int.natCast_mul, Int.natCast_pow]; rfl
  have hn : n < 2 ^ k := by
    have : ((n : Nat) : Int) < ((2 ^ k : Nat) : Int) := by rw [Int.natCast_pow]; exact hx1
    exact Int.ofNat_lt.1 this
  rw [e] at hy1 ⊢
  have h2 : 2 ^ k ≤ 2 ^ 63 := Nat.pow_le_pow_right (by omega) (by omega)
  rw [bor_u64 (by omega) (by omega), or_add k hn, Int.natCast_add]

theorem word_step {n b z z1 z2 k : Int} (i : Nat) (p : Int) (hp : p = 2 ^ (8 * i)) (hi : i < 8) (hk : k = (8 * i : Nat)) (h0 : 0 ≤ n) (h1 : n < p) (hb : 0 ≤ b ∧ b < 256)
    (hz : z = ar0.wrap .u64 b) (hz1 : z1 = ar0.shl .u64 z k) (hz2 : z2 = ar0.bor .u64 n z1) : z2 = n + b * p ∧ 0 ≤ z2 ∧ z2 < 256 * p := by
  have hpp : 1 ≤ p := by omega
  have hzb : z = b := by
    rw [hz]
    show IntKind.u64.wrap b = b
    rw [wrap_u64]; omega
  have hp2 : p ≤ 72057594037927936 := by
    rw [hp]
    have : (2 : Int) ^ (8 * i) = ((2 ^ (8 * i) : Nat) : Int) := by rw [Int.natCast_pow]; rfl
    rw [this]
    have h2 : 2 ^ (8 * i) ≤ 2 ^ 56 := Nat.pow_le_pow_right (by omega) (by omega)
    omega
  have hbp : b * p ≤ 255 * p := Int.mul_le_mul_of_nonneg_right (by omega) (by omega)
  have hbp0 : 0 ≤ b * p := Int.mul_nonneg hb.1 (by omega)
  have e1 : z1 = b * p := by
    rw [hz1, hzb]
    show IntKind.u64.wrap (b * 2 ^ (min k.toNat 64)) = _
    rw [hk, Int.toNat_natCast, Nat.min_eq_left (by omega), ← hp, wrap_u64]
    omega
  have e2 : z2 = n + b * p := by
    rw [hz2, e1, hp]
    exact u64_or_add (8 * i) h0 (hp ▸ h1) hb.1 (by omega) (by rw [← hp]; omega)
  refine ⟨e2, ?_, ?_⟩ <;> rw [e2] <;> omega

/-- Two words cut into limbs. -/
theorem load_limbs {lo hi n z1 z2 z3 z4 z5 z6 z7 z8 z9 z10 z11 z12 : Int} (hl0 : 0 ≤ lo) (hl1 : lo < 18446744073709551616) (hh0 : 0 ≤ hi) (hh1 : hi < 18446744073709551616) (hn : n = 0 ∨ n = 1)
    (h1 : z1 = ar0.band .u64 lo 67108863) (h2 : z2 = ar0.shr .u64 lo 26) (h3 : z3 = ar0.band .u64 z2 67108863) (h4 : z4 = ar0.shr .u64 lo 52) (h5 : z5 = ar0.shl .u64 hi 12)
    (h6 : z6 = ar0.bor .u64 z4 z5) (h7 : z7 = ar0.band .u64 z6 67108863) (h8 : z8 = ar0.shr .u64 hi 14) (h9 : z9 = ar0.band .u64 z8 67108863) (h10 : z10 = ar0.shr .u64 hi 40)
    (h11 : z11 = ar0.shl .u64 n 24) (h12 : z12 = ar0.bor .u64 z10 z11) :
    L5.lt ⟨z1, z3, z7, z9, z12⟩ 67108864 ∧ L5.val ⟨z1, z3, z7, z9, z12⟩ = lo + hi * 18446744073709551616 + n * 340282366920938463463374607431768211456 := by
  have e1 : z1 = lo % 67108864 := by rw [h1, u64_low26 hl0 hl1]
  have e2 : z2 = lo / 67108864 := by rw [h2, u64_shr26 hl0]
  have e3 : z3 = z2 % 67108864 := by rw [h3, u64_low26 (by omega) (by omega)]
  have e4 : z4 = lo / 4503599627370496 := by rw [h4, u64_shr hl0 (by omega) (by omega)]; rfl
  have e8 : z8 = hi / 16384 := by rw [h8, u64_shr hh0 (by omega) (by omega)]; rfl
  have e9 : z9 = z8 % 67108864 := by rw [h9, u64_low26 (by omega) (by omega)]
  have e10 : z10 = hi / 1099511627776 := by rw [h10, u64_shr hh0 (by omega) (by omega)]; rfl
  have e5 : z5 = (hi % 4503599627370496) * 2 ^ 12 := by
    rw [h5]
    show IntKind.u64.wrap (hi * 2 ^ 12) = _
    rw [wrap_u64, show (2 : Int) ^ 12 = 4096 by decide]
    omega
  have e6 : z6 = z4 + (hi % 4503599627370496) * 2 ^ 12 := by
    rw [h6, e5]
    refine u64_or_add 12 (by omega) ?_ (by omega) (by omega) ?_
    · rw [show (2 : Int) ^ 12 = 4096 by decide]; omega
    · rw [show (2 : Int) ^ 12 = 4096 by decide]; omega
  rw [show (2 : Int) ^ 12 = 4096 by decide] at e6
  have e7 : z7 = z6 % 67108864 := by rw [h7, u64_low26 (by omega) (by omega)]
  have e11 : z11 = n * 2 ^ 24 := by
    rw [h11]
    show IntKind.u64.wrap (n * 2 ^ 24) = _
    rw [wrap_u64, show (2 : Int) ^ 24 = 16777216 by decide]
    omega
  have e12 : z12 = z10 + n * 2 ^ 24 := by
    rw [h12, e11]
    refine u64_or_add 24 (by omega) ?_ (by omega) (by omega) ?_
    · rw [show (2 : Int) ^ 24 = 16777216 by decide]; omega
    · rw [show (2 : Int) ^ 24 = 16777216 by decide]; omega
  rw [show (2 : Int) ^ 24 = 16777216 by decide] at e12
  clear h1 h2 h3 h4 h5 h6 h7 h8 h9 h10 h11 h12 e5 e11
  refine ⟨⟨⟨?_, ?_⟩, ⟨?_, ?_⟩, ⟨?_, ?_⟩, ⟨?_, ?_⟩, ?_, ?_⟩, ?_⟩
  · simp only; omega
  · simp only; omega
  · simp only; omega
  · simp only; omega
  · simp only; omega
  · simp only; omega
  · simp only; omega
  · simp only; omega
  · simp only; omega
  · simp only; omega
  · unfold PL.L5.val
    simp only
    omega

end Go.Eng

/- Poly: load: the contracts hold. -/
set_option linter.unusedSimpArgs false
set_option linter.unusedVariables false
set_option maxRecDepth 100000
set_option linter.unusedSectionVars false
namespace Go.Eng
variable [CW : CWorld]
open Go.Proofs
open Go.PL (L5 MacS)

theorem bytes_get {l : List Int} (h : ∀ x ∈ l, 0 ≤ x ∧ x < 256) {i : Nat} (hi : i < l.length) : 0 ≤ l.getD i 0 ∧ l.getD i 0 < 256 := by
  have : l.getD i 0 = l[i] := by simp [List.getD, List.getElem?_eq_getElem hi]
  rw [this]
  exact h _ (List.getElem_mem hi)
theorem leI_succ {l : List Int} {n : Nat} (h : l.length = n + 1) : PL.leI l = l.getD 0 0 + 256 * PL.leI (l.drop 1) := by
  cases l with
  | nil => simp at h
  | cons b l => rfl
theorem leI16 {l : List Int} (h : l.length = 16) : PL.leI l = l.getD 0 0 * 1 + l.getD 1 0 * 256 + l.getD 2 0 * 65536 + l.getD 3 0 * 16777216 + l.getD 4 0 * 4294967296 + l.getD 5 0 * 1099511627776 + l.getD 6 0 * 281474976710656 + l.getD 7 0 * 72057594037927936 + l.getD 8 0 * 18446744073709551616 + l.getD 9 0 * 4722366482869645213696 + l.getD 10 0 * 1208925819614629174706176 + l.getD 11 0 * 309485009821345068724781056 + l.getD 12 0 * 79228162514264337593543950336 + l.getD 13 0 * 20282409603651670423947251286016 + l.getD 14 0 * 5192296858534827628530496329220096 + l.getD 15 0 * 1329227995784915872903807060280344576 := by
  match l, h with
  | [b0, b1, b2, b3, b4, b5, b6, b7, b8, b9, b10, b11, b12, b13, b14, b15], _ =>
    simp only [PL.leI, List.getD_cons_zero, List.getD_cons_succ]
    omega

theorem loadSpec_ok : loadSpec.OK PP 26 := by
  refine Spec.ok_of_run (fn := Try.f26) (c := Try.f26.body.getD .skip) (by kernel_rfl) (by kernel_rfl) (by kernel_rfl) noSpec_ok (fun _ => noInv) 1000 ?_
  rintro ⟨l, n⟩ ⟨hlen, ⟨hbs⟩, hn⟩
  refine (vc26 ar0 _).mpr ?_
  replace hlen : l.length = 16 := hlen
  have hb : ∀ i : Nat, i < 16 → 0 ≤ l.getD i 0 ∧ l.getD i 0 < 256 := fun i hi => bytes_get hbs (by rw [hlen]; exact hi)
  have hle : ∀ i : Nat, ar0.le 0 (i : Int) := fun i => Int.natCast_nonneg i
  have hlt : ∀ i : Nat, i < 16 → ar0.lt (i : Int) (ar0.ilen l) := fun i hi => by show (i : Int) < (l.length : Int); omega
  refine ⟨hle 0, hlt 0 (by decide), ?_⟩
  intro xa0 hxa0 ya0 hya0 a0 ha0
  have sa0 := word_step (n := 0) 0 1 (by decide) (by decide) (by decide) (Int.le_refl 0) (by decide) (hb 0 (by decide)) hxa0 hya0 ha0
  refine ⟨hle 1, hlt 1 (by decide), ?_⟩
  intro xa1 hxa1 ya1 hya1 a1 ha1
  have sa1 := word_step (n := a0) 1 256 (by decide) (by decide) (by decide) (sa0.2.1) (by have := sa0.2.2; omega) (hb 1 (by decide)) hxa1 hya1 ha1
  refine ⟨hle 2, hlt 2 (by decide), ?_⟩
  intro xa2 hxa2 ya2 hya2 a2 ha2
  have sa2 := word_step (n := a1) 2 65536 (by decide) (by decide) (by decide) (sa1.2.1) (by have := sa1.2.2; omega) (hb 2 (by decide)) hxa2 hya2 ha2
  refine ⟨hle 3, hlt 3 (by decide), ?_⟩
  intro xa3 hxa3 ya3 hya3 a3 ha3
  have sa3 := word_step (n := a2) 3 16777216 (by decide) (by decide) (by decide) (sa2.2.1) (by have := sa2.2.2; omega) (hb 3 (by decide)) hxa3 hya3 ha3
  refine ⟨hle 4, hlt 4 (by decide), ?_⟩
  intro xa4 hxa4 ya4 hya4 a4 ha4
  have sa4 := word_step (n := a3) 4 4294967296 (by decide) (by decide) (by decide) (sa3.2.1) (by have := sa3.2.2; omega) (hb 4 (by decide)) hxa4 hya4 ha4
  refine ⟨hle 5, hlt 5 (by decide), ?_⟩
  intro xa5 hxa5 ya5 hya5 a5 ha5
  have sa5 := word_step (n := a4) 5 1099511627776 (by decide) (by decide) (by decide) (sa4.2.1) (by have := sa4.2.2; omega) (hb 5 (by decide)) hxa5 hya5 ha5
  refine ⟨hle 6, hlt 6 (by decide), ?_⟩
  intro xa6 hxa6 ya6 hya6 a6 ha6
  have sa6 := word_step (n := a5) 6 281474976710656 (by decide) (by decide) (by decide) (sa5.2.1) (by have := sa5.2.2; omega) (hb 6 (by decide)) hxa6 hya6 ha6
  refine ⟨hle 7, hlt 7 (by decide), ?_⟩
  intro xa7 hxa7 ya7 hya7 a7 ha7
  have sa7 := word_step (n := a6) 7 72057594037927936 (by decide) (by decide) (by decide) (sa6.2.1) (by have := sa6.2.2; omega) (hb 7 (by decide)) hxa7 hya7 ha7
  refine ⟨hle 8, hlt 8 (by decide), ?_⟩
  intro xb0 hxb0 yb0 hyb0 b0 hb0
  have sb0 := word_step (n := 0) 0 1 (by decide) (by decide) (by decide) (Int.le_refl 0) (by decide) (hb 8 (by decide)) hxb0 hyb0 hb0
  refine ⟨hle 9, hlt 9 (by decide), ?_⟩
  intro xb1 hxb1 yb1 hyb1 b1 hb1
  have sb1 := word_step (n := b0) 1 256 (by decide) (by decide) (by decide) (sb0.2.1) (by have := sb0.2.2; omega) (hb 9 (by decide)) hxb1 hyb1 hb1
  refine ⟨hle 10, hlt 10 (by decide), ?_⟩
  intro xb2 hxb2 yb2 hyb2 b2 hb2
  have sb2 := word_step (n := b1) 2 65536 (by decide) (by decide) (by decide) (sb1.2.1) (by have := sb1.2.2; omega) (hb 10 (by decide)) hxb2 hyb2 hb2
  refine ⟨hle 11, hlt 11 (by decide), ?_⟩
  intro xb3 hxb3 yb3 hyb3 b3 hb3
  have sb3 := word_step (n := b2) 3 16777216 (by decide) (by decide) (by decide) (sb2.2.1) (by have := sb2.2.2; omega) (hb 11 (by decide)) hxb3 hyb3 hb3
  refine ⟨hle 12, hlt 12 (by decide), ?_⟩
  intro xb4 hxb4 yb4 hyb4 b4 hb4
  have sb4 := word_step (n := b3) 4 4294967296 (by decide) (by decide) (by decide) (sb3.2.1) (by have := sb3.2.2; omega) (hb 12 (by decide)) hxb4 hyb4 hb4
  refine ⟨hle 13, hlt 13 (by decide), ?_⟩
  intro xb5 hxb5 yb5 hyb5 b5 hb5
  have sb5 := word_step (n := b4) 5 1099511627776 (by decide) (by decide) (by decide) (sb4.2.1) (by have := sb4.2.2; omega) (hb 13 (by decide)) hxb5 hyb5 hb5
  refine ⟨hle 14, hlt 14 (by decide), ?_⟩
  intro xb6 hxb6 yb6 hyb6 b6 hb6
  have sb6 := word_step (n := b5) 6 281474976710656 (by decide) (by decide) (by decide) (sb5.2.1) (by have := sb5.2.2; omega) (hb 14 (by decide)) hxb6 hyb6 hb6
  refine ⟨hle 15, hlt 15 (by decide), ?_⟩
  intro xb7 hxb7 yb7 hyb7 b7 hb7
  have sb7 := word_step (n := b6) 7 72057594037927936 (by decide) (by decide) (by decide) (sb6.2.1) (by have := sb6.2.2; omega) (hb 15 (by decide)) hxb7 hyb7 hb7
  intro z1 h1 z2 h2 z3 h3 z4 h4 z5 h5 z6 h6 z7 h7 z8 h8 z9 h9 z10 h10 z11 h11 z12 h12
  have hf := load_limbs sa7.2.1 sa7.2.2 sb7.2.1 sb7.2.2 hn h1 h2 h3 h4 h5 h6 h7 h8 h9 h10 h11 h12
  refine ⟨⟨z1, z3, z7, z9, z12⟩, ⟨hf.1, ?_⟩, rfl, rfl, rfl, rfl, rfl, rfl, trivial⟩
  rw [hf.2, leI16 hlen]
  have q : a7 = l.getD 0 0 * 1 + l.getD 1 0 * 256 + l.getD 2 0 * 65536 + l.getD 3 0 * 16777216 + l.getD 4 0 * 4294967296 + l.getD 5 0 * 1099511627776 + l.getD 6 0 * 281474976710656 + l.getD 7 0 * 72057594037927936 := by
    have := sa0.1; have := sa1.1; have := sa2.1; have := sa3.1; have := sa4.1; have := sa5.1; have := sa6.1; have := sa7.1
    omega
  have r : b7 = l.getD 8 0 * 1 + l.getD 9 0 * 256 + l.getD 10 0 * 65536 + l.getD 11 0 * 16777216 + l.getD 12 0 * 4294967296 + l.getD 13 0 * 1099511627776 + l.getD 14 0 * 281474976710656 + l.getD 15 0 * 72057594037927936 := by
    have := sb0.1; have := sb1.1; have := sb2.1; have := sb3.1; have := sb4.1; have := sb5.1; have := sb6.1; have := sb7.1
    omega
  omega

theorem loadMacSpec_ok : loadMacSpec.OK PP 26 := by
  refine Spec.ok_of_run (fn := Try.f26) (c := Try.f26.body.getD .skip) (by kernel_rfl) (by kernel_rfl) (by kernel_rfl) noSpec_ok (fun _ => noInv) 1000 ?_
  rintro ⟨m, n⟩ ⟨hlen, ⟨hbs⟩, hn⟩
  refine (vc26m ar0 _).mpr ?_
  replace hlen : m.rest.length = 16 := hlen
  have hb : ∀ i : Nat, i < 16 → 0 ≤ m.rest.getD i 0 ∧ m.rest.getD i 0 < 256 := fun i hi => bytes_get hbs (by rw [hlen]; exact hi)
  have hle : ∀ i : Nat, ar0.le 0 (i : Int) := fun i => Int.natCast_nonneg i
  have hlt : ∀ i : Nat, i < 16 → ar0.lt (i : Int) (ar0.ilen m.rest) := fun i hi => by show (i : Int) < (m.rest.length : Int); omega
  refine ⟨hle 0, hlt 0 (by decide), ?_⟩
  intro xa0 hxa0 ya0 hya0 a0 ha0
  have sa0 := word_step (n := 0) 0 1 (by decide) (by decide) (by decide) (Int.le_refl 0) (by decide) (hb 0 (by decide)) hxa0 hya0 ha0
  refine ⟨hle 1, hlt 1 (by decide), ?_⟩
  intro xa1 hxa1 ya1 hya1 a1 ha1
  have sa1 := word_step (n := a0) 1 256 (by decide) (by decide) (by decide) (sa0.2.1) (by have := sa0.2.2; omega) (hb 1 (by decide)) hxa1 hya1 ha1
  refine ⟨hle 2, hlt 2 (by decide), ?_⟩
  intro xa2 hxa2 ya2 hya2 a2 ha2
  have sa2 := word_step (n := a1) 2 65536 (by decide) (by decide) (by decide) (sa1.2.1) (by have := sa1.2.2; omega) (hb 2 (by decide)) hxa2 hya2 ha2
  refine ⟨hle 3, hlt 3 (by decide), ?_⟩
  intro xa3 hxa3 ya3 hya3 a3 ha3
  have sa3 := word_step (n := a2) 3 16777216 (by decide) (by decide) (by decide) (sa2.2.1) (by have := sa2.2.2; omega) (hb 3 (by decide)) hxa3 hya3 ha3
  refine ⟨hle 4, hlt 4 (by decide), ?_⟩
  intro xa4 hxa4 ya4 hya4 a4 ha4
  have sa4 := word_step (n := a3) 4 4294967296 (by decide) (by decide) (by decide) (sa3.2.1) (by have := sa3.2.2; omega) (hb 4 (by decide)) hxa4 hya4 ha4
  refine ⟨hle 5, hlt 5 (by decide), ?_⟩
  intro xa5 hxa5 ya5 hya5 a5 ha5
  have sa5 := word_step (n := a4) 5 1099511627776 (by decide) (by decide) (by decide) (sa4.2.1) (by have := sa4.2.2; omega) (hb 5 (by decide)) hxa5 hya5 ha5
  refine ⟨hle 6, hlt 6 (by decide), ?_⟩
  intro xa6 hxa6 ya6 hya6 a6 ha6
  have sa6 := word_step (n := a5) 6 281474976710656 (by decide) (by decide) (by decide) (sa5.2.1) (by have := sa5.2.2; omega) (hb 6 (by decide)) hxa6 hya6 ha6
  refine ⟨hle 7, hlt 7 (by decide), ?_⟩
  intro xa7 hxa7 ya7 hya7 a7 ha7
  have sa7 := word_step (n := a6) 7 72057594037927936 (by decide) (by decide) (by decide) (sa6.2.1) (by have := sa6.2.2; omega) (hb 7 (by decide)) hxa7 hya7 ha7
  refine ⟨hle 8, hlt 8 (by decide), ?_⟩
  intro xb0 hxb0 yb0 hyb0 b0 hb0
  have sb0 := word_step (n := 0) 0 1 (by decide) (by decide) (by decide) (Int.le_refl 0) (by decide) (hb 8 (by decide)) hxb0 hyb0 hb0
  refine ⟨hle 9, hlt 9 (by decide), ?_⟩
  intro xb1 hxb1 yb1 hyb1 b1 hb1
  have sb1 := word_step (n := b0) 1 256 (by decide) (by decide) (by decide) (sb0.2.1) (by have := sb0.2.2; omega) (hb 9 (by decide)) hxb1 hyb1 hb1
  refine ⟨hle 10, hlt 10 (by decide), ?_⟩
  intro xb2 hxb2 yb2 hyb2 b2 hb2
  have sb2 := word_step (n := b1) 2 65536 (by decide) (by decide) (by decide) (sb1.2.1) (by have := sb1.2.2; omega) (hb 10 (by decide)) hxb2 hyb2 hb2
  refine ⟨hle 11, hlt 11 (by decide), ?_⟩
  intro xb3 hxb3 yb3 hyb3 b3 hb3
  have sb3 := word_step (n := b2) 3 16777216 (by decide) (by decide) (by decide) (sb2.2.1) (by have := sb2.2.2; omega) (hb 11 (by decide)) hxb3 hyb3 hb3
  refine ⟨hle 12, hlt 12 (by decide), ?_⟩
  intro xb4 hxb4 yb4 hyb4 b4 hb4
  have sb4 := word_step (n := b3) 4 4294967296 (by decide) (by decide) (by decide) (sb3.2.1) (by have := sb3.2.2; omega) (hb 12 (by decide)) hxb4 hyb4 hb4
  refine ⟨hle 13, hlt 13 (by decide), ?_⟩
  intro xb5 hxb5 yb5 hyb5 b5 hb5
  have sb5 := word_step (n := b4) 5 1099511627776 (by decide) (by decide) (by decide) (sb4.2.1) (by have := sb4.2.2; omega) (hb 13 (by decide)) hxb5 hyb5 hb5
  refine ⟨hle 14, hlt 14 (by decide), ?_⟩
  intro xb6 hxb6 yb6 hyb6 b6 hb6
  have sb6 := word_step (n := b5) 6 281474976710656 (by decide) (by decide) (by decide) (sb5.2.1) (by have := sb5.2.2; omega) (hb 14 (by decide)) hxb6 hyb6 hb6
  refine ⟨hle 15, hlt 15 (by decide), ?_⟩
  intro xb7 hxb7 yb7 hyb7 b7 hb7
  have sb7 := word_step (n := b6) 7 72057594037927936 (by decide) (by decide) (by decide) (sb6.2.1) (by have := sb6.2.2; omega) (hb 15 (by decide)) hxb7 hyb7 hb7
  intro z1 h1 z2 h2 z3 h3 z4 h4 z5 h5 z6 h6 z7 h7 z8 h8 z9 h9 z10 h10 z11 h11 z12 h12
  have hf := load_limbs sa7.2.1 sa7.2.2 sb7.2.1 sb7.2.2 hn h1 h2 h3 h4 h5 h6 h7 h8 h9 h10 h11 h12
  refine ⟨⟨z1, z3, z7, z9, z12⟩, ⟨hf.1, ?_⟩, rfl, rfl, rfl, rfl, rfl, rfl, rfl, rfl, rfl, rfl, rfl, rfl, rfl, rfl, rfl, rfl, rfl, rfl, rfl, trivial⟩
  rw [hf.2, leI16 hlen]
  have q : a7 = m.rest.getD 0 0 * 1 + m.rest.getD 1 0 * 256 + m.rest.getD 2 0 * 65536 + m.rest.getD 3 0 * 16777216 + m.rest.getD 4 0 * 4294967296 + m.rest.getD 5 0 * 1099511627776 + m.rest.getD 6 0 * 281474976710656 + m.rest.getD 7 0 * 72057594037927936 := by
    have := sa0.1; have := sa1.1; have := sa2.1; have := sa3.1; have := sa4.1; have := sa5.1; have := sa6.1; have := sa7.1
    omega
  have r : b7 = m.rest.getD 8 0 * 1 + m.rest.getD 9 0 * 256 + m.rest.getD 10 0 * 65536 + m.rest.getD 11 0 * 16777216 + m.rest.getD 12 0 * 4294967296 + m.rest.getD 13 0 * 1099511627776 + m.rest.getD 14 0 * 281474976710656 + m.rest.getD 15 0 * 72057594037927936 := by
    have := sb0.1; have := sb1.1; have := sb2.1; have := sb3.1; have := sb4.1; have := sb5.1; have := sb6.1; have := sb7.1
    omega
  omega

end Go.Eng

set_option linter.unusedSimpArgs false
set_option linter.unusedVariables false
set_option maxRecDepth 100000
set_option linter.unusedSectionVars false
namespace Go.Eng
variable [CW : CWorld]
open Go.Proofs
open Go.PL (L5 MacS)

/-- A product of two limbs. -/
structure Prd (m x y : Int) : Prop where
  eq : m = x * y
  lo : 0 ≤ m
  hi : m ≤ 18014398509481984
theorem prd_of {m x y : Int} (hx : 0 ≤ x ∧ x < 268435456) (hy : 0 ≤ y ∧ y < 67108864) (h : m = ar0.wrap .u64 (ar0.mul x y)) : Prd m x y := by
  have h1 : 0 ≤ x * y := Int.mul_nonneg hx.1 hy.1
  have h2 : x * y ≤ 268435456 * 67108864 := Int.mul_le_mul (by omega) (by omega) hy.1 (by omega)
  rw [u64_mul h1 (by omega)] at h
  subst h
  exact ⟨rfl, h1, by omega⟩
/-- A sum that stays small. -/
structure Sm (s e B : Int) : Prop where
  eq : s = e
  lo : 0 ≤ s
  hi : s ≤ B
theorem sm_zero : Sm 0 0 0 := ⟨rfl, Int.le_refl _, Int.le_refl _⟩
theorem sm_add {s e B m x y s' : Int} (hs : Sm s e B) (hm : Prd m x y) (hB : B ≤ 1000000000000000000) (h : s' = ar0.wrap .u64 (ar0.add s m)) : Sm s' (e + x * y) (B + 18014398509481984) := by
  have h1 := hs.lo
  have h2 := hs.hi
  have h3 := hm.lo
  have h4 := hm.hi
  rw [u64_add (by omega) (by omega)] at h
  exact ⟨by rw [h, hs.eq, hm.eq], by omega, by omega⟩
theorem sm_add5 {s e B m x y f s' : Int} (hs : Sm s e B) (hm : Prd m x y) (hB : B ≤ 1000000000000000000) (hf : f = ar0.wrap .u64 (ar0.mul m 5)) (h : s' = ar0.wrap .u64 (ar0.add s f)) :
    Sm s' (e + 5 * (x * y)) (B + 90071992547409920) := by
  have h1 := hs.lo
  have h2 := hs.hi
  have h3 := hm.lo
  have h4 := hm.hi
  rw [u64_mul (by omega) (by omega)] at hf
  rw [u64_add (by omega) (by omega)] at h
  exact ⟨by rw [h, hf, hs.eq, hm.eq]; omega, by omega, by omega⟩

theorem block_expand (h0 h1 h2 h3 h4 r0 r1 r2 r3 r4 : Int) : (h0 + 67108864 * h1 + 4503599627370496 * h2 + 302231454903657293676544 * h3 + 20282409603651670423947251286016 * h4) * (r0 + 67108864 * r1 + 4503599627370496 * r2 + 302231454903657293676544 * r3 + 20282409603651670423947251286016 * r4) =
(0 + h0 * r0 + 5 * (h1 * r4) + 5 * (h2 * r3) + 5 * (h3 * r2) + 5 * (h4 * r1)) + 67108864 * (0 + h0 * r1 + h1 * r0 + 5 * (h2 * r4) + 5 * (h3 * r3) + 5 * (h4 * r2)) + 4503599627370496 * (0 + h0 * r2 + h1 * r1 + h2 * r0 + 5 * (h3 * r4) + 5 * (h4 * r3)) + 302231454903657293676544 * (0 + h0 * r3 + h1 * r2 + h2 * r1 + h3 * r0 + 5 * (h4 * r4)) + 20282409603651670423947251286016 * (0 + h0 * r4 + h1 * r3 + h2 * r2 + h3 * r1 + h4 * r0) + 1361129467683753853853498429727072845819 * (1 * (h1 * r4) + 1 * (h2 * r3) + 67108864 * (h2 * r4) + 1 * (h3 * r2) + 67108864 * (h3 * r3) + 4503599627370496 * (h3 * r4) + 1 * (h4 * r1) + 67108864 * (h4 * r2) + 4503599627370496 * (h4 * r3) + 302231454903657293676544 * (h4 * r4)) := by
  grind

theorem blockSpec_ok : blockSpec.OK PP 29 := by
  refine Spec.ok_of_run (fn := Try.f29) (c := Try.f29.body.getD .skip) (by kernel_rfl) (by kernel_rfl) (by kernel_rfl) cSpecs_ok (fun _ => noInv) 1000 ?_
  rintro ⟨m, x⟩ ⟨hacc, hr, hx⟩
  refine (vc29 ar0 m x).mpr ?_
  replace hacc : m.acc.lt 134217728 := hacc
  replace hr : m.r.lt 67108864 := hr
  replace hx : x.lt 67108864 := hx
  obtain ⟨aa, ab, ac, ad, ae⟩ := hacc
  obtain ⟨ra, rb, rc, rd, re⟩ := hr
  obtain ⟨xa, xb, xc, xd, xe⟩ := hx
  intro h0 hh0
  intro h1 hh1
  intro h2 hh2
  intro h3 hh3
  intro h4 hh4
  rw [u64_add (by omega) (by omega)] at hh0
  have g0 : 0 ≤ h0 ∧ h0 < 268435456 := by omega
  rw [u64_add (by omega) (by omega)] at hh1
  have g1 : 0 ≤ h1 ∧ h1 < 268435456 := by omega
  rw [u64_add (by omega) (by omega)] at hh2
  have g2 : 0 ≤ h2 ∧ h2 < 268435456 := by omega
  rw [u64_add (by omega) (by omega)] at hh3
  have g3 : 0 ≤ h3 ∧ h3 < 268435456 := by omega
  rw [u64_add (by omega) (by omega)] at hh4
  have g4 : 0 ≤ h4 ∧ h4 < 268435456 := by omega
  intro m00 hm00 s00 hs00
  have t00 := sm_add sm_zero (prd_of g0 ra hm00) (by decide) hs00
  intro m01 hm01 s01 hs01
  have t01 := sm_add sm_zero (prd_of g0 rb hm01) (by decide) hs01
  intro m02 hm02 s02 hs02
  have t02 := sm_add sm_zero (prd_of g0 rc hm02) (by decide) hs02
  intro m03 hm03 s03 hs03
  have t03 := sm_add sm_zero (prd_of g0 rd hm03) (by decide) hs03
  intro m04 hm04 s04 hs04
  have t04 := sm_add sm_zero (prd_of g0 re hm04) (by decide) hs04
  intro m10 hm10 s10 hs10
  have t10 := sm_add t01 (prd_of g1 ra hm10) (by decide) hs10
  intro m11 hm11 s11 hs11
  have t11 := sm_add t02 (prd_of g1 rb hm11) (by decide) hs11
  intro m12 hm12 s12 hs12
  have t12 := sm_add t03 (prd_of g1 rc hm12) (by decide) hs12
  intro m13 hm13 s13 hs13
  have t13 := sm_add t04 (prd_of g1 rd hm13) (by decide) hs13
  intro m14 hm14 f14 hf14 s14 hs14
  have t14 := sm_add5 t00 (prd_of g1 re hm14) (by decide) hf14 hs14
  intro m20 hm20 s20 hs20
  have t20 := sm_add t11 (prd_of g2 ra hm20) (by decide) hs20
  intro m21 hm21 s21 hs21
  have t21 := sm_add t12 (prd_of g2 rb hm21) (by decide) hs21
  intro m22 hm22 s22 hs22
  have t22 := sm_add t13 (prd_of g2 rc hm22) (by decide) hs22
  intro m23 hm23 f23 hf23 s23 hs23
  have t23 := sm_add5 t14 (prd_of g2 rd hm23) (by decide) hf23 hs23
  intro m24 hm24 f24 hf24 s24 hs24
  have t24 := sm_add5 t10 (prd_of g2 re hm24) (by decide) hf24 hs24
  intro m30 hm30 s30 hs30
  have t30 := sm_add t21 (prd_of g3 ra hm30) (by decide) hs30
  intro m31 hm31 s31 hs31
  have t31 := sm_add t22 (prd_of g3 rb hm31) (by decide) hs31
  intro m32 hm32 f32 hf32 s32 hs32
  have t32 := sm_add5 t23 (prd_of g3 rc hm32) (by decide) hf32 hs32
  intro m33 hm33 f33 hf33 s33 hs33
  have t33 := sm_add5 t24 (prd_of g3 rd hm33) (by decide) hf33 hs33
  intro m34 hm34 f34 hf34 s34 hs34
  have t34 := sm_add5 t20 (prd_of g3 re hm34) (by decide) hf34 hs34
  intro m40 hm40 s40 hs40
  have t40 := sm_add t31 (prd_of g4 ra hm40) (by decide) hs40
  intro m41 hm41 f41 hf41 s41 hs41
  have t41 := sm_add5 t32 (prd_of g4 rb hm41) (by decide) hf41 hs41
  intro m42 hm42 f42 hf42 s42 hs42
  have t42 := sm_add5 t33 (prd_of g4 rc hm42) (by decide) hf42 hs42
  intro m43 hm43 f43 hf43 s43 hs43
  have t43 := sm_add5 t34 (prd_of g4 rd hm43) (by decide) hf43 hs43
  intro m44 hm44 f44 hf44 s44 hs44
  have t44 := sm_add5 t30 (prd_of g4 re hm44) (by decide) hf44 hs44
  refine ⟨⟨s41, s42, s43, s44, s40⟩, rfl, rfl, rfl, rfl, rfl, ⟨⟨t41.lo, by have := t41.hi; simp only; omega⟩, ⟨t42.lo, by have := t42.hi; simp only; omega⟩, ⟨t43.lo, by have := t43.hi; simp only; omega⟩, ⟨t44.lo, by have := t44.hi; simp only; omega⟩, t40.lo, by have := t40.hi; simp only; omega⟩, fun y hy => ?_⟩
  refine ⟨y, ⟨hy.lt, ?_⟩, rfl, rfl, rfl, rfl, rfl, rfl, rfl, rfl, rfl, rfl, rfl, rfl, rfl, rfl, trivial⟩
  obtain ⟨n, hn⟩ := hy.val
  refine ⟨n + (1 * (h1 * m.r.e) + 1 * (h2 * m.r.d) + 67108864 * (h2 * m.r.e) + 1 * (h3 * m.r.c) + 67108864 * (h3 * m.r.d) + 4503599627370496 * (h3 * m.r.e) + 1 * (h4 * m.r.b) + 67108864 * (h4 * m.r.c) + 4503599627370496 * (h4 * m.r.d) + 302231454903657293676544 * (h4 * m.r.e)), ?_⟩
  have hp : PL.PQ = 1361129467683753853853498429727072845819 := rfl
  have he := block_expand h0 h1 h2 h3 h4 m.r.a m.r.b m.r.c m.r.d m.r.e
  have hH : m.acc.val + x.val = h0 + 67108864 * h1 + 4503599627370496 * h2 + 302231454903657293676544 * h3 + 20282409603651670423947251286016 * h4 := by
    unfold PL.L5.val; omega
  have hR : m.r.val = m.r.a + 67108864 * m.r.b + 4503599627370496 * m.r.c + 302231454903657293676544 * m.r.d + 20282409603651670423947251286016 * m.r.e := rfl
  have hY : PL.L5.val ⟨s41, s42, s43, s44, s40⟩ = s41 + 67108864 * s42 + 4503599627370496 * s43 + 302231454903657293676544 * s44 + 20282409603651670423947251286016 * s40 := rfl
  rw [hn, hY, hH, hR, he, hp, Int.mul_add, t41.eq, t42.eq, t43.eq, t44.eq, t40.eq]
  omega

end Go.Eng
