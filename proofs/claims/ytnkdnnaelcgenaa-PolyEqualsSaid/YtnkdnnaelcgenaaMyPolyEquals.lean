/- Every run of PolyEquals answers true, for every input of the sizes that the statement names: the row 'PolyEqualsSaid'. -/
import Derived.Test.YtnkdnnaelcgenaaEngC
import Derived.KernelRfl
import Derived.Test.YtnkdnnaelcgenaaProg
import Derived.Test.YtnkdnnaelcgenaaRows
import Derived.WalkKit
import Derived.ProofKit
import Derived.OpenShut
import Derived.ShutString
import Derived.ChangeOld
import Derived.Below
import Derived.SizedLaws
set_option linter.unusedVariables false
set_option linter.unusedSimpArgs false

/- Law seat poly: contracts. Equal. -/
namespace Go.Eng
open Go.Proofs
set_option maxRecDepth 100000

noncomputable abbrev PP := Try.prog

/-- A frame of n temporaries of which these are known. -/
def frame (n : Nat) (l : List (Nat × SV)) : List SV := (List.range n).map fun i => (l.lookup i).getD .any

def noInv : FuncId → Nat → Option Inv := fun _ _ => none
def noSpec : FuncId → Option Spec := fun _ => none

/-- The bytes so far have these differences. -/
def _root_.Go.PL.offZ (a b : List UInt8) (n : Nat) : Int := (((a.take n).zip (b.take n)).foldl (fun x p => x ||| (p.1 ^^^ p.2)) (0 : UInt8)).toNat

def eqInv (a b : List UInt8) (ar : AR) : Inv where
  ι := Nat
  fr n := frame 29 [(0, .str a), (1, .str b), (5, .int .u8 (.x (PL.offZ a b n))), (13, .int .i64 (.x (ar.slen a))), (14, .int .i64 (.x (n : Int)))]
  hp _ := []
  μ n := a.length - n
  ok n := n ≤ a.length

def eqSpec : Spec where
  X := List UInt8 × List UInt8
  A x := [.str x.1, .str x.2]
  H _ := []
  pre x := x.1.length < 2 ^ 62 ∧ x.2.length < 2 ^ 62
  Y _ := Unit
  post _ _ := True
  R x _ := .bool (.x (x.1 = x.2))
  H' _ _ := []

end Go.Eng

/- Equal: the walk. -/
set_option linter.unusedVariables false
namespace Go.Eng
open Go.Proofs
set_option maxRecDepth 100000
theorem vc11 (ar : AR) (a b : List UInt8) : (run ar PP noSpec (fun _ _ => some (eqInv a b ar)) 1000 11 0 (Try.f11.body.getD .skip) ([.str a, .str b] ++ List.replicate (Try.f11.ntmps - 2) .any) [] (endCall ar PP Try.f11.results.toList (eqSpec.fin (a, b)))) = (
    (¬ar.eq (ar.slen a) (ar.slen b) → ∃ (y : Unit), True ∧ (false = true ↔ a = b) ∧ True) ∧
      (¬¬ar.eq (ar.slen a) (ar.slen b) →
        (∃ (i : Nat), i.le a.length ∧ a = a ∧ b = b ∧ 0 = PL.offZ a b i ∧ ar.slen a = ar.slen a ∧ 0 = (↑i : Int) ∧ True) ∧
          ∀ (i : Nat),
            i.le a.length →
              (ar.lt (↑i : Int) (ar.slen a) →
                  ar.le 0 (↑i : Int) ∧
                    ar.lt (↑i : Int) (ar.slen a) ∧
                      ∀ (z : Int),
                        z = ar.sget a (↑i : Int) →
                          ar.le 0 (↑i : Int) ∧
                            ar.lt (↑i : Int) (ar.slen b) ∧
                              ∀ (z_1 : Int),
                                z_1 = ar.sget b (↑i : Int) →
                                  ∀ (z_2 : Int),
                                    z_2 = ar.bxor IntKind.u8 z z_1 →
                                      ∀ (z : Int),
                                        z = ar.bor IntKind.u8 (PL.offZ a b i) z_2 →
                                          ∀ (z_3 : Int),
                                            z_3 = ar.wrap IntKind.i64 (ar.add (↑i : Int) 1) →
                                              ∃ (j : Nat),
                                                j.le a.length ∧
                                                  (a.length.sub j).lt (a.length.sub i) ∧
                                                    a = a ∧
                                                      b = b ∧
                                                        z = PL.offZ a b j ∧
                                                          ar.slen a = ar.slen a ∧ z_3 = (↑j : Int) ∧ True) ∧
                (¬ar.lt (↑i : Int) (ar.slen a) → ∃ (y : Unit), True ∧ (ar.eq (PL.offZ a b i) 0 ↔ a = b) ∧ True))) := by
  kernel_rfl
end Go.Eng


/- Arithmetic of the machine's numbers, as plain numbers. -/
set_option linter.unusedSimpArgs false
namespace Go.Eng

theorem wrap_i64 {n : Int} (h0 : -9223372036854775808 ≤ n) (h1 : n < 9223372036854775808) : IntKind.i64.wrap n = n := by
  show (if (true && decide (n % (2 ^ 64 : Int) ≥ (2 ^ 63 : Int))) = true then n % (2 ^ 64 : Int) - (2 ^ 64 : Int) else n % (2 ^ 64 : Int)) = n
  rw [show (2 : Int) ^ 64 = 18446744073709551616 by decide, show (2 : Int) ^ 63 = 9223372036854775808 by decide]
  by_cases h : n % 18446744073709551616 ≥ 9223372036854775808
  · rw [if_pos (by simpa using h)]; omega
  · rw [if_neg (by simpa using h)]; omega

theorem wrap_u64 (n : Int) : IntKind.u64.wrap n = n % 18446744073709551616 := by
  show (if (false && decide (n % (2 ^ 64 : Int) ≥ (2 ^ 63 : Int))) = true then n % (2 ^ 64 : Int) - (2 ^ 64 : Int) else n % (2 ^ 64 : Int)) = _
  rw [show (2 : Int) ^ 64 = 18446744073709551616 by decide]
  simp

theorem wrap_u8 (n : Int) : IntKind.u8.wrap n = n % 256 := by
  show (if (false && decide (n % (2 ^ 8 : Int) ≥ (2 ^ 7 : Int))) = true then n % (2 ^ 8 : Int) - (2 ^ 8 : Int) else n % (2 ^ 8 : Int)) = _
  rw [show (2 : Int) ^ 8 = 256 by decide]
  simp

theorem wrap_u32 (n : Int) : IntKind.u32.wrap n = n % 4294967296 := by
  show (if (false && decide (n % (2 ^ 32 : Int) ≥ (2 ^ 31 : Int))) = true then n % (2 ^ 32 : Int) - (2 ^ 32 : Int) else n % (2 ^ 32 : Int)) = _
  rw [show (2 : Int) ^ 32 = 4294967296 by decide]
  simp

theorem wrap_u16 (n : Int) : IntKind.u16.wrap n = n % 65536 := by
  show (if (false && decide (n % (2 ^ 16 : Int) ≥ (2 ^ 15 : Int))) = true then n % (2 ^ 16 : Int) - (2 ^ 16 : Int) else n % (2 ^ 16 : Int)) = _
  rw [show (2 : Int) ^ 16 = 65536 by decide]
  simp

theorem u8_toNat_lt (a : UInt8) : a.toNat < 256 := a.toNat_lt

theorem band_u8 (a b : UInt8) : ar0.band .u8 (a.toNat : Int) (b.toNat : Int) = ((a &&& b).toNat : Int) := by
  have h : ∀ x : Nat, BitVec.ofInt 8 (x : Int) = BitVec.ofNat 8 x := fun x => BitVec.ofInt_natCast 8 x
  show IntKind.u8.wrap (BitVec.ofInt 8 (a.toNat : Int) &&& BitVec.ofInt 8 (b.toNat : Int)).toNat = _
  rw [wrap_u8, h, h]
  have hlt := (a &&& b).toNat_lt
  simp only [BitVec.toNat_and, BitVec.toNat_ofNat, UInt8.toNat_and] at *
  rw [Nat.mod_eq_of_lt a.toNat_lt, Nat.mod_eq_of_lt b.toNat_lt]
  omega
theorem bor_u8 (a b : UInt8) : ar0.bor .u8 (a.toNat : Int) (b.toNat : Int) = ((a ||| b).toNat : Int) := by
  have h : ∀ x : Nat, BitVec.ofInt 8 (x : Int) = BitVec.ofNat 8 x := fun x => BitVec.ofInt_natCast 8 x
  show IntKind.u8.wrap (BitVec.ofInt 8 (a.toNat : Int) ||| BitVec.ofInt 8 (b.toNat : Int)).toNat = _
  rw [wrap_u8, h, h]
  have hlt := (a ||| b).toNat_lt
  simp only [BitVec.toNat_or, BitVec.toNat_ofNat, UInt8.toNat_or] at *
  rw [Nat.mod_eq_of_lt a.toNat_lt, Nat.mod_eq_of_lt b.toNat_lt]
  omega
theorem bxor_u8 (a b : UInt8) : ar0.bxor .u8 (a.toNat : Int) (b.toNat : Int) = ((a ^^^ b).toNat : Int) := by
  have h : ∀ x : Nat, BitVec.ofInt 8 (x : Int) = BitVec.ofNat 8 x := fun x => BitVec.ofInt_natCast 8 x
  show IntKind.u8.wrap (BitVec.ofInt 8 (a.toNat : Int) ^^^ BitVec.ofInt 8 (b.toNat : Int)).toNat = _
  rw [wrap_u8, h, h]
  have hlt := (a ^^^ b).toNat_lt
  simp only [BitVec.toNat_xor, BitVec.toNat_ofNat, UInt8.toNat_xor] at *
  rw [Nat.mod_eq_of_lt a.toNat_lt, Nat.mod_eq_of_lt b.toNat_lt]
  omega

theorem band_u64 {a b : Nat} (ha : a < 18446744073709551616) (hb : b < 18446744073709551616) : ar0.band .u64 (a : Int) (b : Int) = ((a &&& b : Nat) : Int) := by
  have h : ∀ x : Nat, BitVec.ofInt 64 (x : Int) = BitVec.ofNat 64 x := fun x => BitVec.ofInt_natCast 64 x
  show IntKind.u64.wrap (BitVec.ofInt 64 (a : Int) &&& BitVec.ofInt 64 (b : Int)).toNat = _
  rw [wrap_u64, h, h]
  have hlt : a &&& b < 18446744073709551616 := Nat.lt_of_le_of_lt Nat.and_le_left ha
  rw [BitVec.toNat_and, BitVec.toNat_ofNat, BitVec.toNat_ofNat, Nat.mod_eq_of_lt (b := 2 ^ 64) ha, Nat.mod_eq_of_lt (b := 2 ^ 64) hb]
  omega
theorem bor_u64 {a b : Nat} (ha : a < 18446744073709551616) (hb : b < 18446744073709551616) : ar0.bor .u64 (a : Int) (b : Int) = ((a ||| b : Nat) : Int) := by
  have h : ∀ x : Nat, BitVec.ofInt 64 (x : Int) = BitVec.ofNat 64 x := fun x => BitVec.ofInt_natCast 64 x
  show IntKind.u64.wrap (BitVec.ofInt 64 (a : Int) ||| BitVec.ofInt 64 (b : Int)).toNat = _
  rw [wrap_u64, h, h]
  have hlt : a ||| b < 18446744073709551616 := Nat.or_lt_two_pow (n := 64) ha hb
  rw [BitVec.toNat_or, BitVec.toNat_ofNat, BitVec.toNat_ofNat, Nat.mod_eq_of_lt (b := 2 ^ 64) ha, Nat.mod_eq_of_lt (b := 2 ^ 64) hb]
  omega
theorem shr_u64 {a : Nat} {k : Int} (h0 : 0 ≤ k) (h1 : k < 64) : ar0.shr .u64 (a : Int) k = ((a / 2 ^ k.toNat : Nat) : Int) := by
  show (a : Int).fdiv (2 ^ (min k.toNat 64)) = _
  rw [Nat.min_eq_left (a := k.toNat) (b := 64) (by omega), Int.fdiv_eq_ediv_of_nonneg _ (by exact_mod_cast Nat.zero_le _)]
  norm_cast
theorem shl_u64 {a : Nat} {k : Int} (h0 : 0 ≤ k) (h1 : k < 64) : ar0.shl .u64 (a : Int) k = ((a * 2 ^ k.toNat % 18446744073709551616 : Nat) : Int) := by
  show IntKind.u64.wrap ((a : Int) * 2 ^ (min k.toNat 64)) = _
  rw [wrap_u64, Nat.min_eq_left (a := k.toNat) (b := 64) (by omega), Int.natCast_emod, Int.natCast_mul, Int.natCast_pow]
  rfl

end Go.Eng

/- Equal: the contract holds. -/
set_option linter.unusedSimpArgs false
set_option maxRecDepth 100000
namespace Go.Eng
open Go.Proofs

theorem offZ_zero (a b : List UInt8) : PL.offZ a b 0 = 0 := rfl

theorem foldl_off (x : UInt8) : ∀ (l : List (UInt8 × UInt8)), (l.foldl (fun x p => x ||| (p.1 ^^^ p.2)) x = 0) ↔ (x = 0 ∧ ∀ p ∈ l, p.1 = p.2)
  | [] => by simp
  | p :: l => by
    have ih := foldl_off (x ||| (p.1 ^^^ p.2)) l
    simp only [List.foldl_cons, ih, UInt8.or_eq_zero_iff, UInt8.xor_eq_zero_iff, List.mem_cons, forall_eq_or_imp, and_assoc]

theorem zip_eq : ∀ (a b : List UInt8), a.length = b.length → ((∀ p ∈ a.zip b, p.1 = p.2) ↔ a = b)
  | [], b, h => by
    have : b = [] := List.length_eq_zero_iff.1 h.symm
    simp [this]
  | x :: a, [], h => by simp at h
  | x :: a, y :: b, h => by
    have ih := zip_eq a b (by simpa using h)
    simp only [List.zip_cons_cons, List.mem_cons, forall_eq_or_imp, ih, List.cons.injEq]

theorem offZ_full {a b : List UInt8} (h : a.length = b.length) {n : Nat} (hn : a.length ≤ n) : PL.offZ a b n = 0 ↔ a = b := by
  have e : PL.offZ a b n = 0 ↔ (((a.take n).zip (b.take n)).foldl (fun x p => x ||| (p.1 ^^^ p.2)) (0 : UInt8)) = 0 := by
    unfold PL.offZ
    rw [← UInt8.toNat_inj]
    simp
  rw [e, foldl_off, List.take_of_length_le hn, List.take_of_length_le (by omega)]
  simp only [true_and]
  exact zip_eq a b h

theorem zip_take_succ : ∀ (a b : List UInt8) (n : Nat), n < a.length → n < b.length → (a.take (n + 1)).zip (b.take (n + 1)) = (a.take n).zip (b.take n) ++ [(a.getD n 0, b.getD n 0)]
  | [], b, n, h, _ => by simp at h
  | x :: a, [], n, _, h => by simp at h
  | x :: a, y :: b, 0, _, _ => by simp
  | x :: a, y :: b, n + 1, h, h' => by
    have := zip_take_succ a b n (by simpa using h) (by simpa using h')
    simp only [List.take_succ_cons, List.zip_cons_cons, this, List.cons_append, List.getD_cons_succ]

theorem eqSpec_ok : eqSpec.OK PP 11 := by
  refine Spec.ok_of_run (fn := Try.f11) (c := Try.f11.body.getD .skip) (by kernel_rfl) (by kernel_rfl) (by kernel_rfl) (specs := noSpec) (fun f S h => by cases h) (fun x _ _ => some (eqInv x.1 x.2 ar0)) 1000 ?_
  rintro ⟨a, b⟩ ⟨ha, hb⟩
  refine (vc11 ar0 a b).mpr ?_
  simp only at ha hb
  refine ⟨fun h => ⟨(), trivial, ?_, trivial⟩, fun h => ?_⟩
  · simp only [ar0] at h
    simp only [Bool.false_eq_true, false_iff]
    intro e
    exact h (by rw [e])
  · have hlen : a.length = b.length := by
      have : ar0.eq (ar0.slen a) (ar0.slen b) := Classical.byContradiction h
      simp only [ar0] at this
      exact Int.ofNat_inj.1 this
    refine ⟨⟨0, Nat.zero_le _, rfl, rfl, rfl, rfl, rfl, trivial⟩, fun i hi => ⟨fun h => ?_, fun h => ⟨(), trivial, ?_, trivial⟩⟩⟩
    · have hlt : i < a.length := by simpa [ar0] using h
      have hlt' : i < b.length := by omega
      refine ⟨by simp [ar0], h, ?_⟩
      rintro z hz
      refine ⟨by simp [ar0], by simp [ar0, hlt'], ?_⟩
      rintro z1 hz1 z2 hz2 z3 hz3 z4 hz4
      refine ⟨i + 1, hlt, ?_, rfl, rfl, ?_, rfl, ?_, trivial⟩
      · show a.length - (i + 1) < a.length - i
        omega
      · have h1 : z = ((a.getD i 0).toNat : Int) := hz
        have h2 : z1 = ((b.getD i 0).toNat : Int) := hz1
        rw [hz3, hz2, h1, h2, bxor_u8]
        unfold PL.offZ
        rw [bor_u8, zip_take_succ a b i hlt hlt', List.foldl_append]
        rfl
      · rw [hz4]
        show IntKind.i64.wrap ((i : Int) + 1) = _
        rw [wrap_i64 (by omega) (by omega)]
        rfl
    · have hge : a.length ≤ i := by simpa [ar0] using h
      exact offZ_full hlen hge

end Go.Eng

/- PolyEquals: the walk. -/
set_option linter.unusedVariables false
namespace Go.Eng
open Go.Proofs
set_option maxRecDepth 100000
noncomputable def peSpecs : FuncId → Option Spec := fun f => match f with
  | 11 => some eqSpec
  | _ => none
def peSpec : Spec where
  X := List UInt8 × List UInt8 × Int × Int
  A x := [.str x.1, .str x.2.1, .int .i64 (.x x.2.2.1), .int .i64 (.x x.2.2.2)]
  H _ := []
  pre x := x.1.length ≤ 140737488351232 ∧ x.2.1.length ≤ 140737488351232 ∧ (-9223372036854775808 ≤ x.2.2.1 ∧ x.2.2.1 < 9223372036854775808) ∧ (-9223372036854775808 ≤ x.2.2.2 ∧ x.2.2.2 < 9223372036854775808)
  Y _ := Unit
  post _ _ := True
  R x _ := .bool (.l true)
  H' _ _ := []
theorem vc3 (ar : AR) (a b : List UInt8) (m n : Int) : (run ar PP peSpecs noInv 1000 3 0 (Try.f3.body.getD .skip) ([.str a, .str b, .int .i64 (.x m), .int .i64 (.x n)] ++ List.replicate (Try.f3.ntmps - 4) .any) [] (endCall ar PP Try.f3.results.toList (peSpec.fin (a, b, m, n)))) = (
    ∃ (x : List UInt8 × List UInt8), a = x.fst ∧ b = x.snd ∧ (x.fst.length.lt 4611686018427387904 ∧ x.snd.length.lt 4611686018427387904) ∧ ∀ (y : Unit), True → ((¬(x.fst = x.snd ↔
    ar.seq a b) → False) → ∃ (x : List UInt8 × List UInt8), a = x.fst ∧ a = x.snd ∧ (x.fst.length.lt 4611686018427387904 ∧ x.snd.length.lt 4611686018427387904) ∧ ∀ (y : Unit), True
    → ((¬x.fst = x.snd → False) → ∃ (x : List UInt8 × List UInt8), [] = x.fst ∧ [] = x.snd ∧ (x.fst.length.lt 4611686018427387904 ∧ x.snd.length.lt 4611686018427387904) ∧ ∀ (y :
    Unit), True → ((¬x.fst = x.snd → False) → ar.le (ar.add (ar.slen a) (ar.slen [UInt8.ofNat 0])) 9223372036854775807 ∧ ∀ (t : List UInt8), t = ar.sapp a [UInt8.ofNat 0] → ∃ (x :
    List UInt8 × List UInt8), a = x.fst ∧ t = x.snd ∧ (x.fst.length.lt 4611686018427387904 ∧ x.snd.length.lt 4611686018427387904) ∧ ∀ (y : Unit), True → (x.fst = x.snd → ∃ (y :
    Unit), True ∧ False) ∧ (¬x.fst = x.snd → (ar.seq a [] → ∃ (y : Unit), True ∧ True) ∧ (¬ar.seq a [] → ¬ar.eq (ar.slen a) 0 ∧ ∀ (z : Int), z = ar.rem m (ar.slen a) → ∀ (z_1 :
    Int), z_1 = ar.wrap IntKind.i64 (ar.add z (ar.slen a)) → ¬ar.eq (ar.slen a) 0 ∧ ∀ (z : Int), z = ar.rem z_1 (ar.slen a) → ∀ (z_2 : Int), z_2 = ar.rem n 255 → ∀ (z_3 : Int), z_3
    = ar.wrap IntKind.i64 (ar.add z_2 255) → ∀ (z_4 : Int), z_4 = ar.rem z_3 255 → ∀ (z_5 : Int), z_5 = ar.wrap IntKind.i64 (ar.add 1 z_4) → ∀ (z_6 : Int), z_6 = ar.wrap IntKind.u8
    z_5 → ar.le 0 z ∧ ar.le z (ar.slen a) ∧ ∀ (t : List UInt8), t = ar.sext a 0 z → ar.le 0 z ∧ ar.lt z (ar.slen a) ∧ ∀ (z_7 : Int), z_7 = ar.sget a z → ∀ (z_8 : Int), z_8 =
    ar.bxor IntKind.u8 z_7 z_6 → ∀ (z_9 : Int), z_9 = ar.wrap IntKind.i64 (ar.add z 1) → ar.le 0 z_9 ∧ ar.le z_9 (ar.slen a) ∧ ∀ (t_1 : List UInt8), t_1 = ar.sext a z_9 (ar.slen a)
    → ∀ (t_2 : List UInt8), t_2 = ar.bytes [z_8] → ar.le (ar.add (ar.slen t) (ar.slen t_2)) 9223372036854775807 ∧ ∀ (t_3 : List UInt8), t_3 = ar.sapp t t_2 → ar.le (ar.add (ar.slen
    t_3) (ar.slen t_1)) 9223372036854775807 ∧ ∀ (t : List UInt8), t = ar.sapp t_3 t_1 → ∃ (x : List UInt8 × List UInt8), a = x.fst ∧ t = x.snd ∧ (x.fst.length.lt
    4611686018427387904 ∧ x.snd.length.lt 4611686018427387904) ∧ ∀ (y : Unit), True → ((x.fst = x.snd → False) → ∃ (x : List UInt8 × List UInt8), t = x.fst ∧ a = x.snd ∧
    (x.fst.length.lt 4611686018427387904 ∧ x.snd.length.lt 4611686018427387904) ∧ ∀ (y : Unit), True → ((x.fst = x.snd → False) → ∀ (z : Int), z = ar.wrap IntKind.i64 (ar.sub
    (ar.slen a) 1) → ar.le 0 z ∧ ar.le z (ar.slen a) ∧ ∀ (t : List UInt8), t = ar.sext a 0 z → ∃ (x : List UInt8 × List UInt8), a = x.fst ∧ t = x.snd ∧ (x.fst.length.lt
    4611686018427387904 ∧ x.snd.length.lt 4611686018427387904) ∧ ∀ (y : Unit), True → ((x.fst = x.snd → False) → ar.le 1 (ar.slen a) ∧ ∀ (t : List UInt8), t = ar.sext a 1 (ar.slen
    a) → ∃ (x : List UInt8 × List UInt8), t = x.fst ∧ a = x.snd ∧ (x.fst.length.lt 4611686018427387904 ∧ x.snd.length.lt 4611686018427387904) ∧ ∀ (y : Unit), True → ∃ (y : Unit),
    True ∧ (x.fst = x.snd → False ↔ true = true) ∧ True) ∧ (¬(x.fst = x.snd → False) → ∃ (y : Unit), True ∧ False)) ∧ (¬(x.fst = x.snd → False) → ∃ (y : Unit), True ∧ False)) ∧
    (¬(x.fst = x.snd → False) → ∃ (y : Unit), True ∧ False)))) ∧ (¬(¬x.fst = x.snd → False) → ∃ (y : Unit), True ∧ False)) ∧ (¬(¬x.fst = x.snd → False) → ∃ (y : Unit), True ∧
    False)) ∧ (¬(¬(x.fst = x.snd ↔ ar.seq a b) → False) → ∃ (y : Unit), True ∧ False)) := by
  kernel_rfl
end Go.Eng


/- PolyEquals: the contract holds. -/
set_option linter.unusedSimpArgs false
set_option linter.unusedVariables false
set_option maxRecDepth 100000
namespace Go.Eng
open Go.Proofs

theorem peSpecs_ok : ∀ f S, peSpecs f = some S → S.OK PP f := by
  intro f S h
  unfold peSpecs at h
  split at h
  · cases h; exact eqSpec_ok
  · cases h

theorem i64_eq (n : Int) : IntKind.i64.wrap n = if n % 18446744073709551616 ≥ 9223372036854775808 then n % 18446744073709551616 - 18446744073709551616 else n % 18446744073709551616 := by
  show (if (true && decide (n % (2 ^ 64 : Int) ≥ (2 ^ 63 : Int))) = true then n % (2 ^ 64 : Int) - (2 ^ 64 : Int) else n % (2 ^ 64 : Int)) = _
  rw [show (2 : Int) ^ 64 = 18446744073709551616 by decide, show (2 : Int) ^ 63 = 9223372036854775808 by decide]
  simp

/-- A byte turned. -/
theorem turned {a : List UInt8} {i : Nat} (hi : i < a.length) {x : UInt8} (hx : x ≠ 0) : (a.take i ++ [a.getD i 0 ^^^ x]) ++ a.drop (i + 1) ≠ a := by
  intro e
  have h := congrArg (fun l => l.getD i 0) e
  have h1 : ((a.take i ++ [a.getD i 0 ^^^ x]) ++ a.drop (i + 1)).getD i 0 = a.getD i 0 ^^^ x := by
    have hl : (a.take i).length = i := by simp; omega
    simp [List.getD, List.getElem?_append, hl]
  simp only [h1] at h
  have : x = 0 := by
    have h2 : a.getD i 0 ^^^ (a.getD i 0 ^^^ x) = a.getD i 0 ^^^ a.getD i 0 := congrArg _ h
    rw [← UInt8.xor_assoc, UInt8.xor_self, UInt8.zero_xor] at h2
    exact h2
  exact hx this

theorem peSpec_ok : peSpec.OK PP 3 := by
  refine Spec.ok_of_run (fn := Try.f3) (c := Try.f3.body.getD .skip) (by kernel_rfl) (by kernel_rfl) (by kernel_rfl) (specs := peSpecs) peSpecs_ok (fun _ => noInv) 1000 ?_
  rintro ⟨a, b, m, n⟩ ⟨ha, hb, hm, hn⟩
  refine (vc3 ar0 a b m n).mpr ?_
  simp only at ha hb hm hn
  have hseq : ∀ s t : List UInt8, ar0.seq s t = (s = t) := fun _ _ => rfl
  have hlen : ∀ s : List UInt8, ar0.slen s = (s.length : Int) := fun _ => rfl
  have hle : ∀ s t : Int, ar0.le s t = (s ≤ t) := fun _ _ => rfl
  have hlt : ∀ s t : Int, ar0.lt s t = (s < t) := fun _ _ => rfl
  have heq : ∀ s t : Int, ar0.eq s t = (s = t) := fun _ _ => rfl
  have hadd : ∀ s t : Int, ar0.add s t = (s + t) := fun _ _ => rfl
  have hsub : ∀ s t : Int, ar0.sub s t = (s - t) := fun _ _ => rfl
  have hrem : ∀ s t : Int, ar0.rem s t = s.tmod t := fun _ _ => rfl
  have hwr : ∀ k n, ar0.wrap k n = k.wrap n := fun _ _ => rfl
  have hsapp : ∀ s t, ar0.sapp s t = s ++ t := fun _ _ => rfl
  have hsext : ∀ s x y, ar0.sext s x y = (s.take y.toNat).drop x.toNat := fun _ _ _ => rfl
  have hnlt : ∀ s t : Nat, s.lt t = (s < t) := fun _ _ => rfl
  refine ⟨(a, b), rfl, rfl, ⟨by simp only [hnlt]; omega, by simp only [hnlt]; omega⟩, fun _ _ => ⟨fun h1 => ?_, fun h => ?_⟩⟩
  rotate_left
  · exact absurd (fun h2 : ¬ (a = b ↔ ar0.seq a b) => h2 (by rw [hseq])) h
  refine ⟨(a, a), rfl, rfl, ⟨by simp only [hnlt]; omega, by simp only [hnlt]; omega⟩, fun _ _ => ⟨fun h1 => ?_, fun h => absurd (fun h2 : ¬ a = a => h2 rfl) h⟩⟩
  refine ⟨([], []), rfl, rfl, ⟨by simp [hnlt], by simp [hnlt]⟩, fun _ _ => ⟨fun h1 => ?_, fun h => absurd (fun h2 : ¬ ([] : List UInt8) = [] => h2 rfl) h⟩⟩
  refine ⟨by simp only [hle, hadd, hlen, List.length_cons, List.length_nil]; omega, ?_⟩
  rintro _ rfl
  refine ⟨(a, a ++ [0]), rfl, rfl, ⟨by simp only [hnlt]; omega, by simp only [hnlt, List.length_append, List.length_cons, List.length_nil]; omega⟩, fun _ _ => ⟨fun h => absurd h (by simp), fun _ => ?_⟩⟩
  refine ⟨fun _ => ⟨(), trivial, trivial⟩, fun hne => ?_⟩
  simp only [hseq] at hne
  have hpos : 0 < a.length := by
    rcases a with _ | ⟨x, a⟩
    · exact absurd rfl hne
    · simp
  refine ⟨by simp only [heq, hlen]; omega, ?_⟩
  rintro z0 hz0 z1 hz1
  refine ⟨by simp only [heq, hlen]; omega, ?_⟩
  rintro z hz z2 hz2 z3 hz3 z4 hz4 z5 hz5 z6 hz6
  simp only [hrem, hlen, hadd, hwr] at hz0 hz1 hz hz2 hz3 hz4 hz5 hz6
  have b0 : -(a.length : Int) < z0 ∧ z0 < a.length := by
    subst hz0
    have h0 : (0 : Int) < a.length := by omega
    exact ⟨Int.lt_tmod_of_pos _ h0, Int.tmod_lt_of_pos _ h0⟩
  have e1 : z1 = z0 + a.length := by rw [hz1, wrap_i64 (by omega) (by omega)]
  have b2 : 0 ≤ z ∧ z < a.length := by
    rw [hz]
    exact ⟨Int.tmod_nonneg _ (by omega), Int.tmod_lt_of_pos _ (by omega)⟩
  have b3 : -255 < z2 ∧ z2 < 255 := by
    rw [hz2]
    exact ⟨Int.lt_tmod_of_pos _ (by omega), Int.tmod_lt_of_pos _ (by omega)⟩
  have e3 : z3 = z2 + 255 := by rw [hz3, wrap_i64 (by omega) (by omega)]
  have b4 : 0 ≤ z4 ∧ z4 < 255 := by
    rw [hz4]
    exact ⟨Int.tmod_nonneg _ (by omega), Int.tmod_lt_of_pos _ (by omega)⟩
  have e5 : z5 = 1 + z4 := by rw [hz5, wrap_i64 (by omega) (by omega)]
  have e6 : z6 = 1 + z4 := by rw [hz6, wrap_u8]; omega
  refine ⟨by simp only [hle]; omega, by simp only [hle, hlen]; omega, ?_⟩
  rintro t ht
  refine ⟨by simp only [hle]; omega, by simp only [hlt, hlen]; omega, ?_⟩
  rintro z7 hz7 z8 hz8 z9 hz9
  simp only [hwr, hadd] at hz9
  have e9 : z9 = z + 1 := by rw [hz9, wrap_i64 (by omega) (by omega)]
  refine ⟨by simp only [hle]; omega, by simp only [hle, hlen]; omega, ?_⟩
  rintro t1 ht1 t2 ht2
  obtain ⟨x, hx0, hx⟩ : ∃ x : UInt8, x ≠ 0 ∧ z6 = (x.toNat : Int) := by
    refine ⟨UInt8.ofNat z6.toNat, ?_, ?_⟩
    · intro e
      have := congrArg UInt8.toNat e
      simp at this
      omega
    · simp
      omega
  have e7 : z7 = ((a.getD z.toNat 0).toNat : Int) := hz7
  have e8 : z8 = ((a.getD z.toNat 0 ^^^ x).toNat : Int) := by rw [hz8, e7, hx, bxor_u8]
  have ht : t = a.take z.toNat := by rw [ht, hsext]; simp
  have ht1 : t1 = a.drop (z.toNat + 1) := by
    rw [ht1, hsext, hlen, e9]
    simp
    congr 1
    omega
  have ht2 : t2 = [a.getD z.toNat 0 ^^^ x] := by
    rw [ht2, e8]
    simp [ar0]
  have l1 : t.length = z.toNat := by rw [ht]; simp; omega
  have l2 : t2.length = 1 := by rw [ht2]; rfl
  have l3 : t1.length = a.length - (z.toNat + 1) := by rw [ht1]; simp
  refine ⟨by simp only [hle, hadd, hlen, l1, l2]; omega, ?_⟩
  rintro t3 ht3
  simp only [hsapp] at ht3
  have l4 : t3.length = z.toNat + 1 := by rw [ht3, List.length_append, l1, l2]
  refine ⟨by simp only [hle, hadd, hlen, l4, l3]; omega, ?_⟩
  rintro c hc
  simp only [hsapp] at hc
  have hca : c ≠ a := by
    rw [hc, ht3, ht, ht1, ht2]
    exact turned (by omega) hx0
  have lc : c.length = a.length := by rw [hc, List.length_append, l4, l3]; omega
  refine ⟨(a, c), rfl, rfl, ⟨by simp only [hnlt]; omega, by simp only [hnlt]; omega⟩, fun _ _ => ⟨fun _ => ?_, fun h => absurd (fun e : a = c => hca e.symm) h⟩⟩
  refine ⟨(c, a), rfl, rfl, ⟨by simp only [hnlt]; omega, by simp only [hnlt]; omega⟩, fun _ _ => ⟨fun _ => ?_, fun h => absurd (fun e : c = a => hca e) h⟩⟩
  rintro y hy
  simp only [hwr, hsub, hlen] at hy
  have ey : y = (a.length : Int) - 1 := by rw [hy, wrap_i64 (by omega) (by omega)]
  refine ⟨by simp only [hle]; omega, by simp only [hle, hlen]; omega, ?_⟩
  rintro u hu
  have lu : u.length = a.length - 1 := by
    rw [hu, hsext]
    simp
    omega
  have hua : a ≠ u := fun e => by
    have := congrArg List.length e
    omega
  refine ⟨(a, u), rfl, rfl, ⟨by simp only [hnlt]; omega, by simp only [hnlt]; omega⟩, fun _ _ => ⟨fun _ => ?_, fun h => absurd (fun e : a = u => hua e) h⟩⟩
  refine ⟨by simp only [hle, hlen]; omega, ?_⟩
  rintro v hv
  have lv : v.length = a.length - 1 := by
    rw [hv, hsext, hlen]
    simp
  have hva : v ≠ a := fun e => by
    have := congrArg List.length e
    omega
  refine ⟨(v, a), rfl, rfl, ⟨by simp only [hnlt]; omega, by simp only [hnlt]; omega⟩, fun _ _ => ⟨(), trivial, ⟨fun _ => rfl, fun _ e => hva e⟩, trivial⟩⟩

end Go.Eng

namespace Go.Proofs.Ytnkdnnaelcgenaa.lawPolyEquals
open Go.ChangeShapes Go.WideShapes Go.ChangeAt Go.RowKit
open Go.ChangeMaps (open_string shut_string)
open Go.Eng
set_option linter.unusedVariables false

theorem walk (a0 a1 : ByteArray) (a2 a3 : Int) (W : World) (w0 : a0.size ≤ 140737488351232) (w1 : a1.size ≤ 140737488351232) (w2 : (Lit.int .i64 a2).wf = true) (w3 : (Lit.int .i64 a3).wf = true) :
    Calls Try.prog 3 #[.string a0, .string a1, .int .i64 a2, .int .i64 a3] W fun e W' => e = .returned (.bool true) ∧ Below W.heap.size W W' := by
  have r : ∀ n : Int, (Lit.int .i64 n).wf = true → -9223372036854775808 ≤ n ∧ n < 9223372036854775808 := fun n h => by
    have := bounds_i64 h
    omega
  have hl : ∀ b : ByteArray, b.data.toList.length = b.size := fun b => Array.length_toList
  refine (Spec.calls0 peSpec_ok (a0.data.toList, a1.data.toList, a2, a3) ⟨by show a0.data.toList.length ≤ _; rw [hl]; exact w0, by show a1.data.toList.length ≤ _; rw [hl]; exact w1, r a2 w2, r a3 w3⟩ rfl (vs := [.string a0, .string a1, .int .i64 a2, .int .i64 a3]) ?_ W).mono fun e W' he => ?_
  · exact ⟨_, _, rfl, rfl, _, _, rfl, rfl, _, _, rfl, rfl, _, _, rfl, rfl, rfl⟩
  · obtain ⟨⟨v, y, ρ, rfl, _, hv⟩, hb⟩ := he
    obtain ⟨c, rfl, hc⟩ := hv
    have : c = true := hc.2 rfl
    subst this
    exact ⟨rfl, hb⟩
theorem own : ownKnob Try.prog.godebug = none := by kernel_rfl
set_option maxRecDepth 100000 in
theorem lifted (os : Os) (started : os.Started) (H : Type) (enc : TypeId × Value → H) :
    ReturnsInHanded {} Try.checked os 3 .any (Rows.polyEqualsSpec.pre6 enc Try.prog Try.f3 Rows.polyEqualsRow.domain false) (Rows.polyEqualsSpec.post enc Try.prog Try.f3 false true false false) := by
  refine returnsInHanded_of_change_sized (C := Try.checked) own started (by kernel_rfl) Try.func3
    (ChangeSpec.witness6 (enc := enc) (C := Try.checked) false ⟨#[], #[.string ByteArray.empty, .string ByteArray.empty, .int .i64 0, .int .i64 0], []⟩ 8 (by kernel_rfl) (by kernel_rfl) (by kernel_rfl) (by kernel_rfl)) ?_
  intro W base args ds gs before hval0 hW hcnd hsz0 _
  have hsz : (DataW.weightsEach Try.prog (Try.f3.params.toList ++ Rows.polyEqualsSpec.plain.varTypes Try.prog) (ds ++ gs)).all (· ≤ reachBytes) = true := hsz0
  have hval : ∀ (j : Nat) t v, Try.f3.params[j]? = some t → args[j]? = some v → Value.okWide Try.prog W .any base t v := hval0
  have hW' := hW
  obtain ⟨p, q, hA0, hV, rfl, hfz, hnd⟩ := hW
  have hA : DataW.TrodAll enc Try.prog W 0 (fun _ => true) true Try.f3.params.toList args.toList ds p := hA0
  rw [Try.params3] at hA hval hsz
  obtain ⟨v0, vs0, d0, ds0, p0, q0, hargs, rfl, rfl, h0, r0⟩ := trodAll_cons hA
  obtain ⟨v1, vs1, d1, ds1, p1, q1, rfl, rfl, rfl, h1, r1⟩ := trodAll_cons r0
  obtain ⟨v2, vs2, d2, ds2, p2, q2, rfl, rfl, rfl, h2, r2⟩ := trodAll_cons r1
  obtain ⟨v3, vs3, d3, ds3, p3, q3, rfl, rfl, rfl, h3, r3⟩ := trodAll_cons r2
  obtain ⟨rfl, rfl, rfl⟩ := trodAll_nil r3
  obtain rfl : args = #[v0, v1, v2, v3] := by cases args; simp_all
  obtain ⟨rfl, rfl⟩ := trodVars_none hV
  obtain ⟨a0, rfl, rfl, rfl, y0⟩ := open_string Try.underlying9 (hval 0 9 v0 rfl rfl) h0
  have w0 : a0.size ≤ 140737488351232 := by
    have z := sized_string hsz (j := 0) (t := 9) rfl rfl
    rw [Array.length_toList] at z
    exact z
  obtain ⟨a1, rfl, rfl, rfl, y1⟩ := open_string Try.underlying9 (hval 1 9 v1 rfl rfl) h1
  have w1 : a1.size ≤ 140737488351232 := by
    have z := sized_string hsz (j := 1) (t := 9) rfl rfl
    rw [Array.length_toList] at z
    exact z
  obtain ⟨a2, rfl, rfl, rfl, w2⟩ := open_int Try.underlying3 (hval 2 3 v2 rfl rfl) h2
  obtain ⟨a3, rfl, rfl, rfl, w3⟩ := open_int Try.underlying3 (hval 3 3 v3 rfl rfl) h3
  clear hA0 hval0 hsz0 hsz
  refine (walk a0 a1 a2 a3 W w0 w1 w2 w3).mono fun e W' ⟨he, bel⟩ => ?_
  subst he
  exact ⟨_, rfl, _, _, _, [], _, [], hW', trodAll_mk1 (shut_bool Try.underlying4 _), (trodAll_cons_mk (shut_string Try.underlying9 y0) (trodAll_cons_mk (shut_string Try.underlying9 y1) (trodAll_cons_mk (shut_int Try.underlying3 w2) (trodAll_cons_mk (shut_int Try.underlying3 w3) trodAll_mk0)))), rfl, bel.frame _, fun h => by cases h⟩
theorem over : Rows.polyEqualsRow.holds Try.pinned (OpenSpec.ofChange Rows.polyEqualsSpec) :=
  OpenClaim.holds_of_wide 3 Try.f3 rfl rfl rfl rfl rfl rfl rfl ⟨rfl, rfl, rfl, rfl, rfl⟩ rfl rfl rfl rfl rfl (by kernel_rfl) Try.func3 (by kernel_rfl)
    (of_decide_eq_true (by kernel_rfl)) (by unfold Func.isWrapper; first | (rw [if_pos (by decide +kernel)]; kernel_rfl) | (rw [if_neg (by decide +kernel)]; exact ⟨rfl, rfl⟩))
    (fun os started H enc _ => lifted os started H enc)
theorem proved : Rows.PolyEqualsSaid := over
end Go.Proofs.Ytnkdnnaelcgenaa.lawPolyEquals
namespace Go.Proofs.Ytnkdnnaelcgenaa
/-- The row, under a short name. -/
theorem polyEquals_holds : Rows.PolyEqualsSaid := lawPolyEquals.proved
end Go.Proofs.Ytnkdnnaelcgenaa
