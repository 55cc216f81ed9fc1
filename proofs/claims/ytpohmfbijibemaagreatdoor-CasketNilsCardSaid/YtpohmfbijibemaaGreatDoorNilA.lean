/- CasketNils. -/
import Derived.Test.YtpohmfbijibemaaGreatDoorEngC
import Derived.KernelRfl
import Derived.Test.YtpohmfbijibemaaGreatDoorProg
set_option linter.unusedVariables false
set_option linter.unusedSimpArgs false

/- The frame of all texts of a seat. -/
set_option linter.unusedSectionVars false
namespace Go.Eng
variable [CW : CWorld]
open Go.Proofs
set_option maxRecDepth 100000

noncomputable abbrev PP := Tryz.prog

/-- A frame of n temporaries of which these are known. -/
def frame (n : Nat) (l : List (Nat × SV)) : List SV := (List.range n).map fun i => (l.lookup i).getD .any

def noInv : Invs := fun _ _ => none
def noSpec : Specs := fun _ _ _ => none
theorem noSpec_ok {P : Program} : SpecsOK P noSpec := fun _ f _ _ S h => by cases h

/-- The machine's arithmetic in plain words. -/
theorem ars : (∀ a b, ar0.le a b = (a ≤ b)) ∧ (∀ a b, ar0.lt a b = (a < b)) ∧ (∀ a b, ar0.eq a b = (a = b)) ∧ (∀ a b, ar0.add a b = a + b) ∧ (∀ a b, ar0.sub a b = a - b) ∧ (∀ a b, ar0.mul a b = a * b) ∧
    (∀ a b, ar0.quo a b = a.tdiv b) ∧ (∀ a b, ar0.rem a b = a.tmod b) ∧ (∀ s, ar0.slen s = (s.length : Int)) ∧ (∀ s, ar0.ilen s = (s.length : Int)) ∧ (∀ s t, ar0.seq s t = (s = t)) ∧ (∀ s t, ar0.sapp s t = s ++ t) ∧
    (∀ s a b, ar0.sext s a b = (s.take b.toNat).drop a.toNat) ∧ (∀ s i, ar0.sget s i = ((s.getD i.toNat 0).toNat : Int)) ∧ (∀ k n, ar0.wrap k n = k.wrap n) ∧
    (∀ a b : Nat, a.lt b = (a < b)) ∧ (∀ a b : Nat, a.le b = (a ≤ b)) ∧ (∀ a b : Nat, a.sub b = a - b) ∧ (∀ a b : Nat, a.add b = a + b) ∧ (∀ a b : Nat, a.mul b = a * b) ∧ (∀ a b : Int, a.add b = a + b) ∧ (∀ a b : Int, a.mul b = a * b) :=
  ⟨fun _ _ => rfl, fun _ _ => rfl, fun _ _ => rfl, fun _ _ => rfl, fun _ _ => rfl, fun _ _ => rfl, fun _ _ => rfl, fun _ _ => rfl, fun _ => rfl, fun _ => rfl, fun _ _ => rfl, fun _ _ => rfl, fun _ _ _ => rfl, fun _ _ => rfl, fun _ _ => rfl,
    fun _ _ => rfl, fun _ _ => rfl, fun _ _ => rfl, fun _ _ => rfl, fun _ _ => rfl, fun _ _ => rfl, fun _ _ => rfl⟩
end Go.Eng

/- VaultNils. -/
set_option linter.unusedSectionVars false
set_option linter.unusedSimpArgs false
set_option linter.unusedVariables false
namespace Go.Eng
variable [CW : CWorld]
open Go.Proofs
set_option maxRecDepth 100000
attribute [local irreducible] run
noncomputable def vnSpec : Spec where
  X := Int × Int × Int × Int × Int × Int
  A x := [.agg [.int .i64 (.x x.1), .int .i64 (.x x.2.1), .int .i64 (.x x.2.2.1), .int .i64 (.x x.2.2.2.1), .int .i64 (.x x.2.2.2.2.1), .int .i64 (.x x.2.2.2.2.2)]]
  H _ := []
  pre _ := True
  outs := [lawOut _]
def vn_vc (ar : AR) (x : vnSpec.X) : Prop :=
  (ar.lt 67108864 (ar.slen [UInt8.ofNat 115, UInt8.ofNat 111, UInt8.ofNat 109, UInt8.ofNat 101, UInt8.ofNat 32, UInt8.ofNat 98, UInt8.ofNat 121, UInt8.ofNat 116, UInt8.ofNat 101,
  UInt8.ofNat 115, UInt8.ofNat 32, UInt8.ofNat 111, UInt8.ofNat 102, UInt8.ofNat 32, UInt8.ofNat 97, UInt8.ofNat 32, UInt8.ofNat 116, UInt8.ofNat 97, UInt8.ofNat 112, UInt8.ofNat
  101]) → ∃ (y : Unit), True ∧ False) ∧ (¬ar.lt 67108864 (ar.slen [UInt8.ofNat 115, UInt8.ofNat 111, UInt8.ofNat 109, UInt8.ofNat 101, UInt8.ofNat 32, UInt8.ofNat 98, UInt8.ofNat
  121, UInt8.ofNat 116, UInt8.ofNat 101, UInt8.ofNat 115, UInt8.ofNat 32, UInt8.ofNat 111, UInt8.ofNat 102, UInt8.ofNat 32, UInt8.ofNat 97, UInt8.ofNat 32, UInt8.ofNat 116,
  UInt8.ofNat 97, UInt8.ofNat 112, UInt8.ofNat 101]) → ar.le 0 (ar.slen [UInt8.ofNat 115, UInt8.ofNat 111, UInt8.ofNat 109, UInt8.ofNat 101, UInt8.ofNat 32, UInt8.ofNat 98,
  UInt8.ofNat 121, UInt8.ofNat 116, UInt8.ofNat 101, UInt8.ofNat 115, UInt8.ofNat 32, UInt8.ofNat 111, UInt8.ofNat 102, UInt8.ofNat 32, UInt8.ofNat 97, UInt8.ofNat 32, UInt8.ofNat
  116, UInt8.ofNat 97, UInt8.ofNat 112, UInt8.ofNat 101]) ∧ ar.le (ar.slen [UInt8.ofNat 115, UInt8.ofNat 111, UInt8.ofNat 109, UInt8.ofNat 101, UInt8.ofNat 32, UInt8.ofNat 98,
  UInt8.ofNat 121, UInt8.ofNat 116, UInt8.ofNat 101, UInt8.ofNat 115, UInt8.ofNat 32, UInt8.ofNat 111, UInt8.ofNat 102, UInt8.ofNat 32, UInt8.ofNat 97, UInt8.ofNat 32, UInt8.ofNat
  116, UInt8.ofNat 97, UInt8.ofNat 112, UInt8.ofNat 101]) (ar.slen [UInt8.ofNat 115, UInt8.ofNat 111, UInt8.ofNat 109, UInt8.ofNat 101, UInt8.ofNat 32, UInt8.ofNat 98, UInt8.ofNat
  121, UInt8.ofNat 116, UInt8.ofNat 101, UInt8.ofNat 115, UInt8.ofNat 32, UInt8.ofNat 111, UInt8.ofNat 102, UInt8.ofNat 32, UInt8.ofNat 97, UInt8.ofNat 32, UInt8.ofNat 116,
  UInt8.ofNat 97, UInt8.ofNat 112, UInt8.ofNat 101]) ∧ ar.le (ar.mul (ar.slen [UInt8.ofNat 115, UInt8.ofNat 111, UInt8.ofNat 109, UInt8.ofNat 101, UInt8.ofNat 32, UInt8.ofNat 98,
  UInt8.ofNat 121, UInt8.ofNat 116, UInt8.ofNat 101, UInt8.ofNat 115, UInt8.ofNat 32, UInt8.ofNat 111, UInt8.ofNat 102, UInt8.ofNat 32, UInt8.ofNat 97, UInt8.ofNat 32, UInt8.ofNat
  116, UInt8.ofNat 97, UInt8.ofNat 112, UInt8.ofNat 101]) 1) 140737488355328 ∧ ar.le 0 (ar.ilen (ar.irep 0 (ar.slen [UInt8.ofNat 115, UInt8.ofNat 111, UInt8.ofNat 109, UInt8.ofNat
  101, UInt8.ofNat 32, UInt8.ofNat 98, UInt8.ofNat 121, UInt8.ofNat 116, UInt8.ofNat 101, UInt8.ofNat 115, UInt8.ofNat 32, UInt8.ofNat 111, UInt8.ofNat 102, UInt8.ofNat 32,
  UInt8.ofNat 97, UInt8.ofNat 32, UInt8.ofNat 116, UInt8.ofNat 97, UInt8.ofNat 112, UInt8.ofNat 101]))) ∧ ar.le (ar.add 0 (ar.ilen (ar.isub (ar.ints [UInt8.ofNat 115, UInt8.ofNat
  111, UInt8.ofNat 109, UInt8.ofNat 101, UInt8.ofNat 32, UInt8.ofNat 98, UInt8.ofNat 121, UInt8.ofNat 116, UInt8.ofNat 101, UInt8.ofNat 115, UInt8.ofNat 32, UInt8.ofNat 111,
  UInt8.ofNat 102, UInt8.ofNat 32, UInt8.ofNat 97, UInt8.ofNat 32, UInt8.ofNat 116, UInt8.ofNat 97, UInt8.ofNat 112, UInt8.ofNat 101]) 0 (ar.mn (ar.slen [UInt8.ofNat 115,
  UInt8.ofNat 111, UInt8.ofNat 109, UInt8.ofNat 101, UInt8.ofNat 32, UInt8.ofNat 98, UInt8.ofNat 121, UInt8.ofNat 116, UInt8.ofNat 101, UInt8.ofNat 115, UInt8.ofNat 32, UInt8.ofNat
  111, UInt8.ofNat 102, UInt8.ofNat 32, UInt8.ofNat 97, UInt8.ofNat 32, UInt8.ofNat 116, UInt8.ofNat 97, UInt8.ofNat 112, UInt8.ofNat 101]) (ar.slen [UInt8.ofNat 115, UInt8.ofNat
  111, UInt8.ofNat 109, UInt8.ofNat 101, UInt8.ofNat 32, UInt8.ofNat 98, UInt8.ofNat 121, UInt8.ofNat 116, UInt8.ofNat 101, UInt8.ofNat 115, UInt8.ofNat 32, UInt8.ofNat 111,
  UInt8.ofNat 102, UInt8.ofNat 32, UInt8.ofNat 97, UInt8.ofNat 32, UInt8.ofNat 116, UInt8.ofNat 97, UInt8.ofNat 112, UInt8.ofNat 101]))))) (ar.slen [UInt8.ofNat 115, UInt8.ofNat
  111, UInt8.ofNat 109, UInt8.ofNat 101, UInt8.ofNat 32, UInt8.ofNat 98, UInt8.ofNat 121, UInt8.ofNat 116, UInt8.ofNat 101, UInt8.ofNat 115, UInt8.ofNat 32, UInt8.ofNat 111,
  UInt8.ofNat 102, UInt8.ofNat 32, UInt8.ofNat 97, UInt8.ofNat 32, UInt8.ofNat 116, UInt8.ofNat 97, UInt8.ofNat 112, UInt8.ofNat 101]) ∧ ∀ (z : Int), z = ar.wrap IntKind.i64
  (ar.sub (ar.slen [UInt8.ofNat 115, UInt8.ofNat 111, UInt8.ofNat 109, UInt8.ofNat 101, UInt8.ofNat 32, UInt8.ofNat 98, UInt8.ofNat 121, UInt8.ofNat 116, UInt8.ofNat 101,
  UInt8.ofNat 115, UInt8.ofNat 32, UInt8.ofNat 111, UInt8.ofNat 102, UInt8.ofNat 32, UInt8.ofNat 97, UInt8.ofNat 32, UInt8.ofNat 116, UInt8.ofNat 97, UInt8.ofNat 112, UInt8.ofNat
  101]) 0) → (ar.eq z 20 → (ar.seq [] [] → ∃ (y : Unit), True ∧ True) ∧ (¬ar.seq [] [] → ∃ (y : Unit), True ∧ False)) ∧ (¬ar.eq z 20 → ∃ (y : Unit), True ∧ False))
theorem vn_eq (ar : AR) (x : vnSpec.X) : (run ar PP noSpec noInv 1000 3 (vnSpec.H x).length (Tryz.f3.body.getD .skip) (vnSpec.A x ++ List.replicate (Tryz.f3.ntmps - (vnSpec.A x).length) .any) (vnSpec.H x) (endCall ar PP Tryz.f3.results.toList (vnSpec.fin x))) = vn_vc ar x := by
  kernel_rfl
theorem vn_of (h : ∀ x, vnSpec.pre x → vn_vc ar0 x) : vnSpec.OK PP 3 :=
  Spec.ok_of_run (fn := Tryz.f3) (c := Tryz.f3.body.getD .skip) (by kernel_rfl) (by kernel_rfl) (by kernel_rfl) noSpec_ok (fun _ => noInv) 1000 (fun x hx => (vn_eq ar0 x).mpr (h x hx))
theorem vnSpec_ok : vnSpec.OK PP 3 := by
  refine vn_of fun x hx => ?_
  unfold vn_vc
  refine ⟨fun h => absurd h (by change ¬ (_ : Int) < _; decide), fun _ => ⟨by change (_ : Int) ≤ _; decide, by change (_ : Int) ≤ _; decide, by change (_ : Int) ≤ _; decide, by change (_ : Int) ≤ _; decide, by change (_ : Int) ≤ _; decide, fun z hz => ?_⟩⟩
  have h20 : z = 20 := hz.trans (by decide)
  subst h20
  exact ⟨fun _ => ⟨fun _ => ⟨(), trivial, trivial⟩, fun h => absurd rfl h⟩, fun h => absurd rfl h⟩
end Go.Eng

set_option linter.unusedSectionVars false
set_option linter.unusedSimpArgs false
set_option linter.unusedVariables false
namespace Go.Eng
variable [CW : CWorld]
open Go.Proofs
set_option maxRecDepth 100000
attribute [local irreducible] run
structure ActX where
  k : Int
  cols : List Col
  len : Int
  cap : Int
  i : Int
  b : Int
  ek : Int
  p : Int
  fr : Int
  nm : List UInt8
  bl : List UInt8
noncomputable def cnSpec : Spec where
  X := ActX
  A x := [.agg [.int .i64 (.x x.k), .cs x.cols (.x x.len) (.x x.cap), .int .i64 (.x x.i), .int .i64 (.x x.b), .int .i64 (.x x.ek), .int .i64 (.x x.p), .int .i64 (.x x.fr), .str x.nm, .str x.bl]]
  H _ := []
  pre _ := True
  outs := [lawOut _]
def cn_vc (ar : AR) (x : cnSpec.X) : Prop :=
  ((false = true ↔ false = true) ∧ (false = true ↔ false = true) ∧ true = true ∧ true = true ∧ true = true → (ar.seq [] [] ∧ ar.seq [] [] ∧ (false = true ↔ false = true) → ∃ (y :
  Unit), True ∧ True) ∧ (¬(ar.seq [] [] ∧ ar.seq [] [] ∧ (false = true ↔ false = true)) → ∃ (y : Unit), True ∧ False)) ∧ (¬((false = true ↔ false = true) ∧ (false = true ↔ false =
  true) ∧ true = true ∧ true = true ∧ true = true) → ∃ (y : Unit), True ∧ False)
theorem cn_eq (ar : AR) (x : cnSpec.X) : (run ar PP noSpec noInv 1000 4 (cnSpec.H x).length (Tryz.f4.body.getD .skip) (cnSpec.A x ++ List.replicate (Tryz.f4.ntmps - (cnSpec.A x).length) .any) (cnSpec.H x) (endCall ar PP Tryz.f4.results.toList (cnSpec.fin x))) = cn_vc ar x := by
  kernel_rfl
theorem cn_of (h : ∀ x, cnSpec.pre x → cn_vc ar0 x) : cnSpec.OK PP 4 :=
  Spec.ok_of_run (fn := Tryz.f4) (c := Tryz.f4.body.getD .skip) (by kernel_rfl) (by kernel_rfl) (by kernel_rfl) noSpec_ok (fun _ => noInv) 1000 (fun x hx => (cn_eq ar0 x).mpr (h x hx))
theorem cnSpec_ok : cnSpec.OK PP 4 := by
  refine cn_of fun x hx => ?_
  unfold cn_vc
  exact ⟨fun _ => ⟨fun _ => ⟨(), trivial, trivial⟩, fun h => absurd ⟨rfl, rfl, Iff.rfl⟩ h⟩, fun h => absurd ⟨Iff.rfl, Iff.rfl, rfl, rfl, rfl⟩ h⟩
end Go.Eng
