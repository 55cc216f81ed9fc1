/- Index: EncodeRoot, the program's and the document's; SameRoot. -/
import Derived.Test.YtfcjboomlfjanaaDoorEngC
import Derived.KernelRfl
import Derived.Test.YtfcjboomlfjanaaDoorProg
set_option linter.unusedVariables false
set_option linter.unusedSimpArgs false
/- The frame of all texts of a seat. -/
set_option linter.unusedSectionVars false
namespace Go.Eng
variable [CW : CWorld]
open Go.Proofs
set_option maxRecDepth 100000
noncomputable abbrev PP := Tryd.prog
def frame (n : Nat) (l : List (Nat × SV)) : List SV := (List.range n).map fun i => (l.lookup i).getD .any
def noInv : Invs := fun _ _ => none
def noSpec : Specs := fun _ _ _ => none
theorem noSpec_ok {P : Program} : SpecsOK P noSpec := fun _ f _ _ S h => by cases h
def lateMark : Spec where
  X := Unit
  A _ := []
  H _ := []
  pre _ := False
  outs := []
  far := true
theorem lateMark_ok : lateMark.OK PP 2 := ⟨⟨Tryd.f2, by kernel_rfl, by kernel_rfl, by kernel_rfl⟩, fun x hx => hx.elim⟩
theorem ars : (∀ a b, ar0.le a b = (a ≤ b)) ∧ (∀ a b, ar0.lt a b = (a < b)) ∧ (∀ a b, ar0.eq a b = (a = b)) ∧ (∀ a b, ar0.add a b = a + b) ∧ (∀ a b, ar0.sub a b = a - b) ∧ (∀ a b, ar0.mul a b = a * b) ∧
    (∀ a b, ar0.quo a b = a.tdiv b) ∧ (∀ a b, ar0.rem a b = a.tmod b) ∧ (∀ s, ar0.slen s = (s.length : Int)) ∧ (∀ s, ar0.ilen s = (s.length : Int)) ∧ (∀ s t, ar0.seq s t = (s = t)) ∧ (∀ s t, ar0.sapp s t = s ++ t) ∧
    (∀ s a b, ar0.sext s a b = (s.take b.toNat).drop a.toNat) ∧ (∀ s i, ar0.sget s i = ((s.getD i.toNat 0).toNat : Int)) ∧ (∀ k n, ar0.wrap k n = k.wrap n) ∧
    (∀ a b : Nat, a.lt b = (a < b)) ∧ (∀ a b : Nat, a.le b = (a ≤ b)) ∧ (∀ a b : Nat, a.sub b = a - b) ∧ (∀ a b : Nat, a.add b = a + b) ∧ (∀ a b : Nat, a.mul b = a * b) ∧ (∀ a b : Int, a.add b = a + b) ∧ (∀ a b : Int, a.mul b = a * b) :=
  ⟨fun _ _ => rfl, fun _ _ => rfl, fun _ _ => rfl, fun _ _ => rfl, fun _ _ => rfl, fun _ _ => rfl, fun _ _ => rfl, fun _ _ => rfl, fun _ => rfl, fun _ => rfl, fun _ _ => rfl, fun _ _ => rfl, fun _ _ _ => rfl, fun _ _ => rfl, fun _ _ => rfl,
    fun _ _ => rfl, fun _ _ => rfl, fun _ _ => rfl, fun _ _ => rfl, fun _ _ => rfl, fun _ _ => rfl, fun _ _ => rfl⟩
end Go.Eng
/- Arithmetic of the machine's numbers, as plain numbers. -/
set_option linter.unusedSimpArgs false
set_option linter.unusedSectionVars false
namespace Go.Eng
variable [CW : CWorld]
theorem wrap_i64 {n : Int} (h0 : -9223372036854775808 ≤ n) (h1 : n < 9223372036854775808) : IntKind.i64.wrap n = n := by
  show (if (true && decide (n % (2 ^ 64 : Int) ≥ (2 ^ 63 : Int))) = true then n % (2 ^ 64 : Int) - (2 ^ 64 : Int) else n % (2 ^ 64 : Int)) = n
  rw [show (2 : Int) ^ 64 = 18446744073709551616 by decide, show (2 : Int) ^ 63 = 9223372036854775808 by decide]
  by_cases h : n % 18446744073709551616 ≥ 9223372036854775808
  · rw [if_pos (by simpa using h)]; omega
  · rw [if_neg (by simpa using h)]; omega
theorem wrap_u8 (n : Int) : IntKind.u8.wrap n = n % 256 := by
  show (if (false && decide (n % (2 ^ 8 : Int) ≥ (2 ^ 7 : Int))) = true then n % (2 ^ 8 : Int) - (2 ^ 8 : Int) else n % (2 ^ 8 : Int)) = _
  rw [show (2 : Int) ^ 8 = 256 by decide]
  simp
end Go.Eng
set_option linter.unusedSectionVars false
namespace Go.Eng
variable [CW : CWorld]
/-! The same of whole numbers that fit. -/
end Go.Eng
/- Index: configurations; Check and Pages. -/
namespace Go.PL
structure Cfg where
  slots : Int
  files : Int
  dirs : Int
  most : Int
  least : Int
  page : Int
structure CfgIn (c : Cfg) : Prop where
  slots : 1 ≤ c.slots ∧ c.slots ≤ 64
  files : 1 ≤ c.files ∧ c.files ≤ 65536
  dirs : 0 ≤ c.dirs ∧ c.dirs ≤ 4096
  most : 0 ≤ c.most ∧ c.most ≤ 65536
  least : 16 ≤ c.least ∧ c.least ≤ 65536
  page : 64 ≤ c.page ∧ c.page ≤ 65536
def lenI (c : Cfg) : Int := 36 * c.dirs + 40 * c.files + 44 * (c.files + c.slots) + 4
def pagesI (c : Cfg) : Int := (lenI c + (c.page - 5) - 1) / (c.page - 5)
structure CfgOK (c : Cfg) : Prop where
  ok : CfgIn c
  pages : pagesI c ≤ 1024
structure CfgBad (c : Cfg) : Prop where
  no : ¬ CfgOK c
structure CfgAny (c : Cfg) : Prop where
  any : True
def cntI (c : Cfg) (i : Nat) : Int := if i = 0 then c.dirs else if i = 1 then c.files else if i = 2 then c.files + c.slots else 1 + c.files + c.slots
def szI (i : Nat) : Int := if i = 0 then 36 else if i = 3 then 4 else 40
def sizeI (c : Cfg) : Nat → Int
  | 0 => 0
  | i + 1 => sizeI c i + cntI c i * szI i
def szL : List Int := [36, 40, 40, 4]
structure SizeIx (i : Nat) : Prop where
  le : i ≤ 4
structure Ints3 (x : Int × Int × Int) : Prop where
  any : True
noncomputable def chk (c : Cfg) : Int := @ite _ (CfgOK c) (Classical.propDecidable _) 0 140
noncomputable def pagesOr0 (c : Cfg) : Int := @ite _ (CfgOK c) (Classical.propDecidable _) (pagesI c) 0
theorem chk_ok {c : Cfg} (h : CfgOK c) : chk c = 0 := if_pos h
theorem chk_bad {c : Cfg} (h : ¬ CfgOK c) : chk c = 140 := if_neg h
theorem pagesOr0_ok {c : Cfg} (h : CfgOK c) : pagesOr0 c = pagesI c := if_pos h
theorem pagesOr0_bad {c : Cfg} (h : ¬ CfgOK c) : pagesOr0 c = 0 := if_neg h
theorem chk_zero {c : Cfg} : chk c = 0 ↔ CfgOK c := by
  constructor
  · intro h
    by_cases hc : CfgOK c
    · exact hc
    · rw [chk_bad hc] at h; omega
  · exact chk_ok
end Go.PL
set_option linter.unusedSectionVars false
set_option linter.unusedSimpArgs false
set_option linter.unusedVariables false
namespace Go.Eng
variable [CW : CWorld]
open Go.Proofs
open Go.PL (Cfg CfgIn CfgOK CfgBad)
set_option maxRecDepth 100000
attribute [local irreducible] run
def cfgL (c : Cfg) : List SV := [.int .i64 (.x c.slots), .int .i64 (.x c.files), .int .i64 (.x c.dirs), .int .i64 (.x c.most), .int .i64 (.x c.least), .int .i64 (.x c.page)]
def betweenSpec : Spec where
  X := Int × Int × Int
  A x := [.int .i64 (.x x.1), .int .i64 (.x x.2.1), .int .i64 (.x x.2.2)]
  H _ := []
  pre x := PL.Ints3 x
  outs := [{ Y _ := Unit, post _ _ := True, R x _ := .bool (.x (x.2.1 ≤ x.1 ∧ x.1 ≤ x.2.2)), H' _ _ := [] }]
def rowsSpec : Spec where
  X := Cfg
  A x := [.agg (cfgL x)]
  H _ := []
  pre x := PL.CfgIn x
  outs := [{ Y _ := Unit, post _ _ := True, R x _ := .tup [.agg [.int .i64 (.x x.dirs), .int .i64 (.x x.files), .int .i64 (.x (x.files + x.slots)), .int .i64 (.x (1 + x.files + x.slots))], .agg [.int .i64 (.l 36), .int .i64 (.l 40), .int .i64 (.l 40), .int .i64 (.l 4)]], H' _ _ := [] }]
def sizeSpec : Spec where
  X := Cfg
  A x := [.agg (cfgL x)]
  H _ := []
  pre x := PL.CfgIn x
  outs := [{ Y _ := Unit, post _ _ := True, R x _ := .int .i64 (.x (PL.lenI x)), H' _ _ := [] }]
def pagesSpec : Spec where
  X := Cfg
  A x := [.agg (cfgL x)]
  H _ := []
  pre x := PL.CfgIn x
  outs := [{ Y _ := Unit, post _ _ := True, R x _ := .int .i64 (.x (PL.pagesI x)), H' _ _ := [] }]
noncomputable def checkSpec : Spec where
  X := Cfg
  A x := [.agg (cfgL x)]
  H _ := []
  pre x := PL.CfgAny x
  outs := [{ Y _ := Unit, post x _ := True, R x _ := .int .i64 (.x (PL.chk x)), H' _ _ := [] }]
noncomputable def PagesSpec : Spec where
  X := Cfg
  A x := [.agg (cfgL x)]
  H _ := []
  pre x := PL.CfgAny x
  outs := [{ Y _ := Unit, post x _ := True, R x _ := .tup [.int .i64 (.x (PL.pagesOr0 x)), .int .i64 (.x (PL.chk x))], H' _ _ := [] }]
def numSpec : Spec where
  X := Int
  A x := [.int .i64 (.x x)]
  H _ := []
  pre x := PL.Ints3 (x, x, x)
  outs := [{ Y _ := Unit, post _ _ := True, R x _ := .int .i64 (.x x), H' _ _ := [] }]
def cntB (c : Cfg) : Blk := .mk 118 [.arr (.l 4) [.ints .i64 [c.dirs, c.files, c.files + c.slots, 1 + c.files + c.slots]]]
def szB : Blk := .mk 118 [.arr (.l 4) [.ints .i64 PL.szL]]
def sizeInv (c : Cfg) : Code → List SV → List Blk → List Inv := fun b fr hp => [
  { ι := Nat, fr := fun i => upd (havoc b fr) [(12, .int .i64 (.x (i : Int))), (5, .int .i64 (.x (PL.sizeI c i)))], hp := fun _ => [hp.getD 0 .gone, cntB c, szB], μ := fun i => 4 - i, ok := fun i => PL.SizeIx i }]
def sizeInvs (c : Cfg) : Invs := fun f n => match f, n with
  | 58, 4 => some (sizeInv c)
  | _, _ => none
theorem ex_cfg {x : Cfg} {Q : Cfg → Prop} : (∃ y : Cfg, x.slots = y.slots ∧ x.files = y.files ∧ x.dirs = y.dirs ∧ x.most = y.most ∧ x.least = y.least ∧ x.page = y.page ∧ Q y) ↔ Q x := by
  constructor
  · rintro ⟨⟨a, b, c, d, e, f⟩, h1, h2, h3, h4, h5, h6, h⟩
    simp only at h1 h2 h3 h4 h5 h6
    subst h1 h2 h3 h4 h5 h6
    exact h
  · exact fun h => ⟨x, rfl, rfl, rfl, rfl, rfl, rfl, h⟩
theorem ex_int3 {a b c : Int} {Q : Int × Int × Int → Prop} : (∃ y : Int × Int × Int, a = y.1 ∧ b = y.2.1 ∧ c = y.2.2 ∧ Q y) ↔ Q (a, b, c) := by
  constructor
  · rintro ⟨⟨x, y, z⟩, rfl, rfl, rfl, h⟩
    exact h
  · exact fun h => ⟨(a, b, c), rfl, rfl, rfl, h⟩
theorem ints3 (x : Int × Int × Int) : PL.Ints3 x := ⟨trivial⟩
theorem cfgAny (c : Cfg) : PL.CfgAny c := ⟨trivial⟩
theorem cfgBad {c : Cfg} : CfgBad c ↔ ¬ CfgOK c := ⟨fun h => h.no, fun h => ⟨h⟩⟩
def between_vc (ar : AR) (x : betweenSpec.X) : Prop :=
  (ar.le x.snd.fst x.fst → ∃ (y : Unit), True ∧ (ar.le x.fst x.snd.snd ↔ x.snd.fst.le x.fst ∧ x.fst.le x.snd.snd) ∧ True) ∧ (¬ar.le x.snd.fst x.fst → ∃ (y : Unit), True ∧ (false =
  true ↔ x.snd.fst.le x.fst ∧ x.fst.le x.snd.snd) ∧ True)
theorem between_eq (ar : AR) (x : betweenSpec.X) : (run ar PP noSpec noInv 1000 57 (betweenSpec.H x).length (Tryd.f57.body.getD .skip) (betweenSpec.A x ++ List.replicate (Tryd.f57.ntmps - (betweenSpec.A x).length) .any) (betweenSpec.H x) (endCall ar PP Tryd.f57.results.toList (betweenSpec.fin x))) = between_vc ar x := by
  kernel_rfl
theorem between_of (h : ∀ x, betweenSpec.pre x → between_vc ar0 x) : betweenSpec.OK PP 57 :=
  Spec.ok_of_run (fn := Tryd.f57) (c := Tryd.f57.body.getD .skip) (by kernel_rfl) (by kernel_rfl) (by kernel_rfl) noSpec_ok (fun _ => noInv) 1000 (fun x hx => (between_eq ar0 x).mpr (h x hx))
theorem betweenSpec_ok : betweenSpec.OK PP 57 := by
  refine between_of fun x hx => ?_
  unfold between_vc
  simp only [ars, exists_const, true_and, and_true]
  exact ⟨fun h => ⟨fun h2 => ⟨h, h2⟩, fun h2 => h2.2⟩, fun h => ⟨fun h2 => (by cases h2), fun h2 => absurd h2.1 h⟩⟩
def num_vc (ar : AR) (x : numSpec.X) : Prop :=
  ∃ (y : Unit), True ∧ x = x ∧ True
theorem num_eq (ar : AR) (x : numSpec.X) : (run ar PP noSpec noInv 1000 14 (numSpec.H x).length (Tryd.f14.body.getD .skip) (numSpec.A x ++ List.replicate (Tryd.f14.ntmps - (numSpec.A x).length) .any) (numSpec.H x) (endCall ar PP Tryd.f14.results.toList (numSpec.fin x))) = num_vc ar x := by
  kernel_rfl
theorem num_of (h : ∀ x, numSpec.pre x → num_vc ar0 x) : numSpec.OK PP 14 :=
  Spec.ok_of_run (fn := Tryd.f14) (c := Tryd.f14.body.getD .skip) (by kernel_rfl) (by kernel_rfl) (by kernel_rfl) noSpec_ok (fun _ => noInv) 1000 (fun x hx => (num_eq ar0 x).mpr (h x hx))
theorem numSpec_ok : numSpec.OK PP 14 := by
  refine num_of fun x hx => ?_
  exact ⟨(), trivial, rfl, trivial⟩
noncomputable def qSpecs : Specs := fun f xs hp => match f with
  | 57 => some betweenSpec
  | _ => noSpec f xs hp
theorem qSpecs_ok : SpecsOK PP qSpecs := by
  intro CW f xs hp S h
  unfold qSpecs at h
  split at h
  · cases h; exact betweenSpec_ok
  · exact noSpec_ok CW f xs hp S h
def rows_vc (ar : AR) (x : rowsSpec.X) : Prop :=
  ∀ (z : Int), z = ar.wrap IntKind.i64 (ar.add x.files x.slots) → ∀ (z_1 : Int), z_1 = ar.wrap IntKind.i64 (ar.add 1 x.files) → ∀ (z_2 : Int), z_2 = ar.wrap IntKind.i64 (ar.add z_1
  x.slots) → ∃ (y : Unit), True ∧ x.dirs = x.dirs ∧ x.files = x.files ∧ z = x.files.add x.slots ∧ z_2 = (Int.add 1 x.files).add x.slots ∧ True
theorem rows_eq (ar : AR) (x : rowsSpec.X) : (run ar PP qSpecs noInv 1000 80 (rowsSpec.H x).length (Tryd.f80.body.getD .skip) (rowsSpec.A x ++ List.replicate (Tryd.f80.ntmps - (rowsSpec.A x).length) .any) (rowsSpec.H x) (endCall ar PP Tryd.f80.results.toList (rowsSpec.fin x))) = rows_vc ar x := by
  kernel_rfl
theorem rows_of (h : ∀ x, rowsSpec.pre x → rows_vc ar0 x) : rowsSpec.OK PP 80 :=
  Spec.ok_of_run (fn := Tryd.f80) (c := Tryd.f80.body.getD .skip) (by kernel_rfl) (by kernel_rfl) (by kernel_rfl) qSpecs_ok (fun _ => noInv) 1000 (fun x hx => (rows_eq ar0 x).mpr (h x hx))
theorem rowsSpec_ok : rowsSpec.OK PP 80 := by
  refine rows_of fun (x : Cfg) hx => ?_
  obtain ⟨h1, h2, h3, h4, h5, h6⟩ : CfgIn x := hx
  unfold rows_vc
  simp only [ars, exists_const, true_and, and_true]
  intro z hz z1 hz1 z2 hz2
  rw [wrap_i64 (by omega) (by omega)] at hz
  rw [wrap_i64 (by omega) (by omega)] at hz1
  subst hz hz1
  rw [wrap_i64 (by omega) (by omega)] at hz2
  exact ⟨rfl, hz2⟩
def length_vc (ar : AR) (x : sizeSpec.X) : Prop :=
  ∀ (z : Int), z = ar.wrap IntKind.i64 (ar.mul 36 x.dirs) → ∀ (z_1 : Int), z_1 = ar.wrap IntKind.i64 (ar.mul 40 x.files) → ∀ (z_2 : Int), z_2 = ar.wrap IntKind.i64 (ar.add z z_1) →
  ∀ (z : Int), z = ar.wrap IntKind.i64 (ar.add x.files x.slots) → ∀ (z_3 : Int), z_3 = ar.wrap IntKind.i64 (ar.mul 44 z) → ∀ (z : Int), z = ar.wrap IntKind.i64 (ar.add z_2 z_3) → ∀
  (z_4 : Int), z_4 = ar.wrap IntKind.i64 (ar.add z 4) → ∃ (y : Unit), True ∧ z_4 = PL.lenI x ∧ True
theorem length_eq (ar : AR) (x : sizeSpec.X) : (run ar PP qSpecs noInv 1000 72 (sizeSpec.H x).length (Tryd.f72.body.getD .skip) (sizeSpec.A x ++ List.replicate (Tryd.f72.ntmps - (sizeSpec.A x).length) .any) (sizeSpec.H x) (endCall ar PP Tryd.f72.results.toList (sizeSpec.fin x))) = length_vc ar x := by
  kernel_rfl
theorem length_of (h : ∀ x, sizeSpec.pre x → length_vc ar0 x) : sizeSpec.OK PP 72 :=
  Spec.ok_of_run (fn := Tryd.f72) (c := Tryd.f72.body.getD .skip) (by kernel_rfl) (by kernel_rfl) (by kernel_rfl) qSpecs_ok (fun _ => noInv) 1000 (fun x hx => (length_eq ar0 x).mpr (h x hx))
theorem length_ok : sizeSpec.OK PP 72 := by
  refine length_of fun (x : Cfg) hx => ?_
  obtain ⟨h1, h2, h3, h4, h5, h6⟩ : CfgIn x := hx
  unfold length_vc
  simp only [ars, exists_const, true_and, and_true, PL.lenI]
  intro z hz z1 hz1 z2 hz2 z3 hz3 z4 hz4 z5 hz5 z6 hz6
  rw [wrap_i64 (by omega) (by omega)] at hz
  rw [wrap_i64 (by omega) (by omega)] at hz1
  subst hz hz1
  rw [wrap_i64 (by omega) (by omega)] at hz2
  rw [wrap_i64 (by omega) (by omega)] at hz3
  subst hz2 hz3
  rw [wrap_i64 (by omega) (by omega)] at hz4
  subst hz4
  rw [wrap_i64 (by omega) (by omega)] at hz5
  subst hz5
  rw [wrap_i64 (by omega) (by omega)] at hz6
  rw [hz6]
theorem sizeI_4 (c : Cfg) : PL.sizeI c 4 = PL.lenI c := by
  simp [PL.sizeI, PL.cntI, PL.szI, PL.lenI]
  omega
noncomputable def sSpecs : Specs := fun f xs hp => match f with
  | 80 => some rowsSpec
  | _ => noSpec f xs hp
theorem sSpecs_ok : SpecsOK PP sSpecs := by
  intro CW f xs hp S h
  unfold sSpecs at h
  split at h
  · cases h; exact rowsSpec_ok
  · exact noSpec_ok CW f xs hp S h
def isize_vc (ar : AR) (x : sizeSpec.X) : Prop :=
  ∃ (x_1 : Cfg), x.slots = x_1.slots ∧ x.files = x_1.files ∧ x.dirs = x_1.dirs ∧ x.most = x_1.most ∧ x.least = x_1.least ∧ x.page = x_1.page ∧ CfgIn x_1 ∧ ∀ (y : Unit), True → (∃
  (i : Nat), PL.SizeIx i ∧ x.slots = x.slots ∧ x.files = x.files ∧ x.dirs = x.dirs ∧ x.most = x.most ∧ x.least = x.least ∧ x.page = x.page ∧ 0 = PL.sizeI x i ∧ x_1.dirs = x_1.dirs
  ∧ x_1.files = x_1.files ∧ x_1.files.add x_1.slots = x_1.files.add x_1.slots ∧ (Int.add 1 x_1.files).add x_1.slots = (Int.add 1 x_1.files).add x_1.slots ∧ x.slots = x.slots ∧
  x.files = x.files ∧ x.dirs = x.dirs ∧ x.most = x.most ∧ x.least = x.least ∧ x.page = x.page ∧ x_1.dirs = x_1.dirs ∧ x_1.files = x_1.files ∧ x_1.files.add x_1.slots =
  x_1.files.add x_1.slots ∧ (Int.add 1 x_1.files).add x_1.slots = (Int.add 1 x_1.files).add x_1.slots ∧ x_1.dirs = x_1.dirs ∧ x_1.files = x_1.files ∧ x_1.files.add x_1.slots =
  x_1.files.add x_1.slots ∧ (Int.add 1 x_1.files).add x_1.slots = (Int.add 1 x_1.files).add x_1.slots ∧ 0 = (↑i : Int) ∧ x.slots = x.slots ∧ x.files = x.files ∧ x.dirs = x.dirs ∧
  x.most = x.most ∧ x.least = x.least ∧ x.page = x.page ∧ [x_1.dirs, x_1.files, x_1.files.add x_1.slots, (Int.add 1 x_1.files).add x_1.slots] = [x.dirs, x.files, x.files.add
  x.slots, (Int.add 1 x.files).add x.slots] ∧ [36, 40, 40, 4] = PL.szL ∧ True) ∧ ∀ (i : Nat), PL.SizeIx i → (ar.lt (↑i : Int) 4 → ar.le 0 (↑i : Int) ∧ ar.lt (↑i : Int) 4 ∧ ar.le 0
  (↑i : Int) ∧ ar.lt (↑i : Int) (ar.ilen [x.dirs, x.files, x.files.add x.slots, (Int.add 1 x.files).add x.slots]) ∧ ar.le 0 (↑i : Int) ∧ ar.lt (↑i : Int) 4 ∧ ar.le 0 (↑i : Int) ∧
  ar.lt (↑i : Int) (ar.ilen PL.szL) ∧ ∀ (z : Int), z = ar.wrap IntKind.i64 (ar.mul (ar.iget [x.dirs, x.files, x.files.add x.slots, (Int.add 1 x.files).add x.slots] (↑i : Int))
  (ar.iget PL.szL (↑i : Int))) → ∀ (z_1 : Int), z_1 = ar.wrap IntKind.i64 (ar.add (PL.sizeI x i) z) → ∀ (z : Int), z = ar.wrap IntKind.i64 (ar.add (↑i : Int) 1) → ∃ (j : Nat),
  PL.SizeIx j ∧ (Nat.sub 4 j).lt (Nat.sub 4 i) ∧ x.slots = x.slots ∧ x.files = x.files ∧ x.dirs = x.dirs ∧ x.most = x.most ∧ x.least = x.least ∧ x.page = x.page ∧ z_1 = PL.sizeI x
  j ∧ x_1.dirs = x_1.dirs ∧ x_1.files = x_1.files ∧ x_1.files.add x_1.slots = x_1.files.add x_1.slots ∧ (Int.add 1 x_1.files).add x_1.slots = (Int.add 1 x_1.files).add x_1.slots ∧
  x.slots = x.slots ∧ x.files = x.files ∧ x.dirs = x.dirs ∧ x.most = x.most ∧ x.least = x.least ∧ x.page = x.page ∧ x_1.dirs = x_1.dirs ∧ x_1.files = x_1.files ∧ x_1.files.add
  x_1.slots = x_1.files.add x_1.slots ∧ (Int.add 1 x_1.files).add x_1.slots = (Int.add 1 x_1.files).add x_1.slots ∧ x_1.dirs = x_1.dirs ∧ x_1.files = x_1.files ∧ x_1.files.add
  x_1.slots = x_1.files.add x_1.slots ∧ (Int.add 1 x_1.files).add x_1.slots = (Int.add 1 x_1.files).add x_1.slots ∧ z = (↑j : Int) ∧ x.slots = x.slots ∧ x.files = x.files ∧ x.dirs
  = x.dirs ∧ x.most = x.most ∧ x.least = x.least ∧ x.page = x.page ∧ [x.dirs, x.files, x.files.add x.slots, (Int.add 1 x.files).add x.slots] = [x.dirs, x.files, x.files.add
  x.slots, (Int.add 1 x.files).add x.slots] ∧ PL.szL = PL.szL ∧ True) ∧ (¬ar.lt (↑i : Int) 4 → ∃ (y : Unit), True ∧ PL.sizeI x i = PL.lenI x ∧ True)
theorem isize_eq (ar : AR) (x : sizeSpec.X) : (run ar PP sSpecs (sizeInvs x) 1000 58 (sizeSpec.H x).length (Tryd.f58.body.getD .skip) (sizeSpec.A x ++ List.replicate (Tryd.f58.ntmps - (sizeSpec.A x).length) .any) (sizeSpec.H x) (endCall ar PP Tryd.f58.results.toList (sizeSpec.fin x))) = isize_vc ar x := by
  kernel_rfl
theorem isize_of (h : ∀ x, sizeSpec.pre x → isize_vc ar0 x) : sizeSpec.OK PP 58 :=
  Spec.ok_of_run (fn := Tryd.f58) (c := Tryd.f58.body.getD .skip) (by kernel_rfl) (by kernel_rfl) (by kernel_rfl) sSpecs_ok sizeInvs 1000 (fun x hx => (isize_eq ar0 x).mpr (h x hx))
theorem isize_ok : sizeSpec.OK PP 58 := by
  refine isize_of fun (x : Cfg) hx => ?_
  unfold isize_vc
  rw [ex_cfg]
  refine ⟨hx, fun _ _ => ⟨⟨0, ⟨by omega⟩, ?_⟩, ?_⟩⟩
  · and_intros <;> first | rfl | trivial
  obtain ⟨h1, h2, h3, h4, h5, h6⟩ := hx
  intro i ⟨hi⟩
  simp only [ars, exists_const, true_and, and_true]
  refine ⟨fun hi4 => ?_, fun hi4 => ?_⟩
  · refine ⟨by omega, hi4, by omega, by simp; omega, by omega, hi4, by omega, by simp [PL.szL]; omega, ?_⟩
    intro z hz z1 hz1 z2 hz2
    have hb : ar0.iget [x.dirs, x.files, x.files + x.slots, 1 + x.files + x.slots] (i : Int) = PL.cntI x i ∧ ar0.iget PL.szL (i : Int) = PL.szI i := by
      have : i = 0 ∨ i = 1 ∨ i = 2 ∨ i = 3 := by omega
      rcases this with rfl | rfl | rfl | rfl <;> exact ⟨rfl, rfl⟩
    rw [hb.1, hb.2] at hz
    have hr : 0 ≤ PL.cntI x i * PL.szI i ∧ PL.cntI x i * PL.szI i ≤ 10000000 ∧ 0 ≤ PL.sizeI x i ∧ PL.sizeI x i ≤ 100000000 := by
      have : i = 0 ∨ i = 1 ∨ i = 2 ∨ i = 3 := by omega
      rcases this with rfl | rfl | rfl | rfl <;> simp [PL.sizeI, PL.cntI, PL.szI] <;> omega
    rw [wrap_i64 (by omega) (by omega)] at hz
    subst hz
    rw [wrap_i64 (by omega) (by omega)] at hz1
    rw [wrap_i64 (by omega) (by omega)] at hz2
    subst hz1 hz2
    refine ⟨i + 1, ⟨by omega⟩, by omega, ?_⟩
    and_intros <;> first | rfl | trivial
  · have : i = 4 := by omega
    subst this
    exact sizeI_4 x
noncomputable def pSpecs : Specs := fun f _ _ => match f with
  | 58 => some sizeSpec
  | 72 => some sizeSpec
  | _ => none
theorem pSpecs_ok : SpecsOK PP pSpecs := by
  intro CW f xs _ S h
  unfold pSpecs at h
  split at h
  · cases h; exact isize_ok
  · cases h; exact length_ok
  · cases h
theorem pages_law {x : Cfg} (hx : CfgIn x) : ∀ (z : Int), z = ar0.wrap IntKind.i64 (ar0.sub x.page 5) → CfgIn x ∧ ∀ (y : Unit), True → ∀ (z_1 : Int), z_1 = ar0.wrap IntKind.i64 (ar0.add (PL.lenI x) z) → ∀ (z_2 : Int), z_2 = ar0.wrap IntKind.i64 (ar0.sub z_1 1) → ¬ar0.eq z 0 ∧ ∀ (z_3 : Int), z_3 = ar0.wrap IntKind.i64 (ar0.quo z_2 z) → ∃ (y : Unit), True ∧ z_3 = PL.pagesI x ∧ True := by
  intro z hz
  refine ⟨hx, fun _ _ => ?_⟩
  obtain ⟨h1, h2, h3, h4, h5, h6⟩ := hx
  simp only [ars, exists_const, true_and, and_true] at hz ⊢
  rw [wrap_i64 (by omega) (by omega)] at hz
  subst hz
  intro z1 hz1 z2 hz2
  have hl : 0 ≤ PL.lenI x ∧ PL.lenI x ≤ 100000000 := by unfold PL.lenI; omega
  rw [wrap_i64 (by omega) (by omega)] at hz1
  subst hz1
  rw [wrap_i64 (by omega) (by omega)] at hz2
  subst hz2
  refine ⟨by omega, fun z3 hz3 => ?_⟩
  have hp : 0 < x.page - 5 := by omega
  rw [Int.tdiv_eq_ediv_of_nonneg (by omega)] at hz3
  have hb : 0 ≤ (PL.lenI x + (x.page - 5) - 1) / (x.page - 5) := Int.ediv_nonneg (by omega) (by omega)
  have hb2 : (PL.lenI x + (x.page - 5) - 1) / (x.page - 5) ≤ PL.lenI x + (x.page - 5) - 1 := Int.ediv_le_self _ (by omega)
  rw [wrap_i64 (by omega) (by omega)] at hz3
  exact hz3
def ipages_vc (ar : AR) (x : pagesSpec.X) : Prop :=
  ∀ (z : Int), z = ar.wrap IntKind.i64 (ar.sub x.page 5) → ∃ (x_1 : Cfg), x.slots = x_1.slots ∧ x.files = x_1.files ∧ x.dirs = x_1.dirs ∧ x.most = x_1.most ∧ x.least = x_1.least ∧
  x.page = x_1.page ∧ CfgIn x_1 ∧ ∀ (y : Unit), True → ∀ (z_1 : Int), z_1 = ar.wrap IntKind.i64 (ar.add (PL.lenI x_1) z) → ∀ (z_2 : Int), z_2 = ar.wrap IntKind.i64 (ar.sub z_1 1) →
  ¬ar.eq z 0 ∧ ∀ (z_3 : Int), z_3 = ar.wrap IntKind.i64 (ar.quo z_2 z) → ∃ (y : Unit), True ∧ z_3 = PL.pagesI x ∧ True
theorem ipages_eq (ar : AR) (x : pagesSpec.X) : (run ar PP pSpecs noInv 1000 28 (pagesSpec.H x).length (Tryd.f28.body.getD .skip) (pagesSpec.A x ++ List.replicate (Tryd.f28.ntmps - (pagesSpec.A x).length) .any) (pagesSpec.H x) (endCall ar PP Tryd.f28.results.toList (pagesSpec.fin x))) = ipages_vc ar x := by
  kernel_rfl
theorem ipages_of (h : ∀ x, pagesSpec.pre x → ipages_vc ar0 x) : pagesSpec.OK PP 28 :=
  Spec.ok_of_run (fn := Tryd.f28) (c := Tryd.f28.body.getD .skip) (by kernel_rfl) (by kernel_rfl) (by kernel_rfl) pSpecs_ok (fun _ => noInv) 1000 (fun x hx => (ipages_eq ar0 x).mpr (h x hx))
theorem ipages_ok : pagesSpec.OK PP 28 := by
  refine ipages_of fun (x : Cfg) hx => ?_
  unfold ipages_vc
  simp only [ex_cfg]
  exact pages_law hx
def rpages_vc (ar : AR) (x : pagesSpec.X) : Prop :=
  ∀ (z : Int), z = ar.wrap IntKind.i64 (ar.sub x.page 5) → ∃ (x_1 : Cfg), x.slots = x_1.slots ∧ x.files = x_1.files ∧ x.dirs = x_1.dirs ∧ x.most = x_1.most ∧ x.least = x_1.least ∧
  x.page = x_1.page ∧ CfgIn x_1 ∧ ∀ (y : Unit), True → ∀ (z_1 : Int), z_1 = ar.wrap IntKind.i64 (ar.add (PL.lenI x_1) z) → ∀ (z_2 : Int), z_2 = ar.wrap IntKind.i64 (ar.sub z_1 1) →
  ¬ar.eq z 0 ∧ ∀ (z_3 : Int), z_3 = ar.wrap IntKind.i64 (ar.quo z_2 z) → ∃ (y : Unit), True ∧ z_3 = PL.pagesI x ∧ True
theorem rpages_eq (ar : AR) (x : pagesSpec.X) : (run ar PP pSpecs noInv 1000 40 (pagesSpec.H x).length (Tryd.f40.body.getD .skip) (pagesSpec.A x ++ List.replicate (Tryd.f40.ntmps - (pagesSpec.A x).length) .any) (pagesSpec.H x) (endCall ar PP Tryd.f40.results.toList (pagesSpec.fin x))) = rpages_vc ar x := by
  kernel_rfl
theorem rpages_of (h : ∀ x, pagesSpec.pre x → rpages_vc ar0 x) : pagesSpec.OK PP 40 :=
  Spec.ok_of_run (fn := Tryd.f40) (c := Tryd.f40.body.getD .skip) (by kernel_rfl) (by kernel_rfl) (by kernel_rfl) pSpecs_ok (fun _ => noInv) 1000 (fun x hx => (rpages_eq ar0 x).mpr (h x hx))
theorem rpages_ok : pagesSpec.OK PP 40 := by
  refine rpages_of fun (x : Cfg) hx => ?_
  unfold rpages_vc
  simp only [ex_cfg]
  exact pages_law hx
noncomputable def kSpecs : Specs := fun f _ _ => match f with
  | 28 => some pagesSpec
  | 40 => some pagesSpec
  | 57 => some betweenSpec
  | _ => none
theorem kSpecs_ok : SpecsOK PP kSpecs := by
  intro CW f xs _ S h
  unfold kSpecs at h
  split at h
  · cases h; exact ipages_ok
  · cases h; exact rpages_ok
  · cases h; exact betweenSpec_ok
  · cases h
def icheck_vc (ar : AR) (x : checkSpec.X) : Prop :=
  ∃ (x_1 : Int × Int × Int), x.slots = x_1.fst ∧ 1 = x_1.2.fst ∧ 64 = x_1.2.snd ∧ PL.Ints3 x_1 ∧ ∀ (y : Unit), True → ((¬(x_1.2.fst.le x_1.fst ∧ x_1.fst.le x_1.2.snd) → False) → ∃
  (x_2 : Int × Int × Int), x.files = x_2.fst ∧ 1 = x_2.2.fst ∧ 65536 = x_2.2.snd ∧ PL.Ints3 x_2 ∧ ∀ (y : Unit), True → ((¬(x_2.2.fst.le x_2.fst ∧ x_2.fst.le x_2.2.snd) → False) → ∃
  (x_3 : Int × Int × Int), x.dirs = x_3.fst ∧ 0 = x_3.2.fst ∧ 4096 = x_3.2.snd ∧ PL.Ints3 x_3 ∧ ∀ (y : Unit), True → ((¬(x_3.2.fst.le x_3.fst ∧ x_3.fst.le x_3.2.snd) → False) → ∃
  (x_4 : Int × Int × Int), x.most = x_4.fst ∧ 0 = x_4.2.fst ∧ 65536 = x_4.2.snd ∧ PL.Ints3 x_4 ∧ ∀ (y : Unit), True → ((¬(x_4.2.fst.le x_4.fst ∧ x_4.fst.le x_4.2.snd) → False) → ∃
  (x_5 : Int × Int × Int), x.least = x_5.fst ∧ 16 = x_5.2.fst ∧ 65536 = x_5.2.snd ∧ PL.Ints3 x_5 ∧ ∀ (y : Unit), True → ((¬(x_5.2.fst.le x_5.fst ∧ x_5.fst.le x_5.2.snd) → False) →
  ∃ (x_6 : Int × Int × Int), x.page = x_6.fst ∧ 64 = x_6.2.fst ∧ 65536 = x_6.2.snd ∧ PL.Ints3 x_6 ∧ ∀ (y : Unit), True → ((¬(x_6.2.fst.le x_6.fst ∧ x_6.fst.le x_6.2.snd) → False) →
  ∃ (x_7 : Cfg), x.slots = x_7.slots ∧ x.files = x_7.files ∧ x.dirs = x_7.dirs ∧ x.most = x_7.most ∧ x.least = x_7.least ∧ x.page = x_7.page ∧ CfgIn x_7 ∧ ∀ (y : Unit), True →
  (ar.lt 1024 (PL.pagesI x_7) → ∃ (y : Unit), True ∧ 140 = PL.chk x ∧ True) ∧ (¬ar.lt 1024 (PL.pagesI x_7) → ∃ (y : Unit), True ∧ 0 = PL.chk x ∧ True)) ∧ (¬(¬(x_6.2.fst.le x_6.fst
  ∧ x_6.fst.le x_6.2.snd) → False) → ∃ (y : Unit), True ∧ 140 = PL.chk x ∧ True)) ∧ (¬(¬(x_5.2.fst.le x_5.fst ∧ x_5.fst.le x_5.2.snd) → False) → ∃ (y : Unit), True ∧ 140 = PL.chk x
  ∧ True)) ∧ (¬(¬(x_4.2.fst.le x_4.fst ∧ x_4.fst.le x_4.2.snd) → False) → ∃ (y : Unit), True ∧ 140 = PL.chk x ∧ True)) ∧ (¬(¬(x_3.2.fst.le x_3.fst ∧ x_3.fst.le x_3.2.snd) → False)
  → ∃ (y : Unit), True ∧ 140 = PL.chk x ∧ True)) ∧ (¬(¬(x_2.2.fst.le x_2.fst ∧ x_2.fst.le x_2.2.snd) → False) → ∃ (y : Unit), True ∧ 140 = PL.chk x ∧ True)) ∧ (¬(¬(x_1.2.fst.le
  x_1.fst ∧ x_1.fst.le x_1.2.snd) → False) → ∃ (y : Unit), True ∧ 140 = PL.chk x ∧ True)
theorem icheck_eq (ar : AR) (x : checkSpec.X) : (run ar PP kSpecs noInv 1000 21 (checkSpec.H x).length (Tryd.f21.body.getD .skip) (checkSpec.A x ++ List.replicate (Tryd.f21.ntmps - (checkSpec.A x).length) .any) (checkSpec.H x) (endCall ar PP Tryd.f21.results.toList (checkSpec.fin x))) = icheck_vc ar x := by
  kernel_rfl
theorem icheck_of (h : ∀ x, checkSpec.pre x → icheck_vc ar0 x) : checkSpec.OK PP 21 :=
  Spec.ok_of_run (fn := Tryd.f21) (c := Tryd.f21.body.getD .skip) (by kernel_rfl) (by kernel_rfl) (by kernel_rfl) kSpecs_ok (fun _ => noInv) 1000 (fun x hx => (icheck_eq ar0 x).mpr (h x hx))
theorem icheck_ok : checkSpec.OK PP 21 := by
  refine icheck_of fun (x : Cfg) hx => ?_
  unfold icheck_vc
  simp only [ars, ex_cfg, ex_int3, ints3, cfgBad, exists_const, true_and, and_true, and_false, or_false, false_or, forall_const, imp_false, Classical.not_not]
  refine ⟨fun h1 => ⟨fun h2 => ⟨fun h3 => ⟨fun h4 => ⟨fun h5 => ⟨fun h6 => ⟨⟨h1, h2, h3, h4, h5, h6⟩, fun h7 => (PL.chk_bad fun hc => ?_).symm, fun h7 => (PL.chk_ok ⟨⟨h1, h2, h3, h4, h5, h6⟩, ?_⟩).symm⟩, fun h => (PL.chk_bad fun hc => h hc.ok.page).symm⟩, fun h => (PL.chk_bad fun hc => h hc.ok.least).symm⟩, fun h => (PL.chk_bad fun hc => h hc.ok.most).symm⟩, fun h => (PL.chk_bad fun hc => h hc.ok.dirs).symm⟩, fun h => (PL.chk_bad fun hc => h hc.ok.files).symm⟩, fun h => (PL.chk_bad fun hc => h hc.ok.slots).symm⟩
  · exact absurd hc.pages (by omega)
  · omega
def rcheck_vc (ar : AR) (x : checkSpec.X) : Prop :=
  (ar.le 1 x.slots → (ar.le x.slots 64 → (ar.le 1 x.files → (ar.le x.files 65536 → (ar.le 0 x.dirs → (ar.le x.dirs 4096 → (ar.le 0 x.most → (ar.le x.most 65536 → (ar.le 16 x.least
  → (ar.le x.least 65536 → (ar.le 64 x.page → ((¬ar.le x.page 65536 → False) → ∃ (x_1 : Cfg), x.slots = x_1.slots ∧ x.files = x_1.files ∧ x.dirs = x_1.dirs ∧ x.most = x_1.most ∧
  x.least = x_1.least ∧ x.page = x_1.page ∧ CfgIn x_1 ∧ ∀ (y : Unit), True → (ar.lt 1024 (PL.pagesI x_1) → ∃ (y : Unit), True ∧ 140 = PL.chk x ∧ True) ∧ (¬ar.lt 1024 (PL.pagesI
  x_1) → ∃ (y : Unit), True ∧ 0 = PL.chk x ∧ True)) ∧ (¬(¬ar.le x.page 65536 → False) → ∃ (y : Unit), True ∧ 140 = PL.chk x ∧ True)) ∧ (¬ar.le 64 x.page → ∃ (y : Unit), True ∧ 140
  = PL.chk x ∧ True)) ∧ (¬ar.le x.least 65536 → ∃ (y : Unit), True ∧ 140 = PL.chk x ∧ True)) ∧ (¬ar.le 16 x.least → ∃ (y : Unit), True ∧ 140 = PL.chk x ∧ True)) ∧ (¬ar.le x.most
  65536 → ∃ (y : Unit), True ∧ 140 = PL.chk x ∧ True)) ∧ (¬ar.le 0 x.most → ∃ (y : Unit), True ∧ 140 = PL.chk x ∧ True)) ∧ (¬ar.le x.dirs 4096 → ∃ (y : Unit), True ∧ 140 = PL.chk x
  ∧ True)) ∧ (¬ar.le 0 x.dirs → ∃ (y : Unit), True ∧ 140 = PL.chk x ∧ True)) ∧ (¬ar.le x.files 65536 → ∃ (y : Unit), True ∧ 140 = PL.chk x ∧ True)) ∧ (¬ar.le 1 x.files → ∃ (y :
  Unit), True ∧ 140 = PL.chk x ∧ True)) ∧ (¬ar.le x.slots 64 → ∃ (y : Unit), True ∧ 140 = PL.chk x ∧ True)) ∧ (¬ar.le 1 x.slots → ∃ (y : Unit), True ∧ 140 = PL.chk x ∧ True)
theorem rcheck_eq (ar : AR) (x : checkSpec.X) : (run ar PP kSpecs noInv 1000 27 (checkSpec.H x).length (Tryd.f27.body.getD .skip) (checkSpec.A x ++ List.replicate (Tryd.f27.ntmps - (checkSpec.A x).length) .any) (checkSpec.H x) (endCall ar PP Tryd.f27.results.toList (checkSpec.fin x))) = rcheck_vc ar x := by
  kernel_rfl
theorem rcheck_of (h : ∀ x, checkSpec.pre x → rcheck_vc ar0 x) : checkSpec.OK PP 27 :=
  Spec.ok_of_run (fn := Tryd.f27) (c := Tryd.f27.body.getD .skip) (by kernel_rfl) (by kernel_rfl) (by kernel_rfl) kSpecs_ok (fun _ => noInv) 1000 (fun x hx => (rcheck_eq ar0 x).mpr (h x hx))
theorem rcheck_ok : checkSpec.OK PP 27 := by
  refine rcheck_of fun (x : Cfg) hx => ?_
  unfold rcheck_vc
  simp only [ars, ex_cfg, ex_int3, ints3, cfgBad, exists_const, true_and, and_true, and_false, or_false, false_or, forall_const, imp_false, Classical.not_not]
  refine ⟨fun a1 => ⟨fun b1 => ⟨fun a2 => ⟨fun b2 => ⟨fun a3 => ⟨fun b3 => ⟨fun a4 => ⟨fun b4 => ⟨fun a5 => ⟨fun b5 => ⟨fun a6 => ⟨fun b6 => ⟨⟨⟨a1, b1⟩, ⟨a2, b2⟩, ⟨a3, b3⟩, ⟨a4, b4⟩, ⟨a5, b5⟩, ⟨a6, b6⟩⟩, fun h7 => (PL.chk_bad fun hc => ?_).symm, fun h7 => (PL.chk_ok ⟨⟨⟨a1, b1⟩, ⟨a2, b2⟩, ⟨a3, b3⟩, ⟨a4, b4⟩, ⟨a5, b5⟩, ⟨a6, b6⟩⟩, ?_⟩).symm⟩,
    fun h => (PL.chk_bad fun hc => h hc.ok.page.2).symm⟩, fun h => (PL.chk_bad fun hc => h hc.ok.page.1).symm⟩, fun h => (PL.chk_bad fun hc => h hc.ok.least.2).symm⟩, fun h => (PL.chk_bad fun hc => h hc.ok.least.1).symm⟩, fun h => (PL.chk_bad fun hc => h hc.ok.most.2).symm⟩, fun h => (PL.chk_bad fun hc => h hc.ok.most.1).symm⟩, fun h => (PL.chk_bad fun hc => h hc.ok.dirs.2).symm⟩, fun h => (PL.chk_bad fun hc => h hc.ok.dirs.1).symm⟩, fun h => (PL.chk_bad fun hc => h hc.ok.files.2).symm⟩, fun h => (PL.chk_bad fun hc => h hc.ok.files.1).symm⟩, fun h => (PL.chk_bad fun hc => h hc.ok.slots.2).symm⟩, fun h => (PL.chk_bad fun hc => h hc.ok.slots.1).symm⟩
  · exact absurd hc.pages (by omega)
  · omega
noncomputable def eSpecs : Specs := fun f a h => match f with
  | 21 => some checkSpec
  | 27 => some checkSpec
  | _ => kSpecs f a h
theorem eSpecs_ok : SpecsOK PP eSpecs := by
  intro CW f xs _ S h
  unfold eSpecs at h
  split at h
  · cases h; exact icheck_ok
  · cases h; exact rcheck_ok
  · exact kSpecs_ok CW _ _ _ _ h
def iPages_vc (ar : AR) (x : PagesSpec.X) : Prop :=
  ∃ (x_1 : Cfg), x.slots = x_1.slots ∧ x.files = x_1.files ∧ x.dirs = x_1.dirs ∧ x.most = x_1.most ∧ x.least = x_1.least ∧ x.page = x_1.page ∧ PL.CfgAny x_1 ∧ ∀ (y : Unit), True →
  (¬ar.eq (PL.chk x_1) 0 → ∃ (y : Unit), True ∧ 0 = PL.pagesOr0 x ∧ PL.chk x_1 = PL.chk x ∧ True) ∧ (¬¬ar.eq (PL.chk x_1) 0 → ∃ (x_2 : Cfg), x.slots = x_2.slots ∧ x.files =
  x_2.files ∧ x.dirs = x_2.dirs ∧ x.most = x_2.most ∧ x.least = x_2.least ∧ x.page = x_2.page ∧ CfgIn x_2 ∧ ∀ (y : Unit), True → ∃ (y : Unit), True ∧ PL.pagesI x_2 = PL.pagesOr0 x
  ∧ 0 = PL.chk x ∧ True)
theorem iPages_eq (ar : AR) (x : PagesSpec.X) : (run ar PP eSpecs noInv 1000 25 (PagesSpec.H x).length (Tryd.f25.body.getD .skip) (PagesSpec.A x ++ List.replicate (Tryd.f25.ntmps - (PagesSpec.A x).length) .any) (PagesSpec.H x) (endCall ar PP Tryd.f25.results.toList (PagesSpec.fin x))) = iPages_vc ar x := by
  kernel_rfl
theorem iPages_of (h : ∀ x, PagesSpec.pre x → iPages_vc ar0 x) : PagesSpec.OK PP 25 :=
  Spec.ok_of_run (fn := Tryd.f25) (c := Tryd.f25.body.getD .skip) (by kernel_rfl) (by kernel_rfl) (by kernel_rfl) eSpecs_ok (fun _ => noInv) 1000 (fun x hx => (iPages_eq ar0 x).mpr (h x hx))
theorem iPages_ok : PagesSpec.OK PP 25 := by
  refine iPages_of fun (x : Cfg) hx => ?_
  unfold iPages_vc
  simp only [ars, ex_cfg, cfgAny, cfgBad, exists_const, true_and, and_true, and_false, or_false, false_or, forall_const]
  refine ⟨fun h => (PL.pagesOr0_bad fun hc => h (PL.chk_ok hc)).symm, fun h => ?_⟩
  have hc := PL.chk_zero.1 (Classical.not_not.1 h)
  exact ⟨hc.ok, (PL.pagesOr0_ok hc).symm, (PL.chk_ok hc).symm⟩
def rPages_vc (ar : AR) (x : PagesSpec.X) : Prop :=
  ∃ (x_1 : Cfg), x.slots = x_1.slots ∧ x.files = x_1.files ∧ x.dirs = x_1.dirs ∧ x.most = x_1.most ∧ x.least = x_1.least ∧ x.page = x_1.page ∧ PL.CfgAny x_1 ∧ ∀ (y : Unit), True →
  (¬ar.eq (PL.chk x_1) 0 → ∃ (y : Unit), True ∧ 0 = PL.pagesOr0 x ∧ 140 = PL.chk x ∧ True) ∧ (¬¬ar.eq (PL.chk x_1) 0 → ∃ (x_2 : Cfg), x.slots = x_2.slots ∧ x.files = x_2.files ∧
  x.dirs = x_2.dirs ∧ x.most = x_2.most ∧ x.least = x_2.least ∧ x.page = x_2.page ∧ CfgIn x_2 ∧ ∀ (y : Unit), True → ∃ (y : Unit), True ∧ PL.pagesI x_2 = PL.pagesOr0 x ∧ 0 = PL.chk
  x ∧ True)
theorem rPages_eq (ar : AR) (x : PagesSpec.X) : (run ar PP eSpecs noInv 1000 26 (PagesSpec.H x).length (Tryd.f26.body.getD .skip) (PagesSpec.A x ++ List.replicate (Tryd.f26.ntmps - (PagesSpec.A x).length) .any) (PagesSpec.H x) (endCall ar PP Tryd.f26.results.toList (PagesSpec.fin x))) = rPages_vc ar x := by
  kernel_rfl
theorem rPages_of (h : ∀ x, PagesSpec.pre x → rPages_vc ar0 x) : PagesSpec.OK PP 26 :=
  Spec.ok_of_run (fn := Tryd.f26) (c := Tryd.f26.body.getD .skip) (by kernel_rfl) (by kernel_rfl) (by kernel_rfl) eSpecs_ok (fun _ => noInv) 1000 (fun x hx => (rPages_eq ar0 x).mpr (h x hx))
theorem rPages_ok : PagesSpec.OK PP 26 := by
  refine rPages_of fun (x : Cfg) hx => ?_
  unfold rPages_vc
  simp only [ars, ex_cfg, cfgAny, cfgBad, exists_const, true_and, and_true, and_false, or_false, false_or, forall_const]
  refine ⟨fun h => ⟨(PL.pagesOr0_bad fun hc => h (PL.chk_ok hc)).symm, (PL.chk_bad fun hc => h (PL.chk_ok hc)).symm⟩, fun h => ?_⟩
  have hc := PL.chk_zero.1 (Classical.not_not.1 h)
  exact ⟨hc.ok, (PL.pagesOr0_ok hc).symm, (PL.chk_ok hc).symm⟩
noncomputable def cSpecs : Specs := fun f a h => match f with
  | 25 => some PagesSpec
  | 26 => some PagesSpec
  | 14 => some numSpec
  | _ => eSpecs f a h
theorem cSpecs_ok : SpecsOK PP cSpecs := by
  intro CW f xs _ S h
  unfold cSpecs at h
  split at h
  · cases h; exact iPages_ok
  · cases h; exact rPages_ok
  · cases h; exact numSpec_ok
  · exact eSpecs_ok CW _ _ _ _ h
end Go.Eng
/- Bytes and numbers: plain lemmas. -/
namespace Go.PL
def b8 (n : Int) : UInt8 := UInt8.ofNat (n % 256).toNat
def big (n : Int) : Nat → List UInt8
  | 0 => []
  | k + 1 => big (n / 256) k ++ [b8 n]
def numB (l : List UInt8) : Int := l.foldl (fun n b => n * 256 + (b.toNat : Int)) 0
def ints (l : List UInt8) : List Int := l.map fun b => (b.toNat : Int)
def dropk (l : List UInt8) (k n : Int) : List UInt8 := (l.drop k.toNat).take n.toNat
def flat2 (N T : List (List UInt8)) : List UInt8 := (List.zipWith (· ++ ·) N T).flatten
theorem ints_length (l : List UInt8) : (ints l).length = l.length := by simp [ints]
theorem ints_append (l m : List UInt8) : ints (l ++ m) = ints l ++ ints m := by simp [ints]
theorem ints_take (l : List UInt8) (n : Nat) : ints (l.take n) = (ints l).take n := by simp [ints, List.map_take]
theorem ints_drop (l : List UInt8) (n : Nat) : ints (l.drop n) = (ints l).drop n := by simp [ints, List.map_drop]
theorem ints_inj {l m : List UInt8} (h : ints l = ints m) : l = m := by
  refine List.map_inj_right (f := fun b : UInt8 => (b.toNat : Int)) (fun a b hab => ?_) |>.1 h
  have : a.toNat = b.toNat := by exact_mod_cast hab
  exact UInt8.toNat_inj.1 this
theorem ints_get {l : List UInt8} {i : Nat} (h : i < l.length) : (ints l).getD i 0 = (l[i].toNat : Int) := by
  simp [ints, List.getD, h]
theorem bytes_ints (l : List UInt8) : (ints l).map (fun n => UInt8.ofNat n.toNat) = l := by
  simp [ints, Function.comp_def]
theorem big_length (n : Int) : ∀ k, (big n k).length = k
  | 0 => rfl
  | k + 1 => by simp [big, big_length (n / 256) k]
theorem b8_toNat (n : Int) : ((b8 n).toNat : Int) = n % 256 := by
  unfold b8
  rw [UInt8.toNat_ofNat']
  omega
theorem b8_u8 (b : UInt8) (n : Int) : b8 (n * 256 + (b.toNat : Int)) = b := by
  apply UInt8.toNat_inj.1
  have h1 := b8_toNat (n * 256 + (b.toNat : Int))
  have h2 := b.toNat_lt
  omega
theorem ediv_pow (n : Int) (k : Nat) : n / 256 / 256 ^ k = n / 256 ^ (k + 1) := by
  rw [Int.ediv_ediv_of_nonneg (by omega), Int.pow_succ, Int.mul_comm]
theorem big_take : ∀ (k : Nat) (n : Int) (i : Nat), i < k → (big n k).take (i + 1) = (big n k).take i ++ [b8 (n / 256 ^ (k - 1 - i))]
  | 0, n, i, h => by omega
  | k + 1, n, i, h => by
    by_cases hi : i < k
    · have := big_take k (n / 256) i hi
      simp only [big]
      rw [List.take_append_of_le_length (by rw [big_length]; omega), List.take_append_of_le_length (by rw [big_length]; omega), this, ediv_pow]
      rw [show k + 1 - 1 - i = k - 1 - i + 1 by omega]
    · have : i = k := by omega
      subst this
      simp only [big]
      rw [List.take_of_length_le (by simp [big_length]), List.take_append_of_le_length (by rw [big_length]; omega), List.take_of_length_le (by simp [big_length])]
      simp
theorem numB_snoc (l : List UInt8) (b : UInt8) : numB (l ++ [b]) = numB l * 256 + (b.toNat : Int) := by simp [numB]
theorem numB_nil : numB [] = 0 := rfl
theorem numB_range : ∀ (k : Nat) (l : List UInt8), l.length = k → 0 ≤ numB l ∧ numB l < 256 ^ k
  | 0, l, h => by
    have : l = [] := List.length_eq_zero_iff.1 h
    subst this
    simp [numB]
  | k + 1, l, h => by
    have hne : l ≠ [] := fun e => by subst e; simp at h
    have e := List.dropLast_concat_getLast hne
    rw [← e, numB_snoc]
    have ih := numB_range k l.dropLast (by simp [h])
    have h2 := (l.getLast hne).toNat_lt
    rw [Int.pow_succ]
    omega
theorem numB_lt {l : List UInt8} {k : Nat} (h : l.length ≤ k) : 0 ≤ numB l ∧ numB l < 256 ^ k := by
  have h1 := numB_range l.length l rfl
  refine ⟨h1.1, Int.lt_of_lt_of_le h1.2 ?_⟩
  have h3 : ((256 ^ l.length : Nat) : Int) ≤ ((256 ^ k : Nat) : Int) := Int.ofNat_le.2 (Nat.pow_le_pow_right (by omega) h)
  rw [Int.natCast_pow, Int.natCast_pow] at h3
  exact h3
theorem big_numB : ∀ (k : Nat) (l : List UInt8), l.length = k → big (numB l) k = l
  | 0, l, h => by
    have : l = [] := List.length_eq_zero_iff.1 h
    subst this
    rfl
  | k + 1, l, h => by
    have hne : l ≠ [] := fun e => by subst e; simp at h
    have e := List.dropLast_concat_getLast hne
    have ih := big_numB k l.dropLast (by simp [h])
    rw [← e, numB_snoc]
    show big ((numB l.dropLast * 256 + ((l.getLast hne).toNat : Int)) / 256) k ++ [b8 _] = _
    have h2 := (l.getLast hne).toNat_lt
    rw [show (numB l.dropLast * 256 + ((l.getLast hne).toNat : Int)) / 256 = numB l.dropLast by omega, ih, b8_u8]
theorem numB_big : ∀ (k : Nat) (n : Int), 0 ≤ n → n < 256 ^ k → numB (big n k) = n
  | 0, n, h0, h1 => by simp at h1; simp [big, numB]; omega
  | k + 1, n, h0, h1 => by
    rw [Int.pow_succ] at h1
    have ih := numB_big k (n / 256) (by omega) (by omega)
    show numB (big (n / 256) k ++ [b8 n]) = n
    rw [numB_snoc, ih, b8_toNat]
    omega
theorem take_snoc {α : Type} {l : List α} {i : Nat} (h : i < l.length) : l.take (i + 1) = l.take i ++ [l[i]] := by
  rw [List.take_add_one, List.getElem?_eq_getElem h]
  rfl
theorem dropk_length {l : List UInt8} {k n : Int} (h0 : 0 ≤ k) (h1 : 0 ≤ n) (h : k + n ≤ l.length) : (dropk l k n).length = n.toNat := by
  simp [dropk]; omega
end Go.PL
set_option linter.unusedSectionVars false
namespace Go.Eng
variable [CW : CWorld]
theorem ars2 : (∀ l, ar0.ilen l = (l.length : Int)) ∧ (∀ l m, ar0.iapp l m = l ++ m) ∧ (∀ l i, ar0.iget l i = l.getD i.toNat 0) ∧ (∀ l a n, ar0.isub l a n = (l.drop a.toNat).take n.toNat) ∧
    (∀ l i, ar0.tget l i = l.getD i.toNat []) ∧ (∀ l, ar0.tlen l = (l.length : Int)) ∧ (∀ l m, ar0.tapp l m = l ++ m) ∧ (∀ l a n, ar0.tsub l a n = (l.drop a.toNat).take n.toNat) ∧ (∀ s, ar0.ints s = PL.ints s) ∧
    (∀ l, ar0.bytes l = l.map fun n => UInt8.ofNat n.toNat) ∧ (∀ a b : Int, a.sub b = a - b) ∧ (∀ a b : Int, a.ediv b = a / b) ∧ (∀ (a : Int) (n : Nat), Int.pow a n = a ^ n) ∧ (∀ l m : List UInt8, l.append m = l ++ m) ∧
    (∀ a b : Int, a.le b = (a ≤ b)) ∧ (∀ a b : Int, a.lt b = (a < b)) :=
  ⟨fun _ => rfl, fun _ _ => rfl, fun _ _ => rfl, fun _ _ _ => rfl, fun _ _ => rfl, fun _ => rfl, fun _ _ => rfl, fun _ _ _ => rfl, fun _ => rfl, fun _ => rfl, fun _ _ => rfl, fun _ _ => rfl, fun _ _ => rfl, fun _ _ => rfl, fun _ _ => rfl, fun _ _ => rfl⟩
theorem fdiv_pow {n : Int} {j : Int} (h0 : 0 ≤ j) (h1 : j ≤ 7) : ar0.shr .i64 n (8 * j) = n / 256 ^ j.toNat := by
  show n.fdiv (2 ^ (min (8 * j).toNat 64)) = _
  rw [Nat.min_eq_left (by omega), Int.fdiv_eq_ediv_of_nonneg _ (by exact_mod_cast Nat.zero_le _), show (8 * j).toNat = 8 * j.toNat by omega, Int.pow_mul, show (2 : Int) ^ 8 = 256 by decide]
theorem wrap_b8 (n : Int) : IntKind.u8.wrap n = ((PL.b8 n).toNat : Int) := by rw [wrap_u8, PL.b8_toNat]
theorem shl_i64_8 {n : Int} (h0 : 0 ≤ n) (h1 : n < 2 ^ 54) : ar0.shl .i64 n 8 = n * 256 := by
  show IntKind.i64.wrap (n * 2 ^ (min (8 : Int).toNat 64)) = _
  rw [show (2 : Int) ^ (min (8 : Int).toNat 64) = 256 by decide]
  exact wrap_i64 (by omega) (by omega)
theorem bor_i64_8 {n b : Int} (h0 : 0 ≤ n) (h1 : n < 2 ^ 54) (hb0 : 0 ≤ b) (hb1 : b < 256) : ar0.bor .i64 (n * 256) b = n * 256 + b := by
  obtain ⟨a, rfl⟩ := Int.eq_ofNat_of_zero_le h0
  obtain ⟨c, rfl⟩ := Int.eq_ofNat_of_zero_le hb0
  have ha : a < 2 ^ 54 := by omega
  have hc : c < 256 := by omega
  have h : ∀ x : Nat, BitVec.ofInt 64 (x : Int) = BitVec.ofNat 64 x := fun x => BitVec.ofInt_natCast 64 x
  show IntKind.i64.wrap (BitVec.ofInt 64 ((a : Int) * 256) ||| BitVec.ofInt 64 (c : Int)).toNat = _
  rw [show (a : Int) * 256 = ((a * 256 : Nat) : Int) by omega, h, h, BitVec.toNat_or, BitVec.toNat_ofNat, BitVec.toNat_ofNat, Nat.mod_eq_of_lt (b := 2 ^ 64) (by omega), Nat.mod_eq_of_lt (b := 2 ^ 64) (by omega)]
  have e : a * 256 ||| c = a * 256 + c := by
    have := Nat.shiftLeft_add_eq_or_of_lt (b := c) (i := 8) (by omega) a
    rw [Nat.shiftLeft_eq] at this
    exact this.symm
  rw [e]
  exact wrap_i64 (by omega) (by omega)
end Go.Eng
/- Index: numbers in bytes, and the image: put, take, number, putRef, putEach. -/
namespace Go.PL
structure Img where
  l : List UInt8
  cap : Int
  bad : Prop
structure ImgOK (m : Img) (more : Int) : Prop where
  cap : (m.l.length : Int) ≤ m.cap
  room : (m.l.length : Int) + more ≤ 140737488355328
structure PutIn (x : Img × Int × Int) : Prop where
  img : ImgOK x.1 x.2.2
  size : 0 ≤ x.2.2 ∧ x.2.2 ≤ 8
structure PutAt (x : Img × Int × Int) (i : Nat × Int) : Prop where
  le : (i.1 : Int) ≤ x.2.2
  cap : (x.1.l.length : Int) + i.1 ≤ i.2
structure CapOK (n c : Int) : Prop where
  le : n ≤ c
structure RImg where
  l : List UInt8
  cap : Int
  bad : Prop
  k : Int
structure RImgOK (m : RImg) (n : Int) : Prop where
  cap : (m.l.length : Int) ≤ m.cap
  k0 : 0 ≤ m.k
  n0 : 0 ≤ n
  le : m.k + n ≤ m.l.length
structure NumIn (x : RImg × Int) : Prop where
  img : RImgOK x.1 x.2
  le : x.2 ≤ 7
structure NumAt (x : RImg × Int) (i : Nat) : Prop where
  le : (i : Int) ≤ x.2
structure BigIn (x : Int × Int) : Prop where
  n : 0 ≤ x.1 ∧ x.1 < 9223372036854775808
  size : 0 ≤ x.2 ∧ x.2 ≤ 1000
structure BigAt (x : Int × Int) (i : Nat) : Prop where
  le : (i : Int) ≤ x.2
structure SNumIn (s : List UInt8) : Prop where
  le : s.length ≤ 7
structure SNumAt (s : List UInt8) (i : Nat) : Prop where
  le : i ≤ s.length
structure PutRefIn (x : Img × List UInt8 × List UInt8) : Prop where
  img : ImgOK x.1 (x.2.1.length + x.2.2.length)
structure Refs where
  N : List (List UInt8)
  T : List (List UInt8)
  len : Int
  cap : Int
structure RefsOK (r : Refs) : Prop where
  n : (r.N.length : Int) = r.len
  t : (r.T.length : Int) = r.len
  b : r.len ≤ 4611686018427387904
structure EachIn (x : Img × Refs) : Prop where
  refs : RefsOK x.2
  img : ImgOK x.1 (flat2 x.2.N x.2.T).length
structure EachAt (x : Img × Refs) (i : Nat × Int) : Prop where
  le : (i.1 : Int) ≤ x.2.len
  cap : (x.1.l ++ flat2 (x.2.N.take i.1) (x.2.T.take i.1)).length ≤ i.2
end Go.PL
set_option linter.unusedSectionVars false
set_option linter.unusedSimpArgs false
set_option linter.unusedVariables false
namespace Go.Eng
variable [CW : CWorld]
open Go.Proofs
open Go.PL (Cfg CfgIn CfgOK CfgBad Img RImg Refs)
set_option maxRecDepth 100000
attribute [local irreducible] run
def imgB (n : Nat) (o : Off) (len cap : Int) (bad : Prop) : Blk := .mk 68 [.one (.slc n o (.x len) (.x cap)), .one (.bool (.x bad))]
def bytesB (l : List UInt8) (cap : Int) : Blk := .mk 5 [.arr (.x cap) [.ints .u8 (PL.ints l)]]
def imgH (m : Img) : List Blk := [imgB 1 (.l 0) m.l.length m.cap m.bad, bytesB m.l m.cap]
def imgH' (m : Img) (l : List UInt8) (cap : Int) : List Blk := [imgB 2 (.l 0) l.length cap m.bad, .gone, bytesB l cap]
def rimgH (m : RImg) (n : Int) : List Blk := [imgB 1 (.x 0 1 (m.k + n) 0) (m.l.length - (m.k + n)) (m.cap - (m.k + n)) m.bad, bytesB m.l m.cap]
def putSpec : Spec where
  X := Img × Int × Int
  A x := [.ptr 0 (.l 0), .int .i64 (.x x.2.1), .int .i64 (.x x.2.2)]
  H x := imgH x.1
  pre x := PL.PutIn x
  outs := [{ Y _ := Int, post x c := PL.CapOK (x.1.l.length + x.2.2) c, R _ _ := .tup [], H' x c := imgH' x.1 (x.1.l ++ PL.big x.2.1 x.2.2.toNat) c }]
def putInv (x : Img × Int × Int) : Code → List SV → List Blk → List Inv := fun b fr hp => [
  { ι := Nat × Int, fr := fun i => upd (havoc b fr) [(6, .int .i64 (.x (x.2.2 - 1 - (i.1 : Int))))], hp := fun i => imgH' x.1 (x.1.l ++ (PL.big x.2.1 x.2.2.toNat).take i.1) i.2, μ := fun i => x.2.2.toNat - i.1, ok := fun i => PL.PutAt x i }]
def putInvs (x : Img × Int × Int) : Invs := fun f n => match f, n with
  | 51, 1 => some (putInv x)
  | _, _ => none
def put_vc (ar : AR) (x : putSpec.X) : Prop :=
  ∀ (z : Int), z = ar.wrap IntKind.i64 (ar.sub x.snd.snd 1) → (∃ (i : Nat × Int), PL.PutAt x i ∧ x.snd.fst = x.snd.fst ∧ x.snd.snd = x.snd.snd ∧ z = (x.snd.snd.sub 1).sub (↑i.fst :
  Int) ∧ x.snd.snd = x.snd.snd ∧ z = z ∧ (↑x.fst.l.length : Int) = (↑(x.fst.l.append (List.take i.fst (PL.big x.snd.fst x.snd.snd.toNat))).length : Int) ∧ x.fst.cap = i.snd ∧
  (x.fst.bad ↔ x.fst.bad) ∧ x.fst.cap = i.snd ∧ PL.ints x.fst.l = PL.ints (x.fst.l.append (List.take i.fst (PL.big x.snd.fst x.snd.snd.toNat))) ∧ True) ∧ ∀ (i : Nat × Int),
  PL.PutAt x i → (ar.le 0 ((x.snd.snd.sub 1).sub (↑i.fst : Int)) → ∀ (z_1 : Int), z_1 = ar.wrap IntKind.i64 (ar.mul 8 ((x.snd.snd.sub 1).sub (↑i.fst : Int))) → ar.le 0 z_1 ∧ ∀ (z_2
  : Int), z_2 = ar.shr IntKind.i64 x.snd.fst z_1 → ∀ (z_3 : Int), z_3 = ar.wrap IntKind.u8 z_2 → ar.le (ar.add 0 (↑(x.fst.l.append (List.take i.fst (PL.big x.snd.fst
  x.snd.snd.toNat))).length : Int)) (ar.ilen (PL.ints (x.fst.l.append (List.take i.fst (PL.big x.snd.fst x.snd.snd.toNat))))) ∧ i.snd = i.snd ∧ ar.le (ar.mul (ar.add
  (↑(x.fst.l.append (List.take i.fst (PL.big x.snd.fst x.snd.snd.toNat))).length : Int) 1) 1) 140737488355328 ∧ ∀ (c : Int), ar.le (ar.add (↑(x.fst.l.append (List.take i.fst
  (PL.big x.snd.fst x.snd.snd.toNat))).length : Int) 1) c → ∀ (z_4 : Int), z_4 = ar.wrap IntKind.i64 (ar.sub ((x.snd.snd.sub 1).sub (↑i.fst : Int)) 1) → ∃ (j : Nat × Int), PL.PutAt
  x j ∧ (x.snd.snd.toNat.sub j.fst).lt (x.snd.snd.toNat.sub i.fst) ∧ x.snd.fst = x.snd.fst ∧ x.snd.snd = x.snd.snd ∧ z_4 = (x.snd.snd.sub 1).sub (↑j.fst : Int) ∧ x.snd.snd =
  x.snd.snd ∧ z = z ∧ ar.add (↑(x.fst.l.append (List.take i.fst (PL.big x.snd.fst x.snd.snd.toNat))).length : Int) 1 = (↑(x.fst.l.append (List.take j.fst (PL.big x.snd.fst
  x.snd.snd.toNat))).length : Int) ∧ c = j.snd ∧ (x.fst.bad ↔ x.fst.bad) ∧ c = j.snd ∧ ar.iapp (ar.isub (PL.ints (x.fst.l.append (List.take i.fst (PL.big x.snd.fst
  x.snd.snd.toNat)))) 0 (↑(x.fst.l.append (List.take i.fst (PL.big x.snd.fst x.snd.snd.toNat))).length : Int)) [z_3] = PL.ints (x.fst.l.append (List.take j.fst (PL.big x.snd.fst
  x.snd.snd.toNat))) ∧ True) ∧ (¬ar.le 0 ((x.snd.snd.sub 1).sub (↑i.fst : Int)) → ∃ (y : Int), PL.CapOK ((↑x.fst.l.length : Int).add x.snd.snd) y ∧ (↑(x.fst.l.append (List.take
  i.fst (PL.big x.snd.fst x.snd.snd.toNat))).length : Int) = (↑(x.fst.l.append (PL.big x.snd.fst x.snd.snd.toNat)).length : Int) ∧ i.snd = y ∧ (x.fst.bad ↔ x.fst.bad) ∧ i.snd = y ∧
  PL.ints (x.fst.l.append (List.take i.fst (PL.big x.snd.fst x.snd.snd.toNat))) = PL.ints (x.fst.l.append (PL.big x.snd.fst x.snd.snd.toNat)) ∧ True)
theorem put_eq (ar : AR) (x : putSpec.X) : (run ar PP noSpec (putInvs x) 1000 51 (putSpec.H x).length (Tryd.f51.body.getD .skip) (putSpec.A x ++ List.replicate (Tryd.f51.ntmps - (putSpec.A x).length) .any) (putSpec.H x) (endCall ar PP Tryd.f51.results.toList (putSpec.fin x))) = put_vc ar x := by
  kernel_rfl
theorem put_of (h : ∀ x, putSpec.pre x → put_vc ar0 x) : putSpec.OK PP 51 :=
  Spec.ok_of_run (fn := Tryd.f51) (c := Tryd.f51.body.getD .skip) (by kernel_rfl) (by kernel_rfl) (by kernel_rfl) noSpec_ok putInvs 1000 (fun x hx => (put_eq ar0 x).mpr (h x hx))
theorem putSpec_ok : putSpec.OK PP 51 := by
  refine put_of fun x hx => ?_
  obtain ⟨m, n, size⟩ := x
  obtain ⟨⟨hc, hr⟩, hs0, hs8⟩ : PL.PutIn (m, n, size) := hx
  unfold put_vc
  simp only [ars, ars2, true_and, and_true]
  simp only at hc hr hs0 hs8
  intro z hz
  rw [wrap_i64 (by omega) (by omega)] at hz
  have hbl := PL.big_length n size.toNat
  refine ⟨⟨(0, m.cap), ⟨by simp; omega, by simp; omega⟩, by simp [hz]⟩, ?_⟩
  rintro ⟨i, c⟩ ⟨hi, hci⟩
  simp only at hi hci
  have hlen : (m.l ++ List.take i (PL.big n size.toNat)).length = m.l.length + i := by simp [hbl]; omega
  simp only [hlen, PL.ints_length]
  refine ⟨fun h0 z1 hz1 => ?_, fun h0 => ?_⟩
  · rw [wrap_i64 (by omega) (by omega)] at hz1
    subst hz1
    refine ⟨by omega, fun z2 hz2 z3 hz3 => ?_⟩
    rw [fdiv_pow h0 (by omega)] at hz2
    subst hz2
    rw [wrap_b8] at hz3
    refine ⟨by omega, by omega, fun c' hc' z4 hz4 => ?_⟩
    rw [wrap_i64 (by omega) (by omega)] at hz4
    have ht := PL.big_take size.toNat n i (by omega)
    have hlen' : (m.l ++ List.take (i + 1) (PL.big n size.toNat)).length = m.l.length + (i + 1) := by simp [hbl]; omega
    refine ⟨(i + 1, c'), ⟨by simp only; omega, by simp only; omega⟩, by simp only; omega, by simp only; omega, by simp only [hlen']; omega, ?_⟩
    simp only [hlen', ht, PL.ints_append, List.drop_zero, hz3, Int.toNat_zero]
    rw [List.take_of_length_le (by simp only [List.length_append, PL.ints_length, List.length_take, hbl]; omega), List.append_assoc]
    simp only [PL.ints, List.map_cons, List.map_nil]
    rw [show (size - 1 - (i : Int)).toNat = size.toNat - 1 - i by omega]
    simp
  · have : i = size.toNat := by omega
    subst this
    rw [List.take_of_length_le (by omega)]
    exact ⟨c, ⟨by omega⟩, by simp [hbl]⟩
def takeSpec : Spec where
  X := RImg × Int
  A x := [.ptr 0 (.l 0), .int .i64 (.x x.2)]
  H x := rimgH x.1 0
  pre x := PL.RImgOK x.1 x.2
  outs := [{ Y _ := Unit, post _ _ := True, R x _ := .slc 1 (.x 0 1 x.1.k 0) (.x x.2) (.x (x.1.cap - x.1.k)), H' x _ := rimgH x.1 x.2 }]
def take_vc (ar : AR) (x : takeSpec.X) : Prop :=
  ar.le 0 x.snd ∧ ar.le x.snd (x.fst.cap.sub (x.fst.k.add 0)) ∧ ar.le 0 x.snd ∧ ar.le x.snd ((↑x.fst.l.length : Int).sub (x.fst.k.add 0)) ∧ ar.le 0 (x.fst.k.add 0) ∧ ∃ (y : Unit),
  True ∧ (Nat.add 0 ((x.fst.k.add 0).toNat.mul 1)).add 0 = (Nat.add 0 (x.fst.k.toNat.mul 1)).add 0 ∧ x.snd = x.snd ∧ x.fst.cap.sub (x.fst.k.add 0) = x.fst.cap.sub x.fst.k ∧
  (Nat.add 0 ((ar.add (x.fst.k.add 0) x.snd).toNat.mul 1)).add 0 = (Nat.add 0 ((x.fst.k.add x.snd).toNat.mul 1)).add 0 ∧ ar.sub ((↑x.fst.l.length : Int).sub (x.fst.k.add 0)) x.snd
  = (↑x.fst.l.length : Int).sub (x.fst.k.add x.snd) ∧ ar.sub (x.fst.cap.sub (x.fst.k.add 0)) x.snd = x.fst.cap.sub (x.fst.k.add x.snd) ∧ (x.fst.bad ↔ x.fst.bad) ∧ x.fst.cap =
  x.fst.cap ∧ PL.ints x.fst.l = PL.ints x.fst.l ∧ True
theorem take_eq (ar : AR) (x : takeSpec.X) : (run ar PP noSpec noInv 1000 32 (takeSpec.H x).length (Tryd.f32.body.getD .skip) (takeSpec.A x ++ List.replicate (Tryd.f32.ntmps - (takeSpec.A x).length) .any) (takeSpec.H x) (endCall ar PP Tryd.f32.results.toList (takeSpec.fin x))) = take_vc ar x := by
  kernel_rfl
theorem take_of (h : ∀ x, takeSpec.pre x → take_vc ar0 x) : takeSpec.OK PP 32 :=
  Spec.ok_of_run (fn := Tryd.f32) (c := Tryd.f32.body.getD .skip) (by kernel_rfl) (by kernel_rfl) (by kernel_rfl) noSpec_ok (fun _ => noInv) 1000 (fun x hx => (take_eq ar0 x).mpr (h x hx))
theorem takeSpec_ok : takeSpec.OK PP 32 := by
  refine take_of fun x hx => ?_
  obtain ⟨m, n⟩ := x
  obtain ⟨h1, h2, h3, h4⟩ : PL.RImgOK m n := hx
  unfold take_vc
  simp only [ars, ars2, true_and, and_true, exists_const, Int.add_zero, iff_self]
  and_intros <;> first | rfl | trivial | omega
def numberSpec : Spec where
  X := RImg × Int
  A x := [.ptr 0 (.l 0), .int .i64 (.x x.2)]
  H x := rimgH x.1 0
  pre x := PL.NumIn x
  outs := [{ Y _ := Unit, post _ _ := True, R x _ := .int .i64 (.x (PL.numB (PL.dropk x.1.l x.1.k x.2))), H' x _ := rimgH x.1 x.2 }]
def numberInv (x : RImg × Int) : Code → List SV → List Blk → List Inv := fun b fr hp => [
  { ι := Nat, fr := fun i => upd (havoc b fr) [(12, .int .i64 (.x (i : Int))), (5, .int .i64 (.x (PL.numB ((PL.dropk x.1.l x.1.k x.2).take i))))], hp := fun i => hp, μ := fun i => x.2.toNat - i, ok := fun i => PL.NumAt x i }]
def numberInvs (x : RImg × Int) : Invs := fun f n => match f, n with
  | 33, 3 => some (numberInv x)
  | _, _ => none
noncomputable def tSpecs : Specs := fun f xs hp => match f with
  | 32 => some takeSpec
  | _ => noSpec f xs hp
theorem tSpecs_ok : SpecsOK PP tSpecs := by
  intro CW f xs hp S h
  unfold tSpecs at h
  split at h
  · cases h; exact takeSpec_ok
  · exact noSpec_ok CW f xs hp S h
def number_vc (ar : AR) (x : numberSpec.X) : Prop :=
  ∃ (x_1 : RImg × Int), x.snd = x_1.snd ∧ (Nat.add 0 ((x.fst.k.add 0).toNat.mul 1)).add 0 = (Nat.add 0 ((x_1.1.k.add 0).toNat.mul 1)).add 0 ∧ (↑x.fst.l.length : Int).sub
  (x.fst.k.add 0) = (↑x_1.1.l.length : Int).sub (x_1.1.k.add 0) ∧ x.fst.cap.sub (x.fst.k.add 0) = x_1.1.cap.sub (x_1.1.k.add 0) ∧ (x.fst.bad ↔ x_1.1.3) ∧ x.fst.cap = x_1.1.cap ∧
  PL.ints x.fst.l = PL.ints x_1.1.l ∧ PL.RImgOK x_1.fst x_1.snd ∧ ∀ (y : Unit), True → (∃ (i : Nat), PL.NumAt x i ∧ x.snd = x.snd ∧ 0 = PL.numB (List.take i (PL.dropk x.fst.l
  x.fst.k x.snd)) ∧ x.snd = x.snd ∧ (Nat.add 0 (x_1.1.k.toNat.mul 1)).add 0 = (Nat.add 0 (x_1.1.k.toNat.mul 1)).add 0 ∧ x_1.snd = x_1.snd ∧ x_1.1.cap.sub x_1.1.k = x_1.1.cap.sub
  x_1.1.k ∧ x_1.snd = x_1.snd ∧ 0 = (↑i : Int) ∧ (Nat.add 0 ((x_1.1.k.add x_1.snd).toNat.mul 1)).add 0 = (Nat.add 0 ((x_1.1.k.add x_1.snd).toNat.mul 1)).add 0 ∧ (↑x_1.1.l.length :
  Int).sub (x_1.1.k.add x_1.snd) = (↑x_1.1.l.length : Int).sub (x_1.1.k.add x_1.snd) ∧ x_1.1.cap.sub (x_1.1.k.add x_1.snd) = x_1.1.cap.sub (x_1.1.k.add x_1.snd) ∧ (x_1.1.3 ↔
  x_1.1.3) ∧ x_1.1.cap = x_1.1.cap ∧ PL.ints x_1.1.l = PL.ints x_1.1.l ∧ True) ∧ ∀ (i : Nat), PL.NumAt x i → (ar.lt (↑i : Int) x_1.snd → ar.le 0 (↑i : Int) ∧ ar.lt (↑i : Int)
  x_1.snd ∧ ar.le 0 x_1.1.k ∧ ar.le 0 (ar.add x_1.1.k (↑i : Int)) ∧ ar.lt (ar.add x_1.1.k (↑i : Int)) (ar.ilen (PL.ints x_1.1.l)) ∧ ∀ (z : Int), z = ar.shl IntKind.i64 (PL.numB
  (List.take i (PL.dropk x.fst.l x.fst.k x.snd))) 8 → ∀ (z_1 : Int), z_1 = ar.wrap IntKind.i64 (ar.iget (PL.ints x_1.1.l) (ar.add x_1.1.k (↑i : Int))) → ∀ (z_2 : Int), z_2 = ar.bor
  IntKind.i64 z z_1 → ∀ (z : Int), z = ar.wrap IntKind.i64 (ar.add (↑i : Int) 1) → ∃ (j : Nat), PL.NumAt x j ∧ (x.snd.toNat.sub j).lt (x.snd.toNat.sub i) ∧ x.snd = x.snd ∧ z_2 =
  PL.numB (List.take j (PL.dropk x.fst.l x.fst.k x.snd)) ∧ x.snd = x.snd ∧ (Nat.add 0 (x_1.1.k.toNat.mul 1)).add 0 = (Nat.add 0 (x_1.1.k.toNat.mul 1)).add 0 ∧ x_1.snd = x_1.snd ∧
  x_1.1.cap.sub x_1.1.k = x_1.1.cap.sub x_1.1.k ∧ x_1.snd = x_1.snd ∧ z = (↑j : Int) ∧ (Nat.add 0 ((x_1.1.k.add x_1.snd).toNat.mul 1)).add 0 = (Nat.add 0 ((x_1.1.k.add
  x_1.snd).toNat.mul 1)).add 0 ∧ (↑x_1.1.l.length : Int).sub (x_1.1.k.add x_1.snd) = (↑x_1.1.l.length : Int).sub (x_1.1.k.add x_1.snd) ∧ x_1.1.cap.sub (x_1.1.k.add x_1.snd) =
  x_1.1.cap.sub (x_1.1.k.add x_1.snd) ∧ (x_1.1.3 ↔ x_1.1.3) ∧ x_1.1.cap = x_1.1.cap ∧ PL.ints x_1.1.l = PL.ints x_1.1.l ∧ True) ∧ (¬ar.lt (↑i : Int) x_1.snd → ∃ (y : Unit), True ∧
  PL.numB (List.take i (PL.dropk x.fst.l x.fst.k x.snd)) = PL.numB (PL.dropk x.fst.l x.fst.k x.snd) ∧ (Nat.add 0 ((x_1.1.k.add x_1.snd).toNat.mul 1)).add 0 = (Nat.add 0
  ((x.fst.k.add x.snd).toNat.mul 1)).add 0 ∧ (↑x_1.1.l.length : Int).sub (x_1.1.k.add x_1.snd) = (↑x.fst.l.length : Int).sub (x.fst.k.add x.snd) ∧ x_1.1.cap.sub (x_1.1.k.add
  x_1.snd) = x.fst.cap.sub (x.fst.k.add x.snd) ∧ (x_1.1.3 ↔ x.fst.bad) ∧ x_1.1.cap = x.fst.cap ∧ PL.ints x_1.1.l = PL.ints x.fst.l ∧ True)
theorem number_eq (ar : AR) (x : numberSpec.X) : (run ar PP tSpecs (numberInvs x) 1000 33 (numberSpec.H x).length (Tryd.f33.body.getD .skip) (numberSpec.A x ++ List.replicate (Tryd.f33.ntmps - (numberSpec.A x).length) .any) (numberSpec.H x) (endCall ar PP Tryd.f33.results.toList (numberSpec.fin x))) = number_vc ar x := by
  kernel_rfl
theorem number_of (h : ∀ x, numberSpec.pre x → number_vc ar0 x) : numberSpec.OK PP 33 :=
  Spec.ok_of_run (fn := Tryd.f33) (c := Tryd.f33.body.getD .skip) (by kernel_rfl) (by kernel_rfl) (by kernel_rfl) tSpecs_ok numberInvs 1000 (fun x hx => (number_eq ar0 x).mpr (h x hx))
theorem numberSpec_ok : numberSpec.OK PP 33 := by
  refine number_of fun x hx => ?_
  obtain ⟨m, n⟩ := x
  obtain ⟨⟨h1, h2, h3, h4⟩, h7⟩ : PL.NumIn (m, n) := hx
  simp only at h1 h2 h3 h4 h7
  unfold number_vc
  simp only [ars, ars2, true_and, and_true, exists_const, Int.add_zero, iff_self]
  have hl := PL.dropk_length h2 h3 h4
  refine ⟨(m, n), rfl, rfl, rfl, rfl, Iff.rfl, rfl, rfl, ⟨h1, h2, h3, h4⟩, fun _ _ => ⟨⟨0, ⟨by simpa using h3⟩, by simp [PL.numB_nil]⟩, fun i hi => ?_⟩⟩
  obtain ⟨hi⟩ := hi
  simp only at hi
  simp only [PL.ints_length]
  refine ⟨fun hlt => ⟨by omega, hlt, h2, by omega, by omega, ?_⟩, fun hge => ?_⟩
  · have hb := PL.numB_lt (l := (PL.dropk m.l m.k n).take i) (k := 6) (by simp; omega)
    have hb2 : PL.numB ((PL.dropk m.l m.k n).take i) < 2 ^ 54 := Int.lt_of_lt_of_le hb.2 (by decide)
    intro z hz z1 hz1
    rw [shl_i64_8 hb.1 hb2] at hz
    subst hz
    have hk : (m.k + (i : Int)).toNat < m.l.length := by omega
    rw [PL.ints_get hk] at hz1
    have hlt256 := (m.l[(m.k + (i : Int)).toNat]).toNat_lt
    rw [wrap_i64 (by omega) (by omega)] at hz1
    subst hz1
    rw [bor_i64_8 hb.1 hb2 (by omega) (by omega)]
    intro z2 hz2 z3 hz3
    rw [wrap_i64 (by omega) (by omega)] at hz3
    refine ⟨i + 1, ⟨by simp only; omega⟩, by omega, ?_⟩
    have hd : (PL.dropk m.l m.k n)[i]'(by omega) = m.l[(m.k + (i : Int)).toNat] := by
      simp only [PL.dropk, List.getElem_take, List.getElem_drop]
      congr 1
      omega
    rw [PL.take_snoc (by omega), PL.numB_snoc, hd]
    and_intros <;> first | rfl | trivial | omega | assumption
  · rw [List.take_of_length_le (by omega)]
    simp
def bigSpec : Spec where
  X := Int × Int
  A x := [.int .i64 (.x x.1), .int .i64 (.x x.2)]
  H x := []
  pre x := PL.BigIn x
  outs := [{ Y _ := Unit, post _ _ := True, R x _ := .str (PL.big x.1 x.2.toNat), H' x _ := [] }]
def bigInv (x : Int × Int) : Code → List SV → List Blk → List Inv := fun b fr hp => [
  { ι := Nat, fr := fun i => upd (havoc b fr) [(0, .int .i64 (.x (x.1 / 256 ^ i))), (5, .str (PL.big x.1 i)), (6, .int .i64 (.x (i : Int)))], hp := fun i => hp, μ := fun i => x.2.toNat - i, ok := fun i => PL.BigAt x i }]
def bigInvs (x : Int × Int) : Invs := fun f n => match f, n with
  | 90, 3 => some (bigInv x)
  | _, _ => none
def big_vc (ar : AR) (x : bigSpec.X) : Prop :=
  (∃ (i : Nat), PL.BigAt x i ∧ x.fst = x.fst.ediv (Int.pow 256 i) ∧ x.snd = x.snd ∧ ([] : List UInt8) = [] ∧ [] = PL.big x.fst i ∧ 0 = (↑i : Int) ∧ True) ∧ ∀ (i : Nat), PL.BigAt x
  i → (ar.lt (↑i : Int) x.snd → ∀ (z : Int), z = ar.rem (x.fst.ediv (Int.pow 256 i)) 256 → ∀ (z_1 : Int), z_1 = ar.wrap IntKind.u8 z → ∀ (t : List UInt8), t = ar.bytes [z_1] →
  ar.le (ar.add (ar.slen t) (ar.slen (PL.big x.fst i))) 9223372036854775807 ∧ ∀ (t_1 : List UInt8), t_1 = ar.sapp t (PL.big x.fst i) → ∀ (z : Int), z = ar.wrap IntKind.i64 (ar.quo
  (x.fst.ediv (Int.pow 256 i)) 256) → ∀ (z_2 : Int), z_2 = ar.wrap IntKind.i64 (ar.add (↑i : Int) 1) → ∃ (j : Nat), PL.BigAt x j ∧ (x.snd.toNat.sub j).lt (x.snd.toNat.sub i) ∧ z =
  x.fst.ediv (Int.pow 256 j) ∧ x.snd = x.snd ∧ ([] : List UInt8) = [] ∧ t_1 = PL.big x.fst j ∧ z_2 = (↑j : Int) ∧ True) ∧ (¬ar.lt (↑i : Int) x.snd → ∃ (y : Unit), True ∧ PL.big
  x.fst i = PL.big x.fst x.snd.toNat ∧ True)
theorem big_eq (ar : AR) (x : bigSpec.X) : (run ar PP noSpec (bigInvs x) 1000 90 (bigSpec.H x).length (Tryd.f90.body.getD .skip) (bigSpec.A x ++ List.replicate (Tryd.f90.ntmps - (bigSpec.A x).length) .any) (bigSpec.H x) (endCall ar PP Tryd.f90.results.toList (bigSpec.fin x))) = big_vc ar x := by
  kernel_rfl
end Go.Eng
namespace Go.PL
structure Root where
  cfg : Cfg
  refs : Refs
def SixT (r : Refs) (i : Nat) : Prop := (r.N.getD i []).length = 16 ∧ (r.T.getD i []).length = 16
structure Good (r : Refs) : Prop where
  all : ∀ i : Nat, (i : Int) < r.len → SixT r i
structure IdxPost (r : Refs) (y : Int) : Prop where
  iff : 0 ≤ y ↔ ¬ Good r
structure IdxAt (r : Refs) (i : Nat) : Prop where
  le : (i : Int) ≤ r.len
  all : ∀ j, j < i → SixT r j
structure EncC (c : Cfg) (r : Root) : Prop where
  ok : CfgOK c
  cfg : r.cfg = c
structure EncI (c : Cfg) (r : Root) : Prop where
  len : r.refs.len = pagesI c
  good : Good r.refs
theorem pages_range {c : Cfg} (h : CfgOK c) : 1 ≤ pagesI c ∧ pagesI c ≤ 1024 := by
  refine ⟨?_, h.pages⟩
  obtain ⟨h1, h2, h3, h4, h5, h6⟩ := h.ok
  unfold pagesI
  have : 1 ≤ lenI c := by unfold lenI; omega
  rw [Int.le_ediv_iff_mul_le (by omega)]
  omega
structure RootIn (x : Cfg × Root) : Prop where
  refs : RefsOK x.2.refs
structure EncAt (x : Cfg × Root) (i : Nat × Int) : Prop where
  le : (i.1 : Int) ≤ x.2.refs.len
  all : ∀ j, j < i.1 → SixT x.2.refs j
  cap : (27 + 32 * i.1 : Int) ≤ i.2
structure SameIn (x : Root × Root) : Prop where
  a : RefsOK x.1.refs
  b : RefsOK x.2.refs
structure SameR (a b : Root) : Prop where
  cfg : a.cfg = b.cfg
  N : a.refs.N = b.refs.N
  T : a.refs.T = b.refs.T
structure SameAt (x : Root × Root) (i : Nat) : Prop where
  le : (i : Int) ≤ x.1.refs.len
  len : x.1.refs.len = x.2.refs.len
  cfg : x.1.cfg = x.2.cfg
  N : x.1.refs.N.take i = x.2.refs.N.take i
  T : x.1.refs.T.take i = x.2.refs.T.take i
end Go.PL
set_option linter.unusedSectionVars false
set_option linter.unusedSimpArgs false
set_option linter.unusedVariables false
namespace Go.Eng
variable [CW : CWorld]
open Go.Proofs
open Go.PL (Cfg CfgIn CfgOK CfgBad Img RImg Refs Root)
set_option maxRecDepth 100000
attribute [local irreducible] run
theorem ex_img {v s y : Int} {L : List UInt8} {b : Prop} {Q : Img × Int × Int → Prop} :
    (∃ x : Img × Int × Int, v = x.2.1 ∧ s = x.2.2 ∧ (L.length : Int) = (x.1.l.length : Int) ∧ y = x.1.cap ∧ (b ↔ x.1.bad) ∧ y = x.1.cap ∧ PL.ints L = PL.ints x.1.l ∧ Q x) ↔ Q (⟨L, y, b⟩, v, s) := by
  constructor
  · rintro ⟨⟨⟨l, c, d⟩, e, f⟩, h1, h2, h3, h4, h5, h6, h7, h⟩
    simp only at h1 h2 h3 h4 h5 h6 h7
    have := PL.ints_inj h7
    have h5 := propext h5
    subst h1 h2 h4 this h5
    exact h
  · exact fun h => ⟨_, rfl, rfl, rfl, rfl, Iff.rfl, rfl, rfl, h⟩
theorem ex_pair {a b : Int} {Q : Int × Int → Prop} : (∃ x : Int × Int, a = x.1 ∧ b = x.2 ∧ Q x) ↔ Q (a, b) := by
  constructor
  · rintro ⟨⟨x, y⟩, rfl, rfl, h⟩; exact h
  · exact fun h => ⟨(a, b), rfl, rfl, h⟩
end Go.Eng

