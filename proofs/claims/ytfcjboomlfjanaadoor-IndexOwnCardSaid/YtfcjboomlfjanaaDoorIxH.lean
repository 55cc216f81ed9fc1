/- Index: Decode. -/
import Derived.Test.YtfcjboomlfjanaaDoorIxG
import Derived.Test.YtfcjboomlfjanaaDoorIxF
set_option linter.unusedVariables false
set_option linter.unusedSimpArgs false
namespace Go.PL
structure BadTo (s : List UInt8) (c : Cfg) (n : Nat) : Prop where
  ex : ∃ p, p < n ∧ BadRow (imR s c p) (kndR c p)
structure Dp0 (x : Cfg × Txts) (i : Nat × Int) : Prop where
  le : i.1 ≤ x.2.l.length
  cap : ((x.2.l.take i.1).flatten.length : Int) ≤ i.2
structure Dp1 (x : Cfg × Txts) (i : Nat × Int × Int) : Prop where
  le : (i.1 : Int) ≤ x.1.dirs
  cap : nLive x.2.l.flatten x.1 i.1 ≤ i.2.1
  bcap : (x.2.l.flatten.length : Int) ≤ i.2.2
structure Dp2 (x : Cfg × Txts) (i : Nat × Int × Int) : Prop where
  le : (i.1 : Int) ≤ x.1.files
  cap : nLive x.2.l.flatten x.1 (x.1.dirs.toNat + i.1) ≤ i.2.1
  bcap : (x.2.l.flatten.length : Int) ≤ i.2.2
structure Dp3 (x : Cfg × Txts) (i : Nat × Int × Int × Int) : Prop where
  le : (i.1 : Int) ≤ rowsC x.1
  cap : nLive x.2.l.flatten x.1 (nRows x.1) ≤ i.2.1
  bcap : (x.2.l.flatten.length : Int) ≤ i.2.2.1
  cap2 : (i.1 : Int) ≤ i.2.2.2
structure Dp4 (x : Cfg × Txts) (i : Nat × Int × Int × Int × Int) : Prop where
  le : (i.1 : Int) ≤ cntP x.2.l.flatten x.1
  cap : nLive x.2.l.flatten x.1 (nRows x.1) ≤ i.2.1
  bcap : (x.2.l.flatten.length : Int) ≤ i.2.2.1
  cap2 : rowsC x.1 ≤ i.2.2.2.1
  cap3 : (i.1 : Int) ≤ i.2.2.2.2
structure Yes (u : Unit) : Prop where
  any : True
theorem badTo_succ {s : List UInt8} {c : Cfg} {n : Nat} : BadTo s c (n + 1) ↔ BadTo s c n ∨ BadRow (imR s c n) (kndR c n) := by
  constructor
  · rintro ⟨p, hp, h⟩
    by_cases e : p = n
    · subst e; exact .inr h
    · exact .inl ⟨p, by omega, h⟩
  · rintro (⟨p, hp, h⟩ | h)
    · exact ⟨p, by omega, h⟩
    · exact ⟨n, by omega, h⟩
theorem badTo_zero {s : List UInt8} {c : Cfg} : ¬ BadTo s c 0 := fun ⟨p, hp, _⟩ => by omega
end Go.PL
set_option linter.unusedSectionVars false
set_option linter.unusedSimpArgs false
set_option linter.unusedVariables false
namespace Go.Eng
variable [CW : CWorld]
open Go.Proofs Go.PL
set_option maxRecDepth 100000
attribute [local irreducible] run
def imgAt (s : List UInt8) (k cap : Int) (bad : Prop) : Blk := imgB 5 (.x 0 1 k 0) (s.length - k) (cap - k) bad
def dp0 (x : Cfg × Txts) : Code → List SV → List Blk → List Inv := fun b fr hp => [
  { ι := Nat × Int, fr := fun i => only b fr 10 [44, 45] [(46, .int .i64 (.x (i.1 : Int)))],
    hp := fun i => [hp.getD 0 .gone, hp.getD 1 .gone, hp.getD 2 .gone, hp.getD 3 .gone, imgB 5 (.l 0) (((x.2.l.take i.1).flatten).length : Int) i.2 False, bytesB (x.2.l.take i.1).flatten i.2], μ := fun i => x.2.l.length - i.1, ok := fun i => PL.Dp0 x i }]
def dp1 (x : Cfg × Txts) : Code → List SV → List Blk → List Inv := fun b fr hp => [
  { ι := Nat × Int × Int, fr := fun i => only b fr 13 [] [(13, .int .i64 (.x (i.1 + 1 : Int)))],
    hp := fun i => [hp.getD 0 .gone, hp.getD 1 .gone, hp.getD 2 .gone, hp.getD 3 .gone, imgAt x.2.l.flatten (36 * i.1 : Int) i.2.2 (PL.BadTo x.2.l.flatten x.1 i.1), bytesB x.2.l.flatten i.2.2, treeB 7 x.1 (PL.nLive x.2.l.flatten x.1 i.1) i.2.1, nodsB (PL.nodsP x.2.l.flatten x.1 i.1 i.2.1)],
    μ := fun i => x.1.dirs.toNat - i.1, ok := fun i => PL.Dp1 x i }]
def dp2 (x : Cfg × Txts) : Code → List SV → List Blk → List Inv := fun b fr hp => [
  { ι := Nat × Int × Int, fr := fun i => only b fr 13 [84] [(85, .int .i64 (.x (i.1 : Int)))],
    hp := fun i => [hp.getD 0 .gone, hp.getD 1 .gone, hp.getD 2 .gone, hp.getD 3 .gone, imgAt x.2.l.flatten (36 * x.1.dirs + 40 * i.1 : Int) i.2.2 (PL.BadTo x.2.l.flatten x.1 (x.1.dirs.toNat + i.1)), bytesB x.2.l.flatten i.2.2, treeB 7 x.1 (PL.nLive x.2.l.flatten x.1 (x.1.dirs.toNat + i.1)) i.2.1, nodsB (PL.nodsP x.2.l.flatten x.1 (x.1.dirs.toNat + i.1) i.2.1)],
    μ := fun i => x.1.files.toNat - i.1, ok := fun i => PL.Dp2 x i }]
def dp3 (x : Cfg × Txts) : Code → List SV → List Blk → List Inv := fun b fr hp => [
  { ι := Nat × Int × Int × Int, fr := fun i => only b fr 18 [106] [(107, .int .i64 (.x (i.1 : Int)))],
    hp := fun i => [hp.getD 0 .gone, hp.getD 1 .gone, hp.getD 2 .gone, hp.getD 3 .gone, imgAt x.2.l.flatten (PL.offO x.1 + 40 * i.1 : Int) i.2.2.1 (PL.BadTo x.2.l.flatten x.1 (PL.nRows x.1)), bytesB x.2.l.flatten i.2.2.1, treeB 7 x.1 (PL.nLive x.2.l.flatten x.1 (PL.nRows x.1)) i.2.1, nodsB (PL.nodsP x.2.l.flatten x.1 (PL.nRows x.1) i.2.1), poolB (.slc 9 (.l 0) (.x (i.1 : Int)) (.x i.2.2.2)) .nslc, objsB (objsXn x.2.l.flatten x.1 i.1 i.2.2.2)],
    μ := fun i => (PL.rowsC x.1).toNat - i.1, ok := fun i => PL.Dp3 x i }]
def imgK : Blk → Int
  | .mk _ [.one (.slc _ (.x _ _ e _) _ _), _] => e
  | _ => 0
def imgBad : Blk → Prop
  | .mk _ [_, .one (.bool (.x p))] => p
  | _ => False
def capB : Blk → Int
  | .mk _ [.arr (.x c) _] => c
  | _ => 0
def dpCut (x : Cfg × Txts) : Code → List SV → List Blk → List Inv := fun b fr hp => [
  { ι := Unit, fr := fun i => only b fr 18 [106, 107] [(18, .ptr 10 (.l 0))],
    hp := fun i => [hp.getD 0 .gone, hp.getD 1 .gone, hp.getD 2 .gone, hp.getD 3 .gone, imgAt x.2.l.flatten (imgK (hp.getD 4 .gone) + 36) (capB (hp.getD 5 .gone)) (imgBad (hp.getD 4 .gone)), hp.getD 5 .gone, hp.getD 6 .gone, hp.getD 7 .gone, hp.getD 8 .gone, hp.getD 9 .gone,
      .mk 51 [.one (.str (dropk x.2.l.flatten (imgK (hp.getD 4 .gone)) 16)), .one (.str (dropk x.2.l.flatten (imgK (hp.getD 4 .gone) + 16) 16)), .one (.int .i64 (.x (numB (dropk x.2.l.flatten (imgK (hp.getD 4 .gone) + 32) 4)))), .one (.int .i64 (.l 0))]],
    μ := fun i => 0, ok := fun i => PL.Yes i }]
def dp4 (x : Cfg × Txts) : Code → List SV → List Blk → List Inv := fun b fr hp => [
  { ι := Nat × Int × Int × Int × Int, fr := fun i => only b fr 19 [] [(19, .int .i64 (.x (PL.cntP x.2.l.flatten x.1))), (139, .int .i64 (.x (PL.cntP x.2.l.flatten x.1))), (140, .int .i64 (.x (i.1 : Int)))],
    hp := fun i => [hp.getD 0 .gone, hp.getD 1 .gone, hp.getD 2 .gone, hp.getD 3 .gone, imgAt x.2.l.flatten (PL.offQ x.1 + 4 + 4 * i.1 : Int) i.2.2.1 (PL.BadTo x.2.l.flatten x.1 (PL.nRows x.1) ∨ PL.rowsC x.1 < PL.cntQ x.2.l.flatten x.1), bytesB x.2.l.flatten i.2.2.1, treeB 7 x.1 (PL.nLive x.2.l.flatten x.1 (PL.nRows x.1)) i.2.1, nodsB (PL.nodsP x.2.l.flatten x.1 (PL.nRows x.1) i.2.1),
      poolB (.slc 9 (.l 0) (.x (PL.rowsC x.1)) (.x i.2.2.2.1)) (.slc 10 (.l 0) (.x (i.1 : Int)) (.x i.2.2.2.2)), objsB (PL.objsX x.2.l.flatten x.1 i.2.2.2.1), qB (PL.qL x.2.l.flatten x.1 i.1) i.2.2.2.2],
    μ := fun i => (PL.cntP x.2.l.flatten x.1).toNat - i.1, ok := fun i => PL.Dp4 x i }]
def dpInvs (x : Cfg × Txts) : Invs := fun f n => match f, n with
  | 10, 9 => some (dp0 x)
  | 10, 15 => some (dp1 x)
  | 10, 21 => some (dp2 x)
  | 10, 29 => some (dp3 x)
  | 10, 38 => some (dp4 x)
  | 10, 1000030 => some (dpCut x)
  | _, _ => none
noncomputable def dpSpecs : Specs := fun f a h => match f with
  | 2 => some lateMark
  | 29 => some clenSpec
  | 31 => some rowRSpec
  | 32 => some takeSpec
  | 33 => some numberSpec
  | 34 => some trimSpec
  | 35 => some treeSpec
  | 36 => some poolSpec
  | 37 => some clipN
  | 38 => some clipO
  | 39 => some clipQ
  | _ => eSpecs f a h
theorem dpSpecs_ok : SpecsOK PP dpSpecs := by
  intro CW f xs _ S h
  unfold dpSpecs at h
  split at h
  · cases h; exact lateMark_ok
  · cases h; exact clenSpec_ok
  · cases h; exact rowRSpec_ok
  · cases h; exact takeSpec_ok
  · cases h; exact numberSpec_ok
  · cases h; exact trimSpec_ok
  · cases h; exact itree_ok
  · cases h; exact ipool_ok
  · cases h; exact clipN_ok
  · cases h; exact clipO_ok
  · cases h; exact clipQ_ok
  · exact eSpecs_ok CW _ _ _ _ h
def treeSx (n : Nat) (t : Tree) : SV := .agg [.int .i64 (.x t.files), .int .i64 (.x t.dirs), .slc n (.x 0 5 0 0) (.x t.nods.len) (.x t.nods.len)]
def poolSx (n m : Nat) (p : Pool) : SV := .agg [.slc n (.x 0 4 0 0) (.x p.objs.len) (.x p.objs.len), .slc m (.x 0 1 0 0) (.x p.qlen) (.x p.qlen)]
noncomputable def dkSpec : Spec where
  X := Cfg × Txts
  A x := [.agg (cfgL x.1), .cs [.strs x.2.l] (.x x.2.len) (.x x.2.cap)]
  H x := []
  pre x := PL.DcIn x
  outs := [{ Y _ := (Tree × Pool) × Int × Int × Int, post x y := PL.DcPost x y, R x y := .tup [treeSx 0 y.1.1, poolSx 1 2 y.1.2, .int .i64 (.x (PL.dcE x.1 x.2.l))], H' x y := [nodsC y.1.1.nods y.2.1, objsC y.1.2.objs y.2.2.1, qB y.1.2.q y.2.2.2] }]
  frz := true
def dk_vc (ar : AR) (x : dkSpec.X) : Prop :=
 ∃ x_1 : Cfg, x.1.slots = x_1.slots ∧ x.1.files = x_1.files ∧ x.1.dirs = x_1.dirs ∧ x.1.most = x_1.most ∧ x.1.least = x_1.least ∧ x.1.page = x_1.page ∧ CfgAny x_1 ∧ ∀ y : Unit, True → (¬ar.eq (chk x_1) 0 → ∃ (y : (Tree × Pool) × Int × Int ×
 Int), DcPost x y ∧ 0 = y.1.1.files ∧ 0 = y.1.1.dirs ∧ 0 = y.1.1.nods.len ∧ 0 = y.1.1.nods.len ∧ 0 = y.1.2.objs.len ∧ 0 = y.1.2.objs.len ∧ 0 = y.1.2.qlen ∧ 0 = y.1.2.qlen ∧ chk x_1 = dcE x.1 x.2.l ∧ y.2.1 = 0 ∧ y.1.1.nods.K = [] ∧
 y.1.1.nods.N = [] ∧ y.1.1.nods.P = [] ∧ y.1.1.nods.S = [] ∧ y.1.1.nods.Z = [] ∧ y.2.2.1 = 0 ∧ y.1.2.objs.N = [] ∧ y.1.2.objs.T = [] ∧ y.1.2.objs.B = [] ∧ y.1.2.objs.O = [] ∧ y.2.2.2 = 0 ∧ y.1.2.q = [] ∧ True) ∧ (¬¬ar.eq (chk x_1) 0 → ∀ z :
 Int, z = ar.wrap .i64 (ar.sub x.1.page 5) → ∃ x_2 : Cfg, x.1.slots = x_2.slots ∧ x.1.files = x_2.files ∧ x.1.dirs = x_2.dirs ∧ x.1.most = x_2.most ∧ x.1.least = x_2.least ∧ x.1.page = x_2.page ∧ CfgIn x_2 ∧ ∀ y : Unit, True → ((¬ar.eq
 x.2.len (pagesI x_2) → False) → ∃ x_3 : Txts × Int, x.2.l = x_3.1.l ∧ x.2.len = x_3.1.len ∧ x.2.cap = x_3.1.cap ∧ z = x_3.2 ∧ LensIn x_3 ∧ ∀ y : Unit, True → (¬AllLen x_3.1.l x_3.2 → ∃ (y : (Tree × Pool) × Int × Int × Int), DcPost x y ∧ 0
 = y.1.1.files ∧ 0 = y.1.1.dirs ∧ 0 = y.1.1.nods.len ∧ 0 = y.1.1.nods.len ∧ 0 = y.1.2.objs.len ∧ 0 = y.1.2.objs.len ∧ 0 = y.1.2.qlen ∧ 0 = y.1.2.qlen ∧ 141 = dcE x.1 x.2.l ∧ y.2.1 = 0 ∧ y.1.1.nods.K = [] ∧ y.1.1.nods.N = [] ∧ y.1.1.nods.P =
 [] ∧ y.1.1.nods.S = [] ∧ y.1.1.nods.Z = [] ∧ y.2.2.1 = 0 ∧ y.1.2.objs.N = [] ∧ y.1.2.objs.T = [] ∧ y.1.2.objs.B = [] ∧ y.1.2.objs.O = [] ∧ y.2.2.2 = 0 ∧ y.1.2.q = [] ∧ True) ∧ (¬¬AllLen x_3.1.l x_3.2 → (∃ i : Nat × Int, Dp0 x i ∧ x.1.slots
 = x.1.slots ∧ x.1.files = x.1.files ∧ x.1.dirs = x.1.dirs ∧ x.1.most = x.1.most ∧ x.1.least = x.1.least ∧ x.1.page = x.1.page ∧ x.2.l = x.2.l ∧ x.2.len = x.2.len ∧ x.2.cap = x.2.cap ∧ chk x_1 = chk x_1 ∧ x.2.l = x.2.l ∧ x.2.len = x.2.len ∧
 x.2.cap = x.2.cap ∧ x.2.len = x.2.len ∧ 0 = (↑i.1 : Int) ∧ x.1.slots = x.1.slots ∧ x.1.files = x.1.files ∧ x.1.dirs = x.1.dirs ∧ x.1.most = x.1.most ∧ x.1.least = x.1.least ∧ x.1.page = x.1.page ∧ x_3.2 = x_3.2 ∧ 0 = (↑(List.take i.1
 x.2.l).flatten.length : Int) ∧ 0 = i.2 ∧ (false = true ↔ False) ∧ i.2 = 0 ∧ ints (List.take i.1 x.2.l).flatten = [] ∧ True) ∧ ∀ i : Nat × Int, Dp0 x i → (ar.lt (↑i.1 : Int) x.2.len → ar.le 0 (↑i.1 : Int) ∧ ar.lt (↑i.1 : Int) x.2.len ∧
 ar.le (ar.add 0 (↑(List.take i.1 x.2.l).flatten.length : Int)) (ar.ilen (ints (List.take i.1 x.2.l).flatten)) ∧ i.2 = i.2 ∧ ar.le (ar.mul (ar.add (↑(List.take i.1 x.2.l).flatten.length : Int) (ar.slen (ar.tget x.2.l (↑i.1 : Int)))) 1)
 140737488355328 ∧ ∀ c : Int, ar.le (ar.add (↑(List.take i.1 x.2.l).flatten.length : Int) (ar.slen (ar.tget x.2.l (↑i.1 : Int)))) c → ∀ z : Int, z = ar.wrap .i64 (ar.add (↑i.1 : Int) 1) → ∃ j : Nat × Int, Dp0 x j ∧ (x.2.l.length.sub j.1).lt
 (x.2.l.length.sub i.1) ∧ x.1.slots = x.1.slots ∧ x.1.files = x.1.files ∧ x.1.dirs = x.1.dirs ∧ x.1.most = x.1.most ∧ x.1.least = x.1.least ∧ x.1.page = x.1.page ∧ x.2.l = x.2.l ∧ x.2.len = x.2.len ∧ x.2.cap = x.2.cap ∧ chk x_1 = chk x_1 ∧
 x.2.l = x.2.l ∧ x.2.len = x.2.len ∧ x.2.cap = x.2.cap ∧ x.2.len = x.2.len ∧ z = (↑j.1 : Int) ∧ x.1.slots = x.1.slots ∧ x.1.files = x.1.files ∧ x.1.dirs = x.1.dirs ∧ x.1.most = x.1.most ∧ x.1.least = x.1.least ∧ x.1.page = x.1.page ∧ x_3.2
 = x_3.2 ∧ ar.add (↑(List.take i.1 x.2.l).flatten.length : Int) (ar.slen (ar.tget x.2.l (↑i.1 : Int))) = (↑(List.take j.1 x.2.l).flatten.length : Int) ∧ c = j.2 ∧ (False ↔ False) ∧ c = j.2 ∧ ar.iapp (ar.isub (ints (List.take i.1
 x.2.l).flatten) 0 (↑(List.take i.1 x.2.l).flatten.length : Int)) (ar.isub (ar.ints (ar.tget x.2.l (↑i.1 : Int))) 0 (ar.slen (ar.tget x.2.l (↑i.1 : Int)))) = ints (List.take j.1 x.2.l).flatten ∧ True) ∧ (¬ar.lt (↑i.1 : Int) x.2.len → (∃ i_1
 : Nat × Int × Int, Dp1 x i_1 ∧ x.1.slots = x.1.slots ∧ x.1.files = x.1.files ∧ x.1.dirs = x.1.dirs ∧ x.1.most = x.1.most ∧ x.1.least = x.1.least ∧ x.1.page = x.1.page ∧ x.2.l = x.2.l ∧ x.2.len = x.2.len ∧ x.2.cap = x.2.cap ∧ chk x_1 = chk
 x_1 ∧ 1 = (↑i_1.1 : Int).add 1 ∧ x.1.slots = x.1.slots ∧ x.1.files = x.1.files ∧ x.1.dirs = x.1.dirs ∧ x.1.most = x.1.most ∧ x.1.least = x.1.least ∧ x.1.page = x.1.page ∧ x_3.2 = x_3.2 ∧ 0 = (Nat.add 0 ((Int.mul 36 (↑i_1.1 :
 Int)).toNat.mul 1)).add 0 ∧ (↑(List.take i.1 x.2.l).flatten.length : Int) = (↑x.2.l.flatten.length : Int).sub (Int.mul 36 (↑i_1.1 : Int)) ∧ i.2 = i_1.2.2.sub (Int.mul 36 (↑i_1.1 : Int)) ∧ (False ↔ BadTo x.2.l.flatten x.1 i_1.1) ∧ i.2 =
 i_1.2.2 ∧ ints (List.take i.1 x.2.l).flatten = ints x.2.l.flatten ∧ x.1.files = x.1.files ∧ x.1.dirs = x.1.dirs ∧ 0 = nLive x.2.l.flatten x.1 i_1.1 ∧ 0 = i_1.2.1 ∧ i_1.2.1 = 0 ∧ colK x.2.l.flatten x.1 i_1.1 = [] ∧ colN x.2.l.flatten x.1
 i_1.1 = [] ∧ colP x.2.l.flatten x.1 i_1.1 = [] ∧ colS x.2.l.flatten x.1 i_1.1 = [] ∧ colZ x.2.l.flatten x.1 i_1.1 = [] ∧ True) ∧ ∀ i : Nat × Int × Int, Dp1 x i → (ar.le ((↑i.1 : Int).add 1) x.1.dirs → ∃ x_4 : RImg × Int × Int, 1 = x_4.2.1
 ∧ (↑i.1 : Int).add 1 = x_4.2.2 ∧ (Nat.add 0 ((Int.mul 36 (↑i.1 : Int)).toNat.mul 1)).add 0 = (Nat.add 0 ((x_4.1.k.add 0).toNat.mul 1)).add 0 ∧ (↑x.2.l.flatten.length : Int).sub (Int.mul 36 (↑i.1 : Int)) = (↑x_4.1.l.length : Int).sub
 (x_4.1.k.add 0) ∧ i.2.2.sub (Int.mul 36 (↑i.1 : Int)) = x_4.1.cap.sub (x_4.1.k.add 0) ∧ (BadTo x.2.l.flatten x.1 i.1 ↔ x_4.1.3) ∧ i.2.2 = x_4.1.cap ∧ ints x.2.l.flatten = ints x_4.1.l ∧ NRowIn x_4 ∧ ∀ y : Unit, True → (¬ar.eq (rdK x_4.1
 x_4.2.1) 0 → ar.le (ar.add 0 (nLive x.2.l.flatten x.1 i.1)) (ar.ilen (colK x.2.l.flatten x.1 i.1)) ∧ ar.le (ar.add 0 (nLive x.2.l.flatten x.1 i.1)) (ar.ilen (colN x.2.l.flatten x.1 i.1)) ∧ ar.le (ar.add 0 (nLive x.2.l.flatten x.1 i.1))
 (ar.ilen (colP x.2.l.flatten x.1 i.1)) ∧ ar.le (ar.add 0 (nLive x.2.l.flatten x.1 i.1)) (ar.tlen (colS x.2.l.flatten x.1 i.1)) ∧ ar.le (ar.add 0 (nLive x.2.l.flatten x.1 i.1)) (ar.ilen (colZ x.2.l.flatten x.1 i.1)) ∧ i.2.1 = i.2.1 ∧ ar.le
 (ar.mul (ar.add (nLive x.2.l.flatten x.1 i.1) 1) 48) 140737488355328 ∧ ∀ c : Int, ar.le (ar.add (nLive x.2.l.flatten x.1 i.1) 1) c → ∀ z : Int, z = ar.wrap .i64 (ar.add ((↑i.1 : Int).add 1) 1) → ∃ j : Nat × Int × Int, Dp1 x j ∧
 (x.1.dirs.toNat.sub j.1).lt (x.1.dirs.toNat.sub i.1) ∧ x.1.slots = x.1.slots ∧ x.1.files = x.1.files ∧ x.1.dirs = x.1.dirs ∧ x.1.most = x.1.most ∧ x.1.least = x.1.least ∧ x.1.page = x.1.page ∧ x.2.l = x.2.l ∧ x.2.len = x.2.len ∧ x.2.cap =
 x.2.cap ∧ chk x_1 = chk x_1 ∧ z = (↑j.1 : Int).add 1 ∧ x.1.slots = x.1.slots ∧ x.1.files = x.1.files ∧ x.1.dirs = x.1.dirs ∧ x.1.most = x.1.most ∧ x.1.least = x.1.least ∧ x.1.page = x.1.page ∧ x_3.2 = x_3.2 ∧ (Nat.add 0 ((x_4.1.k.add (rsz
 x_4.2.1)).toNat.mul 1)).add 0 = (Nat.add 0 ((Int.mul 36 (↑j.1 : Int)).toNat.mul 1)).add 0 ∧ (↑x_4.1.l.length : Int).sub (x_4.1.k.add (rsz x_4.2.1)) = (↑x.2.l.flatten.length : Int).sub (Int.mul 36 (↑j.1 : Int)) ∧ x_4.1.cap.sub (x_4.1.k.add
 (rsz x_4.2.1)) = j.2.2.sub (Int.mul 36 (↑j.1 : Int)) ∧ (x_4.1.bad ∨ BadRow x_4.1 x_4.2.1 ↔ BadTo x.2.l.flatten x.1 j.1) ∧ x_4.1.cap = j.2.2 ∧ ints x_4.1.l = ints x.2.l.flatten ∧ x.1.files = x.1.files ∧ x.1.dirs = x.1.dirs ∧ ar.add (nLive
 x.2.l.flatten x.1 i.1) 1 = nLive x.2.l.flatten x.1 j.1 ∧ c = j.2.1 ∧ c = j.2.1 ∧ ar.iapp (ar.isub (colK x.2.l.flatten x.1 i.1) 0 (nLive x.2.l.flatten x.1 i.1)) [rdK x_4.1 x_4.2.1] = colK x.2.l.flatten x.1 j.1 ∧ ar.iapp (ar.isub (colN
 x.2.l.flatten x.1 i.1) 0 (nLive x.2.l.flatten x.1 i.1)) [rdN x_4.1 x_4.2.2] = colN x.2.l.flatten x.1 j.1 ∧ ar.iapp (ar.isub (colP x.2.l.flatten x.1 i.1) 0 (nLive x.2.l.flatten x.1 i.1)) [rdP x_4.1] = colP x.2.l.flatten x.1 j.1 ∧ ar.tapp
 (ar.tsub (colS x.2.l.flatten x.1 i.1) 0 (nLive x.2.l.flatten x.1 i.1)) [rdS x_4.1] = colS x.2.l.flatten x.1 j.1 ∧ ar.iapp (ar.isub (colZ x.2.l.flatten x.1 i.1) 0 (nLive x.2.l.flatten x.1 i.1)) [rdZ x_4.1 x_4.2.1] = colZ x.2.l.flatten x.1
 j.1 ∧ True) ∧ (¬¬ar.eq (rdK x_4.1 x_4.2.1) 0 → ∀ z : Int, z = ar.wrap .i64 (ar.add ((↑i.1 : Int).add 1) 1) → ∃ j : Nat × Int × Int, Dp1 x j ∧ (x.1.dirs.toNat.sub j.1).lt (x.1.dirs.toNat.sub i.1) ∧ x.1.slots = x.1.slots ∧ x.1.files =
 x.1.files ∧ x.1.dirs = x.1.dirs ∧ x.1.most = x.1.most ∧ x.1.least = x.1.least ∧ x.1.page = x.1.page ∧ x.2.l = x.2.l ∧ x.2.len = x.2.len ∧ x.2.cap = x.2.cap ∧ chk x_1 = chk x_1 ∧ z = (↑j.1 : Int).add 1 ∧ x.1.slots = x.1.slots ∧ x.1.files =
 x.1.files ∧ x.1.dirs = x.1.dirs ∧ x.1.most = x.1.most ∧ x.1.least = x.1.least ∧ x.1.page = x.1.page ∧ x_3.2 = x_3.2 ∧ (Nat.add 0 ((x_4.1.k.add (rsz x_4.2.1)).toNat.mul 1)).add 0 = (Nat.add 0 ((Int.mul 36 (↑j.1 : Int)).toNat.mul 1)).add 0 ∧
 (↑x_4.1.l.length : Int).sub (x_4.1.k.add (rsz x_4.2.1)) = (↑x.2.l.flatten.length : Int).sub (Int.mul 36 (↑j.1 : Int)) ∧ x_4.1.cap.sub (x_4.1.k.add (rsz x_4.2.1)) = j.2.2.sub (Int.mul 36 (↑j.1 : Int)) ∧ (x_4.1.bad ∨ BadRow x_4.1 x_4.2.1 ↔
 BadTo x.2.l.flatten x.1 j.1) ∧ x_4.1.cap = j.2.2 ∧ ints x_4.1.l = ints x.2.l.flatten ∧ x.1.files = x.1.files ∧ x.1.dirs = x.1.dirs ∧ nLive x.2.l.flatten x.1 i.1 = nLive x.2.l.flatten x.1 j.1 ∧ i.2.1 = j.2.1 ∧ i.2.1 = j.2.1 ∧ colK
 x.2.l.flatten x.1 i.1 = colK x.2.l.flatten x.1 j.1 ∧ colN x.2.l.flatten x.1 i.1 = colN x.2.l.flatten x.1 j.1 ∧ colP x.2.l.flatten x.1 i.1 = colP x.2.l.flatten x.1 j.1 ∧ colS x.2.l.flatten x.1 i.1 = colS x.2.l.flatten x.1 j.1 ∧ colZ
 x.2.l.flatten x.1 i.1 = colZ x.2.l.flatten x.1 j.1 ∧ True)) ∧ (¬ar.le ((↑i.1 : Int).add 1) x.1.dirs → (∃ i_1 : Nat × Int × Int, Dp2 x i_1 ∧ x.1.slots = x.1.slots ∧ x.1.files = x.1.files ∧ x.1.dirs = x.1.dirs ∧ x.1.most = x.1.most ∧
 x.1.least = x.1.least ∧ x.1.page = x.1.page ∧ x.2.l = x.2.l ∧ x.2.len = x.2.len ∧ x.2.cap = x.2.cap ∧ chk x_1 = chk x_1 ∧ x.1.files = x.1.files ∧ 0 = (↑i_1.1 : Int) ∧ x.1.slots = x.1.slots ∧ x.1.files = x.1.files ∧ x.1.dirs = x.1.dirs ∧
 x.1.most = x.1.most ∧ x.1.least = x.1.least ∧ x.1.page = x.1.page ∧ x_3.2 = x_3.2 ∧ (Nat.add 0 ((Int.mul 36 (↑i.1 : Int)).toNat.mul 1)).add 0 = (Nat.add 0 (((Int.mul 36 x.1.dirs).add (Int.mul 40 (↑i_1.1 : Int))).toNat.mul 1)).add 0 ∧
 (↑x.2.l.flatten.length : Int).sub (Int.mul 36 (↑i.1 : Int)) = (↑x.2.l.flatten.length : Int).sub ((Int.mul 36 x.1.dirs).add (Int.mul 40 (↑i_1.1 : Int))) ∧ i.2.2.sub (Int.mul 36 (↑i.1 : Int)) = i_1.2.2.sub ((Int.mul 36 x.1.dirs).add (Int.mul
 40 (↑i_1.1 : Int))) ∧ (BadTo x.2.l.flatten x.1 i.1 ↔ BadTo x.2.l.flatten x.1 (x.1.dirs.toNat.add i_1.1)) ∧ i.2.2 = i_1.2.2 ∧ ints x.2.l.flatten = ints x.2.l.flatten ∧ x.1.files = x.1.files ∧ x.1.dirs = x.1.dirs ∧ nLive x.2.l.flatten x.1
 i.1 = nLive x.2.l.flatten x.1 (x.1.dirs.toNat.add i_1.1) ∧ i.2.1 = i_1.2.1 ∧ i.2.1 = i_1.2.1 ∧ colK x.2.l.flatten x.1 i.1 = colK x.2.l.flatten x.1 (x.1.dirs.toNat.add i_1.1) ∧ colN x.2.l.flatten x.1 i.1 = colN x.2.l.flatten x.1
 (x.1.dirs.toNat.add i_1.1) ∧ colP x.2.l.flatten x.1 i.1 = colP x.2.l.flatten x.1 (x.1.dirs.toNat.add i_1.1) ∧ colS x.2.l.flatten x.1 i.1 = colS x.2.l.flatten x.1 (x.1.dirs.toNat.add i_1.1) ∧ colZ x.2.l.flatten x.1 i.1 = colZ x.2.l.flatten
 x.1 (x.1.dirs.toNat.add i_1.1) ∧ True) ∧ ∀ i : Nat × Int × Int, Dp2 x i → (ar.lt (↑i.1 : Int) x.1.files → ∃ x_4 : RImg × Int × Int, 2 = x_4.2.1 ∧ (↑i.1 : Int) = x_4.2.2 ∧ (Nat.add 0 (((Int.mul 36 x.1.dirs).add (Int.mul 40 (↑i.1 :
 Int))).toNat.mul 1)).add 0 = (Nat.add 0 ((x_4.1.k.add 0).toNat.mul 1)).add 0 ∧ (↑x.2.l.flatten.length : Int).sub ((Int.mul 36 x.1.dirs).add (Int.mul 40 (↑i.1 : Int))) = (↑x_4.1.l.length : Int).sub (x_4.1.k.add 0) ∧ i.2.2.sub ((Int.mul 36
 x.1.dirs).add (Int.mul 40 (↑i.1 : Int))) = x_4.1.cap.sub (x_4.1.k.add 0) ∧ (BadTo x.2.l.flatten x.1 (x.1.dirs.toNat.add i.1) ↔ x_4.1.3) ∧ i.2.2 = x_4.1.cap ∧ ints x.2.l.flatten = ints x_4.1.l ∧ NRowIn x_4 ∧ ∀ y : Unit, True → (¬ar.eq (rdK
 x_4.1 x_4.2.1) 0 → ar.le (ar.add 0 (nLive x.2.l.flatten x.1 (x.1.dirs.toNat.add i.1))) (ar.ilen (colK x.2.l.flatten x.1 (x.1.dirs.toNat.add i.1))) ∧ ar.le (ar.add 0 (nLive x.2.l.flatten x.1 (x.1.dirs.toNat.add i.1))) (ar.ilen (colN
 x.2.l.flatten x.1 (x.1.dirs.toNat.add i.1))) ∧ ar.le (ar.add 0 (nLive x.2.l.flatten x.1 (x.1.dirs.toNat.add i.1))) (ar.ilen (colP x.2.l.flatten x.1 (x.1.dirs.toNat.add i.1))) ∧ ar.le (ar.add 0 (nLive x.2.l.flatten x.1 (x.1.dirs.toNat.add
 i.1))) (ar.tlen (colS x.2.l.flatten x.1 (x.1.dirs.toNat.add i.1))) ∧ ar.le (ar.add 0 (nLive x.2.l.flatten x.1 (x.1.dirs.toNat.add i.1))) (ar.ilen (colZ x.2.l.flatten x.1 (x.1.dirs.toNat.add i.1))) ∧ i.2.1 = i.2.1 ∧ ar.le (ar.mul (ar.add
 (nLive x.2.l.flatten x.1 (x.1.dirs.toNat.add i.1)) 1) 48) 140737488355328 ∧ ∀ c : Int, ar.le (ar.add (nLive x.2.l.flatten x.1 (x.1.dirs.toNat.add i.1)) 1) c → ∀ z : Int, z = ar.wrap .i64 (ar.add (↑i.1 : Int) 1) → ∃ j : Nat × Int × Int, Dp2
 x j ∧ (x.1.files.toNat.sub j.1).lt (x.1.files.toNat.sub i.1) ∧ x.1.slots = x.1.slots ∧ x.1.files = x.1.files ∧ x.1.dirs = x.1.dirs ∧ x.1.most = x.1.most ∧ x.1.least = x.1.least ∧ x.1.page = x.1.page ∧ x.2.l = x.2.l ∧ x.2.len = x.2.len ∧
 x.2.cap = x.2.cap ∧ chk x_1 = chk x_1 ∧ x.1.files = x.1.files ∧ z = (↑j.1 : Int) ∧ x.1.slots = x.1.slots ∧ x.1.files = x.1.files ∧ x.1.dirs = x.1.dirs ∧ x.1.most = x.1.most ∧ x.1.least = x.1.least ∧ x.1.page = x.1.page ∧ x_3.2 = x_3.2 ∧
 (Nat.add 0 ((x_4.1.k.add (rsz x_4.2.1)).toNat.mul 1)).add 0 = (Nat.add 0 (((Int.mul 36 x.1.dirs).add (Int.mul 40 (↑j.1 : Int))).toNat.mul 1)).add 0 ∧ (↑x_4.1.l.length : Int).sub (x_4.1.k.add (rsz x_4.2.1)) = (↑x.2.l.flatten.length :
 Int).sub ((Int.mul 36 x.1.dirs).add (Int.mul 40 (↑j.1 : Int))) ∧ x_4.1.cap.sub (x_4.1.k.add (rsz x_4.2.1)) = j.2.2.sub ((Int.mul 36 x.1.dirs).add (Int.mul 40 (↑j.1 : Int))) ∧ (x_4.1.bad ∨ BadRow x_4.1 x_4.2.1 ↔ BadTo x.2.l.flatten x.1
 (x.1.dirs.toNat.add j.1)) ∧ x_4.1.cap = j.2.2 ∧ ints x_4.1.l = ints x.2.l.flatten ∧ x.1.files = x.1.files ∧ x.1.dirs = x.1.dirs ∧ ar.add (nLive x.2.l.flatten x.1 (x.1.dirs.toNat.add i.1)) 1 = nLive x.2.l.flatten x.1 (x.1.dirs.toNat.add
 j.1) ∧ c = j.2.1 ∧ c = j.2.1 ∧ ar.iapp (ar.isub (colK x.2.l.flatten x.1 (x.1.dirs.toNat.add i.1)) 0 (nLive x.2.l.flatten x.1 (x.1.dirs.toNat.add i.1))) [rdK x_4.1 x_4.2.1] = colK x.2.l.flatten x.1 (x.1.dirs.toNat.add j.1) ∧ ar.iapp
 (ar.isub (colN x.2.l.flatten x.1 (x.1.dirs.toNat.add i.1)) 0 (nLive x.2.l.flatten x.1 (x.1.dirs.toNat.add i.1))) [rdN x_4.1 x_4.2.2] = colN x.2.l.flatten x.1 (x.1.dirs.toNat.add j.1) ∧ ar.iapp (ar.isub (colP x.2.l.flatten x.1
 (x.1.dirs.toNat.add i.1)) 0 (nLive x.2.l.flatten x.1 (x.1.dirs.toNat.add i.1))) [rdP x_4.1] = colP x.2.l.flatten x.1 (x.1.dirs.toNat.add j.1) ∧ ar.tapp (ar.tsub (colS x.2.l.flatten x.1 (x.1.dirs.toNat.add i.1)) 0 (nLive x.2.l.flatten x.1
 (x.1.dirs.toNat.add i.1))) [rdS x_4.1] = colS x.2.l.flatten x.1 (x.1.dirs.toNat.add j.1) ∧ ar.iapp (ar.isub (colZ x.2.l.flatten x.1 (x.1.dirs.toNat.add i.1)) 0 (nLive x.2.l.flatten x.1 (x.1.dirs.toNat.add i.1))) [rdZ x_4.1 x_4.2.1] = colZ
 x.2.l.flatten x.1 (x.1.dirs.toNat.add j.1) ∧ True) ∧ (¬¬ar.eq (rdK x_4.1 x_4.2.1) 0 → ∀ z : Int, z = ar.wrap .i64 (ar.add (↑i.1 : Int) 1) → ∃ j : Nat × Int × Int, Dp2 x j ∧ (x.1.files.toNat.sub j.1).lt (x.1.files.toNat.sub i.1) ∧ x.1.slots
 = x.1.slots ∧ x.1.files = x.1.files ∧ x.1.dirs = x.1.dirs ∧ x.1.most = x.1.most ∧ x.1.least = x.1.least ∧ x.1.page = x.1.page ∧ x.2.l = x.2.l ∧ x.2.len = x.2.len ∧ x.2.cap = x.2.cap ∧ chk x_1 = chk x_1 ∧ x.1.files = x.1.files ∧ z = (↑j.1 :
 Int) ∧ x.1.slots = x.1.slots ∧ x.1.files = x.1.files ∧ x.1.dirs = x.1.dirs ∧ x.1.most = x.1.most ∧ x.1.least = x.1.least ∧ x.1.page = x.1.page ∧ x_3.2 = x_3.2 ∧ (Nat.add 0 ((x_4.1.k.add (rsz x_4.2.1)).toNat.mul 1)).add 0 = (Nat.add 0
 (((Int.mul 36 x.1.dirs).add (Int.mul 40 (↑j.1 : Int))).toNat.mul 1)).add 0 ∧ (↑x_4.1.l.length : Int).sub (x_4.1.k.add (rsz x_4.2.1)) = (↑x.2.l.flatten.length : Int).sub ((Int.mul 36 x.1.dirs).add (Int.mul 40 (↑j.1 : Int))) ∧ x_4.1.cap.sub
 (x_4.1.k.add (rsz x_4.2.1)) = j.2.2.sub ((Int.mul 36 x.1.dirs).add (Int.mul 40 (↑j.1 : Int))) ∧ (x_4.1.bad ∨ BadRow x_4.1 x_4.2.1 ↔ BadTo x.2.l.flatten x.1 (x.1.dirs.toNat.add j.1)) ∧ x_4.1.cap = j.2.2 ∧ ints x_4.1.l = ints x.2.l.flatten ∧
 x.1.files = x.1.files ∧ x.1.dirs = x.1.dirs ∧ nLive x.2.l.flatten x.1 (x.1.dirs.toNat.add i.1) = nLive x.2.l.flatten x.1 (x.1.dirs.toNat.add j.1) ∧ i.2.1 = j.2.1 ∧ i.2.1 = j.2.1 ∧ colK x.2.l.flatten x.1 (x.1.dirs.toNat.add i.1) = colK
 x.2.l.flatten x.1 (x.1.dirs.toNat.add j.1) ∧ colN x.2.l.flatten x.1 (x.1.dirs.toNat.add i.1) = colN x.2.l.flatten x.1 (x.1.dirs.toNat.add j.1) ∧ colP x.2.l.flatten x.1 (x.1.dirs.toNat.add i.1) = colP x.2.l.flatten x.1 (x.1.dirs.toNat.add
 j.1) ∧ colS x.2.l.flatten x.1 (x.1.dirs.toNat.add i.1) = colS x.2.l.flatten x.1 (x.1.dirs.toNat.add j.1) ∧ colZ x.2.l.flatten x.1 (x.1.dirs.toNat.add i.1) = colZ x.2.l.flatten x.1 (x.1.dirs.toNat.add j.1) ∧ True)) ∧ (¬ar.lt (↑i.1 : Int)
 x.1.files → ∀ z : Int, z = ar.wrap .i64 (ar.add x.1.files x.1.slots) → (∃ i_1 : Nat × Int × Int × Int, Dp3 x i_1 ∧ x.1.slots = x.1.slots ∧ x.1.files = x.1.files ∧ x.1.dirs = x.1.dirs ∧ x.1.most = x.1.most ∧ x.1.least = x.1.least ∧ x.1.page
 = x.1.page ∧ x.2.l = x.2.l ∧ x.2.len = x.2.len ∧ x.2.cap = x.2.cap ∧ chk x_1 = chk x_1 ∧ z = z ∧ 0 = (↑i_1.1 : Int) ∧ x.1.slots = x.1.slots ∧ x.1.files = x.1.files ∧ x.1.dirs = x.1.dirs ∧ x.1.most = x.1.most ∧ x.1.least = x.1.least ∧
 x.1.page = x.1.page ∧ x_3.2 = x_3.2 ∧ (Nat.add 0 (((Int.mul 36 x.1.dirs).add (Int.mul 40 (↑i.1 : Int))).toNat.mul 1)).add 0 = (Nat.add 0 (((offO x.1).add (Int.mul 40 (↑i_1.1 : Int))).toNat.mul 1)).add 0 ∧ (↑x.2.l.flatten.length : Int).sub
 ((Int.mul 36 x.1.dirs).add (Int.mul 40 (↑i.1 : Int))) = (↑x.2.l.flatten.length : Int).sub ((offO x.1).add (Int.mul 40 (↑i_1.1 : Int))) ∧ i.2.2.sub ((Int.mul 36 x.1.dirs).add (Int.mul 40 (↑i.1 : Int))) = i_1.2.2.1.sub ((offO x.1).add
 (Int.mul 40 (↑i_1.1 : Int))) ∧ (BadTo x.2.l.flatten x.1 (x.1.dirs.toNat.add i.1) ↔ BadTo x.2.l.flatten x.1 (nRows x.1)) ∧ i.2.2 = i_1.2.2.1 ∧ ints x.2.l.flatten = ints x.2.l.flatten ∧ x.1.files = x.1.files ∧ x.1.dirs = x.1.dirs ∧ nLive
 x.2.l.flatten x.1 (x.1.dirs.toNat.add i.1) = nLive x.2.l.flatten x.1 (nRows x.1) ∧ i.2.1 = i_1.2.1 ∧ i.2.1 = i_1.2.1 ∧ colK x.2.l.flatten x.1 (x.1.dirs.toNat.add i.1) = colK x.2.l.flatten x.1 (nRows x.1) ∧ colN x.2.l.flatten x.1
 (x.1.dirs.toNat.add i.1) = colN x.2.l.flatten x.1 (nRows x.1) ∧ colP x.2.l.flatten x.1 (x.1.dirs.toNat.add i.1) = colP x.2.l.flatten x.1 (nRows x.1) ∧ colS x.2.l.flatten x.1 (x.1.dirs.toNat.add i.1) = colS x.2.l.flatten x.1 (nRows x.1) ∧
 colZ x.2.l.flatten x.1 (x.1.dirs.toNat.add i.1) = colZ x.2.l.flatten x.1 (nRows x.1) ∧ 0 = (↑i_1.1 : Int) ∧ 0 = i_1.2.2.2 ∧ i_1.2.2.2 = 0 ∧ oN x.2.l.flatten x.1 i_1.1 = [] ∧ oT x.2.l.flatten x.1 i_1.1 = [] ∧ oB x.2.l.flatten x.1 i_1.1 = []
 ∧ oO x.2.l.flatten x.1 i_1.1 = [] ∧ True) ∧ ∀ i : Nat × Int × Int × Int, Dp3 x i → (ar.lt (↑i.1 : Int) z → (∃ x_4 : RImg × Int, 16 = x_4.2 ∧ (Nat.add 0 (((offO x.1).add (Int.mul 40 (↑i.1 : Int))).toNat.mul 1)).add 0 = (Nat.add 0
 ((x_4.1.k.add 0).toNat.mul 1)).add 0 ∧ (↑x.2.l.flatten.length : Int).sub ((offO x.1).add (Int.mul 40 (↑i.1 : Int))) = (↑x_4.1.l.length : Int).sub (x_4.1.k.add 0) ∧ i.2.2.1.sub ((offO x.1).add (Int.mul 40 (↑i.1 : Int))) = x_4.1.cap.sub
 (x_4.1.k.add 0) ∧ (BadTo x.2.l.flatten x.1 (nRows x.1) ↔ x_4.1.3) ∧ i.2.2.1 = x_4.1.cap ∧ ints x.2.l.flatten = ints x_4.1.l ∧ RImgOK x_4.1 x_4.2 ∧ ∀ y : Unit, True → (ar.le 0 x_4.1.k ∧ ar.le (ar.add x_4.1.k x_4.2) (ar.ilen (ints x_4.1.l))
 ∧ ∀ t : List UInt8, t = ar.bytes (ar.isub (ints x_4.1.l) x_4.1.k x_4.2) → ∃ x_5 : RImg × Int, 16 = x_5.2 ∧ (Nat.add 0 ((x_4.1.k.add x_4.2).toNat.mul 1)).add 0 = (Nat.add 0 ((x_5.1.k.add 0).toNat.mul 1)).add 0 ∧ (↑x_4.1.l.length : Int).sub
 (x_4.1.k.add x_4.2) = (↑x_5.1.l.length : Int).sub (x_5.1.k.add 0) ∧ x_4.1.cap.sub (x_4.1.k.add x_4.2) = x_5.1.cap.sub (x_5.1.k.add 0) ∧ (x_4.1.3 ↔ x_5.1.3) ∧ x_4.1.cap = x_5.1.cap ∧ ints x_4.1.l = ints x_5.1.l ∧ RImgOK x_5.1 x_5.2 ∧ ∀ y :
 Unit, True → (ar.le 0 x_5.1.k ∧ ar.le (ar.add x_5.1.k x_5.2) (ar.ilen (ints x_5.1.l)) ∧ ∀ t_1 : List UInt8, t_1 = ar.bytes (ar.isub (ints x_5.1.l) x_5.1.k x_5.2) → ∃ x_6 : RImg × Int, 4 = x_6.2 ∧ (Nat.add 0 ((x_5.1.k.add x_5.2).toNat.mul
 1)).add 0 = (Nat.add 0 ((x_6.1.k.add 0).toNat.mul 1)).add 0 ∧ (↑x_5.1.l.length : Int).sub (x_5.1.k.add x_5.2) = (↑x_6.1.l.length : Int).sub (x_6.1.k.add 0) ∧ x_5.1.cap.sub (x_5.1.k.add x_5.2) = x_6.1.cap.sub (x_6.1.k.add 0) ∧ (x_5.1.3 ↔
 x_6.1.3) ∧ x_5.1.cap = x_6.1.cap ∧ ints x_5.1.l = ints x_6.1.l ∧ NumIn x_6 ∧ ∀ y : Unit, True → ∃ i_1 : Unit, Yes i_1 ∧ x.1.slots = x.1.slots ∧ x.1.files = x.1.files ∧ x.1.dirs = x.1.dirs ∧ x.1.most = x.1.most ∧ x.1.least = x.1.least ∧
 x.1.page = x.1.page ∧ x.2.l = x.2.l ∧ x.2.len = x.2.len ∧ x.2.cap = x.2.cap ∧ chk x_1 = chk x_1 ∧ z = z ∧ (↑i.1 : Int) = (↑i.1 : Int) ∧ x.1.slots = x.1.slots ∧ x.1.files = x.1.files ∧ x.1.dirs = x.1.dirs ∧ x.1.most = x.1.most ∧ x.1.least =
 x.1.least ∧ x.1.page = x.1.page ∧ x_3.2 = x_3.2 ∧ (Nat.add 0 ((x_6.1.k.add x_6.2).toNat.mul 1)).add 0 = (Nat.add 0 ((((offO x.1).add (Int.mul 40 (↑i.1 : Int))).add 36).toNat.mul 1)).add 0 ∧ (↑x_6.1.l.length : Int).sub (x_6.1.k.add x_6.2) =
 (↑x.2.l.flatten.length : Int).sub (((offO x.1).add (Int.mul 40 (↑i.1 : Int))).add 36) ∧ x_6.1.cap.sub (x_6.1.k.add x_6.2) = i.2.2.1.sub (((offO x.1).add (Int.mul 40 (↑i.1 : Int))).add 36) ∧ (x_6.1.3 ↔ BadTo x.2.l.flatten x.1 (nRows x.1)) ∧
 x_6.1.cap = i.2.2.1 ∧ ints x_6.1.l = ints x.2.l.flatten ∧ x.1.files = x.1.files ∧ x.1.dirs = x.1.dirs ∧ nLive x.2.l.flatten x.1 (nRows x.1) = nLive x.2.l.flatten x.1 (nRows x.1) ∧ i.2.1 = i.2.1 ∧ i.2.1 = i.2.1 ∧ colK x.2.l.flatten x.1
 (nRows x.1) = colK x.2.l.flatten x.1 (nRows x.1) ∧ colN x.2.l.flatten x.1 (nRows x.1) = colN x.2.l.flatten x.1 (nRows x.1) ∧ colP x.2.l.flatten x.1 (nRows x.1) = colP x.2.l.flatten x.1 (nRows x.1) ∧ colS x.2.l.flatten x.1 (nRows x.1) =
 colS x.2.l.flatten x.1 (nRows x.1) ∧ colZ x.2.l.flatten x.1 (nRows x.1) = colZ x.2.l.flatten x.1 (nRows x.1) ∧ (↑i.1 : Int) = (↑i.1 : Int) ∧ i.2.2.2 = i.2.2.2 ∧ i.2.2.2 = i.2.2.2 ∧ oN x.2.l.flatten x.1 i.1 = oN x.2.l.flatten x.1 i.1 ∧ oT
 x.2.l.flatten x.1 i.1 = oT x.2.l.flatten x.1 i.1 ∧ oB x.2.l.flatten x.1 i.1 = oB x.2.l.flatten x.1 i.1 ∧ oO x.2.l.flatten x.1 i.1 = oO x.2.l.flatten x.1 i.1 ∧ t = dropk x.2.l.flatten ((offO x.1).add (Int.mul 40 (↑i.1 : Int))) 16 ∧ t_1 =
 dropk x.2.l.flatten (((offO x.1).add (Int.mul 40 (↑i.1 : Int))).add 16) 16 ∧ numB (dropk x_6.1.l x_6.1.k x_6.2) = numB (dropk x.2.l.flatten (((offO x.1).add (Int.mul 40 (↑i.1 : Int))).add 32) 4) ∧ True) ∧ ∃ x_6 : RImg × Int, 4 = x_6.2 ∧
 (Nat.add 0 ((x_5.1.k.add x_5.2).toNat.mul 1)).add 0 = (Nat.add 0 ((x_6.1.k.add 0).toNat.mul 1)).add 0 ∧ (↑x_5.1.l.length : Int).sub (x_5.1.k.add x_5.2) = (↑x_6.1.l.length : Int).sub (x_6.1.k.add 0) ∧ x_5.1.cap.sub (x_5.1.k.add x_5.2) =
 x_6.1.cap.sub (x_6.1.k.add 0) ∧ (x_5.1.3 ↔ x_6.1.3) ∧ x_5.1.cap = x_6.1.cap ∧ ints x_5.1.l = ints x_6.1.l ∧ NumIn x_6 ∧ ∀ y : Unit, True → ar.le 0 x_5.1.k ∧ ar.le (ar.add x_5.1.k x_5.2) (ar.ilen (ints x_6.1.l)) ∧ ∀ t_1 : List UInt8, t_1 =
 ar.bytes (ar.isub (ints x_6.1.l) x_5.1.k x_5.2) → ∃ i_1 : Unit, Yes i_1 ∧ x.1.slots = x.1.slots ∧ x.1.files = x.1.files ∧ x.1.dirs = x.1.dirs ∧ x.1.most = x.1.most ∧ x.1.least = x.1.least ∧ x.1.page = x.1.page ∧ x.2.l = x.2.l ∧ x.2.len =
 x.2.len ∧ x.2.cap = x.2.cap ∧ chk x_1 = chk x_1 ∧ z = z ∧ (↑i.1 : Int) = (↑i.1 : Int) ∧ x.1.slots = x.1.slots ∧ x.1.files = x.1.files ∧ x.1.dirs = x.1.dirs ∧ x.1.most = x.1.most ∧ x.1.least = x.1.least ∧ x.1.page = x.1.page ∧ x_3.2 = x_3.2
 ∧ (Nat.add 0 ((x_6.1.k.add x_6.2).toNat.mul 1)).add 0 = (Nat.add 0 ((((offO x.1).add (Int.mul 40 (↑i.1 : Int))).add 36).toNat.mul 1)).add 0 ∧ (↑x_6.1.l.length : Int).sub (x_6.1.k.add x_6.2) = (↑x.2.l.flatten.length : Int).sub (((offO
 x.1).add (Int.mul 40 (↑i.1 : Int))).add 36) ∧ x_6.1.cap.sub (x_6.1.k.add x_6.2) = i.2.2.1.sub (((offO x.1).add (Int.mul 40 (↑i.1 : Int))).add 36) ∧ (x_6.1.3 ↔ BadTo x.2.l.flatten x.1 (nRows x.1)) ∧ x_6.1.cap = i.2.2.1 ∧ ints x_6.1.l = ints
 x.2.l.flatten ∧ x.1.files = x.1.files ∧ x.1.dirs = x.1.dirs ∧ nLive x.2.l.flatten x.1 (nRows x.1) = nLive x.2.l.flatten x.1 (nRows x.1) ∧ i.2.1 = i.2.1 ∧ i.2.1 = i.2.1 ∧ colK x.2.l.flatten x.1 (nRows x.1) = colK x.2.l.flatten x.1 (nRows
 x.1) ∧ colN x.2.l.flatten x.1 (nRows x.1) = colN x.2.l.flatten x.1 (nRows x.1) ∧ colP x.2.l.flatten x.1 (nRows x.1) = colP x.2.l.flatten x.1 (nRows x.1) ∧ colS x.2.l.flatten x.1 (nRows x.1) = colS x.2.l.flatten x.1 (nRows x.1) ∧ colZ
 x.2.l.flatten x.1 (nRows x.1) = colZ x.2.l.flatten x.1 (nRows x.1) ∧ (↑i.1 : Int) = (↑i.1 : Int) ∧ i.2.2.2 = i.2.2.2 ∧ i.2.2.2 = i.2.2.2 ∧ oN x.2.l.flatten x.1 i.1 = oN x.2.l.flatten x.1 i.1 ∧ oT x.2.l.flatten x.1 i.1 = oT x.2.l.flatten
 x.1 i.1 ∧ oB x.2.l.flatten x.1 i.1 = oB x.2.l.flatten x.1 i.1 ∧ oO x.2.l.flatten x.1 i.1 = oO x.2.l.flatten x.1 i.1 ∧ t = dropk x.2.l.flatten ((offO x.1).add (Int.mul 40 (↑i.1 : Int))) 16 ∧ t_1 = dropk x.2.l.flatten (((offO x.1).add
 (Int.mul 40 (↑i.1 : Int))).add 16) 16 ∧ numB (dropk x_6.1.l x_6.1.k x_6.2) = numB (dropk x.2.l.flatten (((offO x.1).add (Int.mul 40 (↑i.1 : Int))).add 32) 4) ∧ True) ∧ ∃ x_5 : RImg × Int, 16 = x_5.2 ∧ (Nat.add 0 ((x_4.1.k.add
 x_4.2).toNat.mul 1)).add 0 = (Nat.add 0 ((x_5.1.k.add 0).toNat.mul 1)).add 0 ∧ (↑x_4.1.l.length : Int).sub (x_4.1.k.add x_4.2) = (↑x_5.1.l.length : Int).sub (x_5.1.k.add 0) ∧ x_4.1.cap.sub (x_4.1.k.add x_4.2) = x_5.1.cap.sub (x_5.1.k.add
 0) ∧ (x_4.1.3 ↔ x_5.1.3) ∧ x_4.1.cap = x_5.1.cap ∧ ints x_4.1.l = ints x_5.1.l ∧ RImgOK x_5.1 x_5.2 ∧ ∀ y : Unit, True → (ar.le 0 x_4.1.k ∧ ar.le (ar.add x_4.1.k x_4.2) (ar.ilen (ints x_5.1.l)) ∧ ∀ t : List UInt8, t = ar.bytes (ar.isub
 (ints x_5.1.l) x_4.1.k x_4.2) → (ar.le 0 x_5.1.k ∧ ar.le (ar.add x_5.1.k x_5.2) (ar.ilen (ints x_5.1.l)) ∧ ∀ t_1 : List UInt8, t_1 = ar.bytes (ar.isub (ints x_5.1.l) x_5.1.k x_5.2) → ∃ x_6 : RImg × Int, 4 = x_6.2 ∧ (Nat.add 0 ((x_5.1.k.add
 x_5.2).toNat.mul 1)).add 0 = (Nat.add 0 ((x_6.1.k.add 0).toNat.mul 1)).add 0 ∧ (↑x_5.1.l.length : Int).sub (x_5.1.k.add x_5.2) = (↑x_6.1.l.length : Int).sub (x_6.1.k.add 0) ∧ x_5.1.cap.sub (x_5.1.k.add x_5.2) = x_6.1.cap.sub (x_6.1.k.add
 0) ∧ (x_5.1.3 ↔ x_6.1.3) ∧ x_5.1.cap = x_6.1.cap ∧ ints x_5.1.l = ints x_6.1.l ∧ NumIn x_6 ∧ ∀ y : Unit, True → ∃ i_1 : Unit, Yes i_1 ∧ x.1.slots = x.1.slots ∧ x.1.files = x.1.files ∧ x.1.dirs = x.1.dirs ∧ x.1.most = x.1.most ∧ x.1.least =
 x.1.least ∧ x.1.page = x.1.page ∧ x.2.l = x.2.l ∧ x.2.len = x.2.len ∧ x.2.cap = x.2.cap ∧ chk x_1 = chk x_1 ∧ z = z ∧ (↑i.1 : Int) = (↑i.1 : Int) ∧ x.1.slots = x.1.slots ∧ x.1.files = x.1.files ∧ x.1.dirs = x.1.dirs ∧ x.1.most = x.1.most ∧
 x.1.least = x.1.least ∧ x.1.page = x.1.page ∧ x_3.2 = x_3.2 ∧ (Nat.add 0 ((x_6.1.k.add x_6.2).toNat.mul 1)).add 0 = (Nat.add 0 ((((offO x.1).add (Int.mul 40 (↑i.1 : Int))).add 36).toNat.mul 1)).add 0 ∧ (↑x_6.1.l.length : Int).sub
 (x_6.1.k.add x_6.2) = (↑x.2.l.flatten.length : Int).sub (((offO x.1).add (Int.mul 40 (↑i.1 : Int))).add 36) ∧ x_6.1.cap.sub (x_6.1.k.add x_6.2) = i.2.2.1.sub (((offO x.1).add (Int.mul 40 (↑i.1 : Int))).add 36) ∧ (x_6.1.3 ↔ BadTo
 x.2.l.flatten x.1 (nRows x.1)) ∧ x_6.1.cap = i.2.2.1 ∧ ints x_6.1.l = ints x.2.l.flatten ∧ x.1.files = x.1.files ∧ x.1.dirs = x.1.dirs ∧ nLive x.2.l.flatten x.1 (nRows x.1) = nLive x.2.l.flatten x.1 (nRows x.1) ∧ i.2.1 = i.2.1 ∧ i.2.1 =
 i.2.1 ∧ colK x.2.l.flatten x.1 (nRows x.1) = colK x.2.l.flatten x.1 (nRows x.1) ∧ colN x.2.l.flatten x.1 (nRows x.1) = colN x.2.l.flatten x.1 (nRows x.1) ∧ colP x.2.l.flatten x.1 (nRows x.1) = colP x.2.l.flatten x.1 (nRows x.1) ∧ colS
 x.2.l.flatten x.1 (nRows x.1) = colS x.2.l.flatten x.1 (nRows x.1) ∧ colZ x.2.l.flatten x.1 (nRows x.1) = colZ x.2.l.flatten x.1 (nRows x.1) ∧ (↑i.1 : Int) = (↑i.1 : Int) ∧ i.2.2.2 = i.2.2.2 ∧ i.2.2.2 = i.2.2.2 ∧ oN x.2.l.flatten x.1 i.1 =
 oN x.2.l.flatten x.1 i.1 ∧ oT x.2.l.flatten x.1 i.1 = oT x.2.l.flatten x.1 i.1 ∧ oB x.2.l.flatten x.1 i.1 = oB x.2.l.flatten x.1 i.1 ∧ oO x.2.l.flatten x.1 i.1 = oO x.2.l.flatten x.1 i.1 ∧ t = dropk x.2.l.flatten ((offO x.1).add (Int.mul
 40 (↑i.1 : Int))) 16 ∧ t_1 = dropk x.2.l.flatten (((offO x.1).add (Int.mul 40 (↑i.1 : Int))).add 16) 16 ∧ numB (dropk x_6.1.l x_6.1.k x_6.2) = numB (dropk x.2.l.flatten (((offO x.1).add (Int.mul 40 (↑i.1 : Int))).add 32) 4) ∧ True) ∧ ∃ x_6
 : RImg × Int, 4 = x_6.2 ∧ (Nat.add 0 ((x_5.1.k.add x_5.2).toNat.mul 1)).add 0 = (Nat.add 0 ((x_6.1.k.add 0).toNat.mul 1)).add 0 ∧ (↑x_5.1.l.length : Int).sub (x_5.1.k.add x_5.2) = (↑x_6.1.l.length : Int).sub (x_6.1.k.add 0) ∧ x_5.1.cap.sub
 (x_5.1.k.add x_5.2) = x_6.1.cap.sub (x_6.1.k.add 0) ∧ (x_5.1.3 ↔ x_6.1.3) ∧ x_5.1.cap = x_6.1.cap ∧ ints x_5.1.l = ints x_6.1.l ∧ NumIn x_6 ∧ ∀ y : Unit, True → ar.le 0 x_5.1.k ∧ ar.le (ar.add x_5.1.k x_5.2) (ar.ilen (ints x_6.1.l)) ∧ ∀
 t_1 : List UInt8, t_1 = ar.bytes (ar.isub (ints x_6.1.l) x_5.1.k x_5.2) → ∃ i_1 : Unit, Yes i_1 ∧ x.1.slots = x.1.slots ∧ x.1.files = x.1.files ∧ x.1.dirs = x.1.dirs ∧ x.1.most = x.1.most ∧ x.1.least = x.1.least ∧ x.1.page = x.1.page ∧
 x.2.l = x.2.l ∧ x.2.len = x.2.len ∧ x.2.cap = x.2.cap ∧ chk x_1 = chk x_1 ∧ z = z ∧ (↑i.1 : Int) = (↑i.1 : Int) ∧ x.1.slots = x.1.slots ∧ x.1.files = x.1.files ∧ x.1.dirs = x.1.dirs ∧ x.1.most = x.1.most ∧ x.1.least = x.1.least ∧ x.1.page
 = x.1.page ∧ x_3.2 = x_3.2 ∧ (Nat.add 0 ((x_6.1.k.add x_6.2).toNat.mul 1)).add 0 = (Nat.add 0 ((((offO x.1).add (Int.mul 40 (↑i.1 : Int))).add 36).toNat.mul 1)).add 0 ∧ (↑x_6.1.l.length : Int).sub (x_6.1.k.add x_6.2) =
 (↑x.2.l.flatten.length : Int).sub (((offO x.1).add (Int.mul 40 (↑i.1 : Int))).add 36) ∧ x_6.1.cap.sub (x_6.1.k.add x_6.2) = i.2.2.1.sub (((offO x.1).add (Int.mul 40 (↑i.1 : Int))).add 36) ∧ (x_6.1.3 ↔ BadTo x.2.l.flatten x.1 (nRows x.1)) ∧
 x_6.1.cap = i.2.2.1 ∧ ints x_6.1.l = ints x.2.l.flatten ∧ x.1.files = x.1.files ∧ x.1.dirs = x.1.dirs ∧ nLive x.2.l.flatten x.1 (nRows x.1) = nLive x.2.l.flatten x.1 (nRows x.1) ∧ i.2.1 = i.2.1 ∧ i.2.1 = i.2.1 ∧ colK x.2.l.flatten x.1
 (nRows x.1) = colK x.2.l.flatten x.1 (nRows x.1) ∧ colN x.2.l.flatten x.1 (nRows x.1) = colN x.2.l.flatten x.1 (nRows x.1) ∧ colP x.2.l.flatten x.1 (nRows x.1) = colP x.2.l.flatten x.1 (nRows x.1) ∧ colS x.2.l.flatten x.1 (nRows x.1) =
 colS x.2.l.flatten x.1 (nRows x.1) ∧ colZ x.2.l.flatten x.1 (nRows x.1) = colZ x.2.l.flatten x.1 (nRows x.1) ∧ (↑i.1 : Int) = (↑i.1 : Int) ∧ i.2.2.2 = i.2.2.2 ∧ i.2.2.2 = i.2.2.2 ∧ oN x.2.l.flatten x.1 i.1 = oN x.2.l.flatten x.1 i.1 ∧ oT
 x.2.l.flatten x.1 i.1 = oT x.2.l.flatten x.1 i.1 ∧ oB x.2.l.flatten x.1 i.1 = oB x.2.l.flatten x.1 i.1 ∧ oO x.2.l.flatten x.1 i.1 = oO x.2.l.flatten x.1 i.1 ∧ t = dropk x.2.l.flatten ((offO x.1).add (Int.mul 40 (↑i.1 : Int))) 16 ∧ t_1 =
 dropk x.2.l.flatten (((offO x.1).add (Int.mul 40 (↑i.1 : Int))).add 16) 16 ∧ numB (dropk x_6.1.l x_6.1.k x_6.2) = numB (dropk x.2.l.flatten (((offO x.1).add (Int.mul 40 (↑i.1 : Int))).add 32) 4) ∧ True) ∧ (ar.le 0 x_5.1.k ∧ ar.le (ar.add
 x_5.1.k x_5.2) (ar.ilen (ints x_5.1.l)) ∧ ∀ t : List UInt8, t = ar.bytes (ar.isub (ints x_5.1.l) x_5.1.k x_5.2) → (ar.le 0 x_4.1.k ∧ ar.le (ar.add x_4.1.k x_4.2) (ar.ilen (ints x_5.1.l)) ∧ ∀ t_1 : List UInt8, t_1 = ar.bytes (ar.isub (ints
 x_5.1.l) x_4.1.k x_4.2) → ∃ x_6 : RImg × Int, 4 = x_6.2 ∧ (Nat.add 0 ((x_5.1.k.add x_5.2).toNat.mul 1)).add 0 = (Nat.add 0 ((x_6.1.k.add 0).toNat.mul 1)).add 0 ∧ (↑x_5.1.l.length : Int).sub (x_5.1.k.add x_5.2) = (↑x_6.1.l.length : Int).sub
 (x_6.1.k.add 0) ∧ x_5.1.cap.sub (x_5.1.k.add x_5.2) = x_6.1.cap.sub (x_6.1.k.add 0) ∧ (x_5.1.3 ↔ x_6.1.3) ∧ x_5.1.cap = x_6.1.cap ∧ ints x_5.1.l = ints x_6.1.l ∧ NumIn x_6 ∧ ∀ y : Unit, True → ∃ i_1 : Unit, Yes i_1 ∧ x.1.slots = x.1.slots
 ∧ x.1.files = x.1.files ∧ x.1.dirs = x.1.dirs ∧ x.1.most = x.1.most ∧ x.1.least = x.1.least ∧ x.1.page = x.1.page ∧ x.2.l = x.2.l ∧ x.2.len = x.2.len ∧ x.2.cap = x.2.cap ∧ chk x_1 = chk x_1 ∧ z = z ∧ (↑i.1 : Int) = (↑i.1 : Int) ∧ x.1.slots
 = x.1.slots ∧ x.1.files = x.1.files ∧ x.1.dirs = x.1.dirs ∧ x.1.most = x.1.most ∧ x.1.least = x.1.least ∧ x.1.page = x.1.page ∧ x_3.2 = x_3.2 ∧ (Nat.add 0 ((x_6.1.k.add x_6.2).toNat.mul 1)).add 0 = (Nat.add 0 ((((offO x.1).add (Int.mul 40
 (↑i.1 : Int))).add 36).toNat.mul 1)).add 0 ∧ (↑x_6.1.l.length : Int).sub (x_6.1.k.add x_6.2) = (↑x.2.l.flatten.length : Int).sub (((offO x.1).add (Int.mul 40 (↑i.1 : Int))).add 36) ∧ x_6.1.cap.sub (x_6.1.k.add x_6.2) = i.2.2.1.sub (((offO
 x.1).add (Int.mul 40 (↑i.1 : Int))).add 36) ∧ (x_6.1.3 ↔ BadTo x.2.l.flatten x.1 (nRows x.1)) ∧ x_6.1.cap = i.2.2.1 ∧ ints x_6.1.l = ints x.2.l.flatten ∧ x.1.files = x.1.files ∧ x.1.dirs = x.1.dirs ∧ nLive x.2.l.flatten x.1 (nRows x.1) =
 nLive x.2.l.flatten x.1 (nRows x.1) ∧ i.2.1 = i.2.1 ∧ i.2.1 = i.2.1 ∧ colK x.2.l.flatten x.1 (nRows x.1) = colK x.2.l.flatten x.1 (nRows x.1) ∧ colN x.2.l.flatten x.1 (nRows x.1) = colN x.2.l.flatten x.1 (nRows x.1) ∧ colP x.2.l.flatten
 x.1 (nRows x.1) = colP x.2.l.flatten x.1 (nRows x.1) ∧ colS x.2.l.flatten x.1 (nRows x.1) = colS x.2.l.flatten x.1 (nRows x.1) ∧ colZ x.2.l.flatten x.1 (nRows x.1) = colZ x.2.l.flatten x.1 (nRows x.1) ∧ (↑i.1 : Int) = (↑i.1 : Int) ∧
 i.2.2.2 = i.2.2.2 ∧ i.2.2.2 = i.2.2.2 ∧ oN x.2.l.flatten x.1 i.1 = oN x.2.l.flatten x.1 i.1 ∧ oT x.2.l.flatten x.1 i.1 = oT x.2.l.flatten x.1 i.1 ∧ oB x.2.l.flatten x.1 i.1 = oB x.2.l.flatten x.1 i.1 ∧ oO x.2.l.flatten x.1 i.1 = oO
 x.2.l.flatten x.1 i.1 ∧ t_1 = dropk x.2.l.flatten ((offO x.1).add (Int.mul 40 (↑i.1 : Int))) 16 ∧ t = dropk x.2.l.flatten (((offO x.1).add (Int.mul 40 (↑i.1 : Int))).add 16) 16 ∧ numB (dropk x_6.1.l x_6.1.k x_6.2) = numB (dropk
 x.2.l.flatten (((offO x.1).add (Int.mul 40 (↑i.1 : Int))).add 32) 4) ∧ True) ∧ ∃ x_6 : RImg × Int, 4 = x_6.2 ∧ (Nat.add 0 ((x_5.1.k.add x_5.2).toNat.mul 1)).add 0 = (Nat.add 0 ((x_6.1.k.add 0).toNat.mul 1)).add 0 ∧ (↑x_5.1.l.length :
 Int).sub (x_5.1.k.add x_5.2) = (↑x_6.1.l.length : Int).sub (x_6.1.k.add 0) ∧ x_5.1.cap.sub (x_5.1.k.add x_5.2) = x_6.1.cap.sub (x_6.1.k.add 0) ∧ (x_5.1.3 ↔ x_6.1.3) ∧ x_5.1.cap = x_6.1.cap ∧ ints x_5.1.l = ints x_6.1.l ∧ NumIn x_6 ∧ ∀ y :
 Unit, True → ar.le 0 x_4.1.k ∧ ar.le (ar.add x_4.1.k x_4.2) (ar.ilen (ints x_6.1.l)) ∧ ∀ t_1 : List UInt8, t_1 = ar.bytes (ar.isub (ints x_6.1.l) x_4.1.k x_4.2) → ∃ i_1 : Unit, Yes i_1 ∧ x.1.slots = x.1.slots ∧ x.1.files = x.1.files ∧
 x.1.dirs = x.1.dirs ∧ x.1.most = x.1.most ∧ x.1.least = x.1.least ∧ x.1.page = x.1.page ∧ x.2.l = x.2.l ∧ x.2.len = x.2.len ∧ x.2.cap = x.2.cap ∧ chk x_1 = chk x_1 ∧ z = z ∧ (↑i.1 : Int) = (↑i.1 : Int) ∧ x.1.slots = x.1.slots ∧ x.1.files =
 x.1.files ∧ x.1.dirs = x.1.dirs ∧ x.1.most = x.1.most ∧ x.1.least = x.1.least ∧ x.1.page = x.1.page ∧ x_3.2 = x_3.2 ∧ (Nat.add 0 ((x_6.1.k.add x_6.2).toNat.mul 1)).add 0 = (Nat.add 0 ((((offO x.1).add (Int.mul 40 (↑i.1 : Int))).add
 36).toNat.mul 1)).add 0 ∧ (↑x_6.1.l.length : Int).sub (x_6.1.k.add x_6.2) = (↑x.2.l.flatten.length : Int).sub (((offO x.1).add (Int.mul 40 (↑i.1 : Int))).add 36) ∧ x_6.1.cap.sub (x_6.1.k.add x_6.2) = i.2.2.1.sub (((offO x.1).add (Int.mul
 40 (↑i.1 : Int))).add 36) ∧ (x_6.1.3 ↔ BadTo x.2.l.flatten x.1 (nRows x.1)) ∧ x_6.1.cap = i.2.2.1 ∧ ints x_6.1.l = ints x.2.l.flatten ∧ x.1.files = x.1.files ∧ x.1.dirs = x.1.dirs ∧ nLive x.2.l.flatten x.1 (nRows x.1) = nLive x.2.l.flatten
 x.1 (nRows x.1) ∧ i.2.1 = i.2.1 ∧ i.2.1 = i.2.1 ∧ colK x.2.l.flatten x.1 (nRows x.1) = colK x.2.l.flatten x.1 (nRows x.1) ∧ colN x.2.l.flatten x.1 (nRows x.1) = colN x.2.l.flatten x.1 (nRows x.1) ∧ colP x.2.l.flatten x.1 (nRows x.1) = colP
 x.2.l.flatten x.1 (nRows x.1) ∧ colS x.2.l.flatten x.1 (nRows x.1) = colS x.2.l.flatten x.1 (nRows x.1) ∧ colZ x.2.l.flatten x.1 (nRows x.1) = colZ x.2.l.flatten x.1 (nRows x.1) ∧ (↑i.1 : Int) = (↑i.1 : Int) ∧ i.2.2.2 = i.2.2.2 ∧ i.2.2.2 =
 i.2.2.2 ∧ oN x.2.l.flatten x.1 i.1 = oN x.2.l.flatten x.1 i.1 ∧ oT x.2.l.flatten x.1 i.1 = oT x.2.l.flatten x.1 i.1 ∧ oB x.2.l.flatten x.1 i.1 = oB x.2.l.flatten x.1 i.1 ∧ oO x.2.l.flatten x.1 i.1 = oO x.2.l.flatten x.1 i.1 ∧ t_1 = dropk
 x.2.l.flatten ((offO x.1).add (Int.mul 40 (↑i.1 : Int))) 16 ∧ t = dropk x.2.l.flatten (((offO x.1).add (Int.mul 40 (↑i.1 : Int))).add 16) 16 ∧ numB (dropk x_6.1.l x_6.1.k x_6.2) = numB (dropk x.2.l.flatten (((offO x.1).add (Int.mul 40
 (↑i.1 : Int))).add 32) 4) ∧ True) ∧ ∃ x_6 : RImg × Int, 4 = x_6.2 ∧ (Nat.add 0 ((x_5.1.k.add x_5.2).toNat.mul 1)).add 0 = (Nat.add 0 ((x_6.1.k.add 0).toNat.mul 1)).add 0 ∧ (↑x_5.1.l.length : Int).sub (x_5.1.k.add x_5.2) = (↑x_6.1.l.length
 : Int).sub (x_6.1.k.add 0) ∧ x_5.1.cap.sub (x_5.1.k.add x_5.2) = x_6.1.cap.sub (x_6.1.k.add 0) ∧ (x_5.1.3 ↔ x_6.1.3) ∧ x_5.1.cap = x_6.1.cap ∧ ints x_5.1.l = ints x_6.1.l ∧ NumIn x_6 ∧ ∀ y : Unit, True → ar.le 0 x_4.1.k ∧ ar.le (ar.add
 x_4.1.k x_4.2) (ar.ilen (ints x_6.1.l)) ∧ ∀ t : List UInt8, t = ar.bytes (ar.isub (ints x_6.1.l) x_4.1.k x_4.2) → ar.le 0 x_5.1.k ∧ ar.le (ar.add x_5.1.k x_5.2) (ar.ilen (ints x_6.1.l)) ∧ ∀ t_1 : List UInt8, t_1 = ar.bytes (ar.isub (ints
 x_6.1.l) x_5.1.k x_5.2) → ∃ i_1 : Unit, Yes i_1 ∧ x.1.slots = x.1.slots ∧ x.1.files = x.1.files ∧ x.1.dirs = x.1.dirs ∧ x.1.most = x.1.most ∧ x.1.least = x.1.least ∧ x.1.page = x.1.page ∧ x.2.l = x.2.l ∧ x.2.len = x.2.len ∧ x.2.cap =
 x.2.cap ∧ chk x_1 = chk x_1 ∧ z = z ∧ (↑i.1 : Int) = (↑i.1 : Int) ∧ x.1.slots = x.1.slots ∧ x.1.files = x.1.files ∧ x.1.dirs = x.1.dirs ∧ x.1.most = x.1.most ∧ x.1.least = x.1.least ∧ x.1.page = x.1.page ∧ x_3.2 = x_3.2 ∧ (Nat.add 0
 ((x_6.1.k.add x_6.2).toNat.mul 1)).add 0 = (Nat.add 0 ((((offO x.1).add (Int.mul 40 (↑i.1 : Int))).add 36).toNat.mul 1)).add 0 ∧ (↑x_6.1.l.length : Int).sub (x_6.1.k.add x_6.2) = (↑x.2.l.flatten.length : Int).sub (((offO x.1).add (Int.mul
 40 (↑i.1 : Int))).add 36) ∧ x_6.1.cap.sub (x_6.1.k.add x_6.2) = i.2.2.1.sub (((offO x.1).add (Int.mul 40 (↑i.1 : Int))).add 36) ∧ (x_6.1.3 ↔ BadTo x.2.l.flatten x.1 (nRows x.1)) ∧ x_6.1.cap = i.2.2.1 ∧ ints x_6.1.l = ints x.2.l.flatten ∧
 x.1.files = x.1.files ∧ x.1.dirs = x.1.dirs ∧ nLive x.2.l.flatten x.1 (nRows x.1) = nLive x.2.l.flatten x.1 (nRows x.1) ∧ i.2.1 = i.2.1 ∧ i.2.1 = i.2.1 ∧ colK x.2.l.flatten x.1 (nRows x.1) = colK x.2.l.flatten x.1 (nRows x.1) ∧ colN
 x.2.l.flatten x.1 (nRows x.1) = colN x.2.l.flatten x.1 (nRows x.1) ∧ colP x.2.l.flatten x.1 (nRows x.1) = colP x.2.l.flatten x.1 (nRows x.1) ∧ colS x.2.l.flatten x.1 (nRows x.1) = colS x.2.l.flatten x.1 (nRows x.1) ∧ colZ x.2.l.flatten x.1
 (nRows x.1) = colZ x.2.l.flatten x.1 (nRows x.1) ∧ (↑i.1 : Int) = (↑i.1 : Int) ∧ i.2.2.2 = i.2.2.2 ∧ i.2.2.2 = i.2.2.2 ∧ oN x.2.l.flatten x.1 i.1 = oN x.2.l.flatten x.1 i.1 ∧ oT x.2.l.flatten x.1 i.1 = oT x.2.l.flatten x.1 i.1 ∧ oB
 x.2.l.flatten x.1 i.1 = oB x.2.l.flatten x.1 i.1 ∧ oO x.2.l.flatten x.1 i.1 = oO x.2.l.flatten x.1 i.1 ∧ t = dropk x.2.l.flatten ((offO x.1).add (Int.mul 40 (↑i.1 : Int))) 16 ∧ t_1 = dropk x.2.l.flatten (((offO x.1).add (Int.mul 40 (↑i.1 :
 Int))).add 16) 16 ∧ numB (dropk x_6.1.l x_6.1.k x_6.2) = numB (dropk x.2.l.flatten (((offO x.1).add (Int.mul 40 (↑i.1 : Int))).add 32) 4) ∧ True) ∧ ∀ i_1 : Unit, Yes i_1 → ∃ x_4 : RImg × Int, 4 = x_4.2 ∧ (Nat.add 0 ((((offO x.1).add
 (Int.mul 40 (↑i.1 : Int))).add 36).toNat.mul 1)).add 0 = (Nat.add 0 ((x_4.1.k.add 0).toNat.mul 1)).add 0 ∧ (↑x.2.l.flatten.length : Int).sub (((offO x.1).add (Int.mul 40 (↑i.1 : Int))).add 36) = (↑x_4.1.l.length : Int).sub (x_4.1.k.add 0)
 ∧ i.2.2.1.sub (((offO x.1).add (Int.mul 40 (↑i.1 : Int))).add 36) = x_4.1.cap.sub (x_4.1.k.add 0) ∧ (BadTo x.2.l.flatten x.1 (nRows x.1) ↔ x_4.1.3) ∧ i.2.2.1 = x_4.1.cap ∧ ints x.2.l.flatten = ints x_4.1.l ∧ NumIn x_4 ∧ ∀ y : Unit, True →
 ∀ z_1 : Int, z_1 = ar.wrap .i64 (ar.sub (numB (dropk x_4.1.l x_4.1.k x_4.2)) 1) → ar.le (ar.add 0 (↑i.1 : Int)) (ar.tlen (oN x.2.l.flatten x.1 i.1)) ∧ ar.le (ar.add 0 (↑i.1 : Int)) (ar.tlen (oT x.2.l.flatten x.1 i.1)) ∧ ar.le (ar.add 0
 (↑i.1 : Int)) (ar.ilen (oB x.2.l.flatten x.1 i.1)) ∧ ar.le (ar.add 0 (↑i.1 : Int)) (ar.ilen (oO x.2.l.flatten x.1 i.1)) ∧ i.2.2.2 = i.2.2.2 ∧ ar.le (ar.mul (ar.add (↑i.1 : Int) 1) 48) 140737488355328 ∧ ∀ c : Int, ar.le (ar.add (↑i.1 : Int)
 1) c → ∀ z_2 : Int, z_2 = ar.wrap .i64 (ar.add (↑i.1 : Int) 1) → ∃ j : Nat × Int × Int × Int, Dp3 x j ∧ ((rowsC x.1).toNat.sub j.1).lt ((rowsC x.1).toNat.sub i.1) ∧ x.1.slots = x.1.slots ∧ x.1.files = x.1.files ∧ x.1.dirs = x.1.dirs ∧
 x.1.most = x.1.most ∧ x.1.least = x.1.least ∧ x.1.page = x.1.page ∧ x.2.l = x.2.l ∧ x.2.len = x.2.len ∧ x.2.cap = x.2.cap ∧ chk x_1 = chk x_1 ∧ z = z ∧ z_2 = (↑j.1 : Int) ∧ x.1.slots = x.1.slots ∧ x.1.files = x.1.files ∧ x.1.dirs =
 x.1.dirs ∧ x.1.most = x.1.most ∧ x.1.least = x.1.least ∧ x.1.page = x.1.page ∧ x_3.2 = x_3.2 ∧ (Nat.add 0 ((x_4.1.k.add x_4.2).toNat.mul 1)).add 0 = (Nat.add 0 (((offO x.1).add (Int.mul 40 (↑j.1 : Int))).toNat.mul 1)).add 0 ∧
 (↑x_4.1.l.length : Int).sub (x_4.1.k.add x_4.2) = (↑x.2.l.flatten.length : Int).sub ((offO x.1).add (Int.mul 40 (↑j.1 : Int))) ∧ x_4.1.cap.sub (x_4.1.k.add x_4.2) = j.2.2.1.sub ((offO x.1).add (Int.mul 40 (↑j.1 : Int))) ∧ (x_4.1.3 ↔ BadTo
 x.2.l.flatten x.1 (nRows x.1)) ∧ x_4.1.cap = j.2.2.1 ∧ ints x_4.1.l = ints x.2.l.flatten ∧ x.1.files = x.1.files ∧ x.1.dirs = x.1.dirs ∧ nLive x.2.l.flatten x.1 (nRows x.1) = nLive x.2.l.flatten x.1 (nRows x.1) ∧ i.2.1 = j.2.1 ∧ i.2.1 =
 j.2.1 ∧ colK x.2.l.flatten x.1 (nRows x.1) = colK x.2.l.flatten x.1 (nRows x.1) ∧ colN x.2.l.flatten x.1 (nRows x.1) = colN x.2.l.flatten x.1 (nRows x.1) ∧ colP x.2.l.flatten x.1 (nRows x.1) = colP x.2.l.flatten x.1 (nRows x.1) ∧ colS
 x.2.l.flatten x.1 (nRows x.1) = colS x.2.l.flatten x.1 (nRows x.1) ∧ colZ x.2.l.flatten x.1 (nRows x.1) = colZ x.2.l.flatten x.1 (nRows x.1) ∧ ar.add (↑i.1 : Int) 1 = (↑j.1 : Int) ∧ c = j.2.2.2 ∧ c = j.2.2.2 ∧ ar.tapp (ar.tsub (oN
 x.2.l.flatten x.1 i.1) 0 (↑i.1 : Int)) [dropk x.2.l.flatten ((offO x.1).add (Int.mul 40 (↑i.1 : Int))) 16] = oN x.2.l.flatten x.1 j.1 ∧ ar.tapp (ar.tsub (oT x.2.l.flatten x.1 i.1) 0 (↑i.1 : Int)) [dropk x.2.l.flatten (((offO x.1).add
 (Int.mul 40 (↑i.1 : Int))).add 16) 16] = oT x.2.l.flatten x.1 j.1 ∧ ar.iapp (ar.isub (oB x.2.l.flatten x.1 i.1) 0 (↑i.1 : Int)) [numB (dropk x.2.l.flatten (((offO x.1).add (Int.mul 40 (↑i.1 : Int))).add 32) 4)] = oB x.2.l.flatten x.1 j.1 ∧
 ar.iapp (ar.isub (oO x.2.l.flatten x.1 i.1) 0 (↑i.1 : Int)) [z_1] = oO x.2.l.flatten x.1 j.1 ∧ True) ∧ (¬ar.lt (↑i.1 : Int) z → ∃ x_4 : RImg × Int, 4 = x_4.2 ∧ (Nat.add 0 (((offO x.1).add (Int.mul 40 (↑i.1 : Int))).toNat.mul 1)).add 0 =
 (Nat.add 0 ((x_4.1.k.add 0).toNat.mul 1)).add 0 ∧ (↑x.2.l.flatten.length : Int).sub ((offO x.1).add (Int.mul 40 (↑i.1 : Int))) = (↑x_4.1.l.length : Int).sub (x_4.1.k.add 0) ∧ i.2.2.1.sub ((offO x.1).add (Int.mul 40 (↑i.1 : Int))) =
 x_4.1.cap.sub (x_4.1.k.add 0) ∧ (BadTo x.2.l.flatten x.1 (nRows x.1) ↔ x_4.1.3) ∧ i.2.2.1 = x_4.1.cap ∧ ints x.2.l.flatten = ints x_4.1.l ∧ NumIn x_4 ∧ ∀ y : Unit, True → (ar.lt (↑i.1 : Int) (numB (dropk x_4.1.l x_4.1.k x_4.2)) → (∃ i_1 :
 Nat × Int × Int × Int × Int, Dp4 x i_1 ∧ x.1.slots = x.1.slots ∧ x.1.files = x.1.files ∧ x.1.dirs = x.1.dirs ∧ x.1.most = x.1.most ∧ x.1.least = x.1.least ∧ x.1.page = x.1.page ∧ x.2.l = x.2.l ∧ x.2.len = x.2.len ∧ x.2.cap = x.2.cap ∧ chk
 x_1 = chk x_1 ∧ 0 = cntP x.2.l.flatten x.1 ∧ 0 = cntP x.2.l.flatten x.1 ∧ 0 = (↑i_1.1 : Int) ∧ x.1.slots = x.1.slots ∧ x.1.files = x.1.files ∧ x.1.dirs = x.1.dirs ∧ x.1.most = x.1.most ∧ x.1.least = x.1.least ∧ x.1.page = x.1.page ∧ x_3.2
 = x_3.2 ∧ (Nat.add 0 ((x_4.1.k.add x_4.2).toNat.mul 1)).add 0 = (Nat.add 0 ((((offQ x.1).add 4).add (Int.mul 4 (↑i_1.1 : Int))).toNat.mul 1)).add 0 ∧ (↑x_4.1.l.length : Int).sub (x_4.1.k.add x_4.2) = (↑x.2.l.flatten.length : Int).sub
 (((offQ x.1).add 4).add (Int.mul 4 (↑i_1.1 : Int))) ∧ x_4.1.cap.sub (x_4.1.k.add x_4.2) = i_1.2.2.1.sub (((offQ x.1).add 4).add (Int.mul 4 (↑i_1.1 : Int))) ∧ (true = true ↔ BadTo x.2.l.flatten x.1 (nRows x.1) ∨ (rowsC x.1).lt (cntQ
 x.2.l.flatten x.1)) ∧ x_4.1.cap = i_1.2.2.1 ∧ ints x_4.1.l = ints x.2.l.flatten ∧ x.1.files = x.1.files ∧ x.1.dirs = x.1.dirs ∧ nLive x.2.l.flatten x.1 (nRows x.1) = nLive x.2.l.flatten x.1 (nRows x.1) ∧ i.2.1 = i_1.2.1 ∧ i.2.1 = i_1.2.1 ∧
 colK x.2.l.flatten x.1 (nRows x.1) = colK x.2.l.flatten x.1 (nRows x.1) ∧ colN x.2.l.flatten x.1 (nRows x.1) = colN x.2.l.flatten x.1 (nRows x.1) ∧ colP x.2.l.flatten x.1 (nRows x.1) = colP x.2.l.flatten x.1 (nRows x.1) ∧ colS
 x.2.l.flatten x.1 (nRows x.1) = colS x.2.l.flatten x.1 (nRows x.1) ∧ colZ x.2.l.flatten x.1 (nRows x.1) = colZ x.2.l.flatten x.1 (nRows x.1) ∧ (↑i.1 : Int) = rowsC x.1 ∧ i.2.2.2 = i_1.2.2.2.1 ∧ 0 = (↑i_1.1 : Int) ∧ 0 = i_1.2.2.2.2 ∧
 i.2.2.2 = i_1.2.2.2.1 ∧ oN x.2.l.flatten x.1 i.1 = oN x.2.l.flatten x.1 (rowsC x.1).toNat ∧ oT x.2.l.flatten x.1 i.1 = oT x.2.l.flatten x.1 (rowsC x.1).toNat ∧ oB x.2.l.flatten x.1 i.1 = oB x.2.l.flatten x.1 (rowsC x.1).toNat ∧ oO
 x.2.l.flatten x.1 i.1 = oO x.2.l.flatten x.1 (rowsC x.1).toNat ∧ i_1.2.2.2.2 = 0 ∧ qL x.2.l.flatten x.1 i_1.1 = [] ∧ True) ∧ ∀ i : Nat × Int × Int × Int × Int, Dp4 x i → (ar.lt (↑i.1 : Int) (cntP x.2.l.flatten x.1) → ∃ x_5 : RImg × Int, 4
 = x_5.2 ∧ (Nat.add 0 ((((offQ x.1).add 4).add (Int.mul 4 (↑i.1 : Int))).toNat.mul 1)).add 0 = (Nat.add 0 ((x_5.1.k.add 0).toNat.mul 1)).add 0 ∧ (↑x.2.l.flatten.length : Int).sub (((offQ x.1).add 4).add (Int.mul 4 (↑i.1 : Int))) =
 (↑x_5.1.l.length : Int).sub (x_5.1.k.add 0) ∧ i.2.2.1.sub (((offQ x.1).add 4).add (Int.mul 4 (↑i.1 : Int))) = x_5.1.cap.sub (x_5.1.k.add 0) ∧ (BadTo x.2.l.flatten x.1 (nRows x.1) ∨ (rowsC x.1).lt (cntQ x.2.l.flatten x.1) ↔ x_5.1.3) ∧
 i.2.2.1 = x_5.1.cap ∧ ints x.2.l.flatten = ints x_5.1.l ∧ NumIn x_5 ∧ ∀ y : Unit, True → ar.le (ar.add 0 (↑i.1 : Int)) (ar.ilen (qL x.2.l.flatten x.1 i.1)) ∧ i.2.2.2.2 = i.2.2.2.2 ∧ ar.le (ar.mul (ar.add (↑i.1 : Int) 1) 8) 140737488355328
 ∧ ∀ c : Int, ar.le (ar.add (↑i.1 : Int) 1) c → ∀ z : Int, z = ar.wrap .i64 (ar.add (↑i.1 : Int) 1) → ∃ j : Nat × Int × Int × Int × Int, Dp4 x j ∧ ((cntP x.2.l.flatten x.1).toNat.sub j.1).lt ((cntP x.2.l.flatten x.1).toNat.sub i.1) ∧
 x.1.slots = x.1.slots ∧ x.1.files = x.1.files ∧ x.1.dirs = x.1.dirs ∧ x.1.most = x.1.most ∧ x.1.least = x.1.least ∧ x.1.page = x.1.page ∧ x.2.l = x.2.l ∧ x.2.len = x.2.len ∧ x.2.cap = x.2.cap ∧ chk x_1 = chk x_1 ∧ cntP x.2.l.flatten x.1 =
 cntP x.2.l.flatten x.1 ∧ cntP x.2.l.flatten x.1 = cntP x.2.l.flatten x.1 ∧ z = (↑j.1 : Int) ∧ x.1.slots = x.1.slots ∧ x.1.files = x.1.files ∧ x.1.dirs = x.1.dirs ∧ x.1.most = x.1.most ∧ x.1.least = x.1.least ∧ x.1.page = x.1.page ∧ x_3.2 =
 x_3.2 ∧ (Nat.add 0 ((x_5.1.k.add x_5.2).toNat.mul 1)).add 0 = (Nat.add 0 ((((offQ x.1).add 4).add (Int.mul 4 (↑j.1 : Int))).toNat.mul 1)).add 0 ∧ (↑x_5.1.l.length : Int).sub (x_5.1.k.add x_5.2) = (↑x.2.l.flatten.length : Int).sub (((offQ
 x.1).add 4).add (Int.mul 4 (↑j.1 : Int))) ∧ x_5.1.cap.sub (x_5.1.k.add x_5.2) = j.2.2.1.sub (((offQ x.1).add 4).add (Int.mul 4 (↑j.1 : Int))) ∧ (x_5.1.3 ↔ BadTo x.2.l.flatten x.1 (nRows x.1) ∨ (rowsC x.1).lt (cntQ x.2.l.flatten x.1)) ∧
 x_5.1.cap = j.2.2.1 ∧ ints x_5.1.l = ints x.2.l.flatten ∧ x.1.files = x.1.files ∧ x.1.dirs = x.1.dirs ∧ nLive x.2.l.flatten x.1 (nRows x.1) = nLive x.2.l.flatten x.1 (nRows x.1) ∧ i.2.1 = j.2.1 ∧ i.2.1 = j.2.1 ∧ colK x.2.l.flatten x.1
 (nRows x.1) = colK x.2.l.flatten x.1 (nRows x.1) ∧ colN x.2.l.flatten x.1 (nRows x.1) = colN x.2.l.flatten x.1 (nRows x.1) ∧ colP x.2.l.flatten x.1 (nRows x.1) = colP x.2.l.flatten x.1 (nRows x.1) ∧ colS x.2.l.flatten x.1 (nRows x.1) =
 colS x.2.l.flatten x.1 (nRows x.1) ∧ colZ x.2.l.flatten x.1 (nRows x.1) = colZ x.2.l.flatten x.1 (nRows x.1) ∧ rowsC x.1 = rowsC x.1 ∧ i.2.2.2.1 = j.2.2.2.1 ∧ ar.add (↑i.1 : Int) 1 = (↑j.1 : Int) ∧ c = j.2.2.2.2 ∧ i.2.2.2.1 = j.2.2.2.1 ∧
 oN x.2.l.flatten x.1 (rowsC x.1).toNat = oN x.2.l.flatten x.1 (rowsC x.1).toNat ∧ oT x.2.l.flatten x.1 (rowsC x.1).toNat = oT x.2.l.flatten x.1 (rowsC x.1).toNat ∧ oB x.2.l.flatten x.1 (rowsC x.1).toNat = oB x.2.l.flatten x.1 (rowsC
 x.1).toNat ∧ oO x.2.l.flatten x.1 (rowsC x.1).toNat = oO x.2.l.flatten x.1 (rowsC x.1).toNat ∧ c = j.2.2.2.2 ∧ ar.iapp (ar.isub (qL x.2.l.flatten x.1 i.1) 0 (↑i.1 : Int)) [numB (dropk x_5.1.l x_5.1.k x_5.2)] = qL x.2.l.flatten x.1 j.1 ∧
 True) ∧ (¬ar.lt (↑i.1 : Int) (cntP x.2.l.flatten x.1) → ((BadTo x.2.l.flatten x.1 (nRows x.1) ∨ (rowsC x.1).lt (cntQ x.2.l.flatten x.1) → False) → ∃ x_5 : RImg, (Nat.add 0 ((((offQ x.1).add 4).add (Int.mul 4 (↑i.1 : Int))).toNat.mul
 1)).add 0 = (Nat.add 0 (x_5.k.toNat.mul 1)).add 0 ∧ (↑x.2.l.flatten.length : Int).sub (((offQ x.1).add 4).add (Int.mul 4 (↑i.1 : Int))) = (↑x_5.l.length : Int).sub x_5.k ∧ i.2.2.1.sub (((offQ x.1).add 4).add (Int.mul 4 (↑i.1 : Int))) =
 x_5.cap.sub x_5.k ∧ [UInt8.ofNat 0] = [UInt8.ofNat 0] ∧ i.2.2.1 = x_5.cap ∧ ints x.2.l.flatten = ints x_5.l ∧ TrimIn x_5 ∧ (∀ y : Unit, TrimNo x_5 → ∃ x_6 : Cfg × Tree, x.1.slots = x_6.1.slots ∧ x.1.files = x_6.1.files ∧ x.1.dirs =
 x_6.1.dirs ∧ x.1.most = x_6.1.most ∧ x.1.least = x_6.1.least ∧ x.1.page = x_6.1.page ∧ x.1.files = x_6.2.files ∧ x.1.dirs = x_6.2.dirs ∧ ar.le 0 0 ∧ ar.le (ar.add 0 (nLive x.2.l.flatten x.1 (nRows x.1))) (ar.ilen (colK x.2.l.flatten x.1
 (nRows x.1))) ∧ ar.le (ar.add 0 (nLive x.2.l.flatten x.1 (nRows x.1))) (ar.ilen (colN x.2.l.flatten x.1 (nRows x.1))) ∧ ar.le (ar.add 0 (nLive x.2.l.flatten x.1 (nRows x.1))) (ar.ilen (colP x.2.l.flatten x.1 (nRows x.1))) ∧ ar.le (ar.add 0
 (nLive x.2.l.flatten x.1 (nRows x.1))) (ar.tlen (colS x.2.l.flatten x.1 (nRows x.1))) ∧ ar.le (ar.add 0 (nLive x.2.l.flatten x.1 (nRows x.1))) (ar.ilen (colZ x.2.l.flatten x.1 (nRows x.1))) ∧ ar.isub (colK x.2.l.flatten x.1 (nRows x.1)) 0
 (nLive x.2.l.flatten x.1 (nRows x.1)) = x_6.2.nods.K ∧ ar.isub (colN x.2.l.flatten x.1 (nRows x.1)) 0 (nLive x.2.l.flatten x.1 (nRows x.1)) = x_6.2.nods.N ∧ ar.isub (colP x.2.l.flatten x.1 (nRows x.1)) 0 (nLive x.2.l.flatten x.1 (nRows
 x.1)) = x_6.2.nods.P ∧ ar.tsub (colS x.2.l.flatten x.1 (nRows x.1)) 0 (nLive x.2.l.flatten x.1 (nRows x.1)) = x_6.2.nods.S ∧ ar.isub (colZ x.2.l.flatten x.1 (nRows x.1)) 0 (nLive x.2.l.flatten x.1 (nRows x.1)) = x_6.2.nods.Z ∧ nLive
 x.2.l.flatten x.1 (nRows x.1) = x_6.2.nods.len ∧ i.2.1 = x_6.2.nods.cap ∧ TreeIn x_6 ∧ ∀ y : Unit, True → ((¬TreeOK x_6.1 x_6.2 → False) → ∃ x_7 : Cfg × Pool, x.1.slots = x_7.1.slots ∧ x.1.files = x_7.1.files ∧ x.1.dirs = x_7.1.dirs ∧
 x.1.most = x_7.1.most ∧ x.1.least = x_7.1.least ∧ x.1.page = x_7.1.page ∧ ar.le 0 0 ∧ ar.le (ar.add 0 (rowsC x.1)) (ar.tlen (oN x.2.l.flatten x.1 (rowsC x.1).toNat)) ∧ ar.le (ar.add 0 (rowsC x.1)) (ar.tlen (oT x.2.l.flatten x.1 (rowsC
 x.1).toNat)) ∧ ar.le (ar.add 0 (rowsC x.1)) (ar.ilen (oB x.2.l.flatten x.1 (rowsC x.1).toNat)) ∧ ar.le (ar.add 0 (rowsC x.1)) (ar.ilen (oO x.2.l.flatten x.1 (rowsC x.1).toNat)) ∧ ar.tsub (oN x.2.l.flatten x.1 (rowsC x.1).toNat) 0 (rowsC
 x.1) = x_7.2.objs.N ∧ ar.tsub (oT x.2.l.flatten x.1 (rowsC x.1).toNat) 0 (rowsC x.1) = x_7.2.objs.T ∧ ar.isub (oB x.2.l.flatten x.1 (rowsC x.1).toNat) 0 (rowsC x.1) = x_7.2.objs.B ∧ ar.isub (oO x.2.l.flatten x.1 (rowsC x.1).toNat) 0 (rowsC
 x.1) = x_7.2.objs.O ∧ rowsC x.1 = x_7.2.objs.len ∧ i.2.2.2.1 = x_7.2.objs.cap ∧ ar.le 0 0 ∧ ar.le (ar.add 0 (↑i.1 : Int)) (ar.ilen (qL x.2.l.flatten x.1 i.1)) ∧ ar.isub (qL x.2.l.flatten x.1 i.1) 0 (↑i.1 : Int) = x_7.2.q ∧ (↑i.1 : Int) =
 x_7.2.qlen ∧ i.2.2.2.2 = x_7.2.qcap ∧ PoolIn x_7 ∧ ∀ y : Unit, True → (¬PoolOK x_7.1 x_7.2 → ∃ (y : (Tree × Pool) × Int × Int × Int), DcPost x y ∧ 0 = y.1.1.files ∧ 0 = y.1.1.dirs ∧ 0 = y.1.1.nods.len ∧ 0 = y.1.1.nods.len ∧ 0 =
 y.1.2.objs.len ∧ 0 = y.1.2.objs.len ∧ 0 = y.1.2.qlen ∧ 0 = y.1.2.qlen ∧ 141 = dcE x.1 x.2.l ∧ y.2.1 = 0 ∧ y.1.1.nods.K = [] ∧ y.1.1.nods.N = [] ∧ y.1.1.nods.P = [] ∧ y.1.1.nods.S = [] ∧ y.1.1.nods.Z = [] ∧ y.2.2.1 = 0 ∧ y.1.2.objs.N = [] ∧
 y.1.2.objs.T = [] ∧ y.1.2.objs.B = [] ∧ y.1.2.objs.O = [] ∧ y.2.2.2 = 0 ∧ y.1.2.q = [] ∧ True) ∧ (¬¬PoolOK x_7.1 x_7.2 → ∃ x_8 : Nods × Int, nLive x.2.l.flatten x.1 (nRows x.1) = x_8.1.len ∧ i.2.1 = x_8.1.cap ∧ i.2.1 = x_8.2 ∧ colK
 x.2.l.flatten x.1 (nRows x.1) = x_8.1.K ∧ colN x.2.l.flatten x.1 (nRows x.1) = x_8.1.N ∧ colP x.2.l.flatten x.1 (nRows x.1) = x_8.1.P ∧ colS x.2.l.flatten x.1 (nRows x.1) = x_8.1.S ∧ colZ x.2.l.flatten x.1 (nRows x.1) = x_8.1.Z ∧ ClipN x_8
 ∧ ∀ y : Unit, True → ∃ x_9 : Objs × Int, rowsC x.1 = x_9.1.len ∧ i.2.2.2.1 = x_9.1.cap ∧ i.2.2.2.1 = x_9.2 ∧ oN x.2.l.flatten x.1 (rowsC x.1).toNat = x_9.1.N ∧ oT x.2.l.flatten x.1 (rowsC x.1).toNat = x_9.1.T ∧ oB x.2.l.flatten x.1 (rowsC
 x.1).toNat = x_9.1.B ∧ oO x.2.l.flatten x.1 (rowsC x.1).toNat = x_9.1.O ∧ ClipO x_9 ∧ ∀ y : Unit, True → ∃ x_10 : List Int × Int × Int × Int, (↑i.1 : Int) = x_10.2.1 ∧ i.2.2.2.2 = x_10.2.2.1 ∧ i.2.2.2.2 = x_10.2.2.2 ∧ qL x.2.l.flatten x.1
 i.1 = x_10.1 ∧ ClipQ x_10 ∧ ∀ y : Unit, True → ∃ (y : (Tree × Pool) × Int × Int × Int), DcPost x y ∧ x.1.files = y.1.1.files ∧ x.1.dirs = y.1.1.dirs ∧ 0 = 0 ∧ x_8.1.len = y.1.1.nods.len ∧ x_8.1.len = y.1.1.nods.len ∧ 0 = 0 ∧ x_9.1.len =
 y.1.2.objs.len ∧ x_9.1.len = y.1.2.objs.len ∧ 0 = 0 ∧ x_10.2.1 = y.1.2.qlen ∧ x_10.2.1 = y.1.2.qlen ∧ 0 = dcE x.1 x.2.l ∧ x_8.2 = y.2.1 ∧ x_8.1.K = y.1.1.nods.K ∧ x_8.1.N = y.1.1.nods.N ∧ x_8.1.P = y.1.1.nods.P ∧ x_8.1.S = y.1.1.nods.S ∧
 x_8.1.Z = y.1.1.nods.Z ∧ x_9.2 = y.2.2.1 ∧ x_9.1.N = y.1.2.objs.N ∧ x_9.1.T = y.1.2.objs.T ∧ x_9.1.B = y.1.2.objs.B ∧ x_9.1.O = y.1.2.objs.O ∧ x_10.2.2.2 = y.2.2.2 ∧ x_10.1 = y.1.2.q ∧ True)) ∧ (¬(¬TreeOK x_6.1 x_6.2 → False) → ∃ (y :
 (Tree × Pool) × Int × Int × Int), DcPost x y ∧ 0 = y.1.1.files ∧ 0 = y.1.1.dirs ∧ 0 = y.1.1.nods.len ∧ 0 = y.1.1.nods.len ∧ 0 = y.1.2.objs.len ∧ 0 = y.1.2.objs.len ∧ 0 = y.1.2.qlen ∧ 0 = y.1.2.qlen ∧ 141 = dcE x.1 x.2.l ∧ y.2.1 = 0 ∧
 y.1.1.nods.K = [] ∧ y.1.1.nods.N = [] ∧ y.1.1.nods.P = [] ∧ y.1.1.nods.S = [] ∧ y.1.1.nods.Z = [] ∧ y.2.2.1 = 0 ∧ y.1.2.objs.N = [] ∧ y.1.2.objs.T = [] ∧ y.1.2.objs.B = [] ∧ y.1.2.objs.O = [] ∧ y.2.2.2 = 0 ∧ y.1.2.q = [] ∧ True)) ∧ ∀ y :
 Nat × Nat, TrimYes x_5 y → ((ar.lt 0 ((↑y.1 : Int).sub (↑y.2 : Int)) → False) → ∃ x_6 : Cfg × Tree, x.1.slots = x_6.1.slots ∧ x.1.files = x_6.1.files ∧ x.1.dirs = x_6.1.dirs ∧ x.1.most = x_6.1.most ∧ x.1.least = x_6.1.least ∧ x.1.page =
 x_6.1.page ∧ x.1.files = x_6.2.files ∧ x.1.dirs = x_6.2.dirs ∧ ar.le 0 0 ∧ ar.le (ar.add 0 (nLive x.2.l.flatten x.1 (nRows x.1))) (ar.ilen (colK x.2.l.flatten x.1 (nRows x.1))) ∧ ar.le (ar.add 0 (nLive x.2.l.flatten x.1 (nRows x.1)))
 (ar.ilen (colN x.2.l.flatten x.1 (nRows x.1))) ∧ ar.le (ar.add 0 (nLive x.2.l.flatten x.1 (nRows x.1))) (ar.ilen (colP x.2.l.flatten x.1 (nRows x.1))) ∧ ar.le (ar.add 0 (nLive x.2.l.flatten x.1 (nRows x.1))) (ar.tlen (colS x.2.l.flatten
 x.1 (nRows x.1))) ∧ ar.le (ar.add 0 (nLive x.2.l.flatten x.1 (nRows x.1))) (ar.ilen (colZ x.2.l.flatten x.1 (nRows x.1))) ∧ ar.isub (colK x.2.l.flatten x.1 (nRows x.1)) 0 (nLive x.2.l.flatten x.1 (nRows x.1)) = x_6.2.nods.K ∧ ar.isub (colN
 x.2.l.flatten x.1 (nRows x.1)) 0 (nLive x.2.l.flatten x.1 (nRows x.1)) = x_6.2.nods.N ∧ ar.isub (colP x.2.l.flatten x.1 (nRows x.1)) 0 (nLive x.2.l.flatten x.1 (nRows x.1)) = x_6.2.nods.P ∧ ar.tsub (colS x.2.l.flatten x.1 (nRows x.1)) 0
 (nLive x.2.l.flatten x.1 (nRows x.1)) = x_6.2.nods.S ∧ ar.isub (colZ x.2.l.flatten x.1 (nRows x.1)) 0 (nLive x.2.l.flatten x.1 (nRows x.1)) = x_6.2.nods.Z ∧ nLive x.2.l.flatten x.1 (nRows x.1) = x_6.2.nods.len ∧ i.2.1 = x_6.2.nods.cap ∧
 TreeIn x_6 ∧ ∀ y : Unit, True → ((¬TreeOK x_6.1 x_6.2 → False) → ∃ x_7 : Cfg × Pool, x.1.slots = x_7.1.slots ∧ x.1.files = x_7.1.files ∧ x.1.dirs = x_7.1.dirs ∧ x.1.most = x_7.1.most ∧ x.1.least = x_7.1.least ∧ x.1.page = x_7.1.page ∧
 ar.le 0 0 ∧ ar.le (ar.add 0 (rowsC x.1)) (ar.tlen (oN x.2.l.flatten x.1 (rowsC x.1).toNat)) ∧ ar.le (ar.add 0 (rowsC x.1)) (ar.tlen (oT x.2.l.flatten x.1 (rowsC x.1).toNat)) ∧ ar.le (ar.add 0 (rowsC x.1)) (ar.ilen (oB x.2.l.flatten x.1
 (rowsC x.1).toNat)) ∧ ar.le (ar.add 0 (rowsC x.1)) (ar.ilen (oO x.2.l.flatten x.1 (rowsC x.1).toNat)) ∧ ar.tsub (oN x.2.l.flatten x.1 (rowsC x.1).toNat) 0 (rowsC x.1) = x_7.2.objs.N ∧ ar.tsub (oT x.2.l.flatten x.1 (rowsC x.1).toNat) 0
 (rowsC x.1) = x_7.2.objs.T ∧ ar.isub (oB x.2.l.flatten x.1 (rowsC x.1).toNat) 0 (rowsC x.1) = x_7.2.objs.B ∧ ar.isub (oO x.2.l.flatten x.1 (rowsC x.1).toNat) 0 (rowsC x.1) = x_7.2.objs.O ∧ rowsC x.1 = x_7.2.objs.len ∧ i.2.2.2.1 =
 x_7.2.objs.cap ∧ ar.le 0 0 ∧ ar.le (ar.add 0 (↑i.1 : Int)) (ar.ilen (qL x.2.l.flatten x.1 i.1)) ∧ ar.isub (qL x.2.l.flatten x.1 i.1) 0 (↑i.1 : Int) = x_7.2.q ∧ (↑i.1 : Int) = x_7.2.qlen ∧ i.2.2.2.2 = x_7.2.qcap ∧ PoolIn x_7 ∧ ∀ y : Unit,
 True → (¬PoolOK x_7.1 x_7.2 → ∃ (y : (Tree × Pool) × Int × Int × Int), DcPost x y ∧ 0 = y.1.1.files ∧ 0 = y.1.1.dirs ∧ 0 = y.1.1.nods.len ∧ 0 = y.1.1.nods.len ∧ 0 = y.1.2.objs.len ∧ 0 = y.1.2.objs.len ∧ 0 = y.1.2.qlen ∧ 0 = y.1.2.qlen ∧
 141 = dcE x.1 x.2.l ∧ y.2.1 = 0 ∧ y.1.1.nods.K = [] ∧ y.1.1.nods.N = [] ∧ y.1.1.nods.P = [] ∧ y.1.1.nods.S = [] ∧ y.1.1.nods.Z = [] ∧ y.2.2.1 = 0 ∧ y.1.2.objs.N = [] ∧ y.1.2.objs.T = [] ∧ y.1.2.objs.B = [] ∧ y.1.2.objs.O = [] ∧ y.2.2.2 = 0
 ∧ y.1.2.q = [] ∧ True) ∧ (¬¬PoolOK x_7.1 x_7.2 → ∃ x_8 : Nods × Int, nLive x.2.l.flatten x.1 (nRows x.1) = x_8.1.len ∧ i.2.1 = x_8.1.cap ∧ i.2.1 = x_8.2 ∧ colK x.2.l.flatten x.1 (nRows x.1) = x_8.1.K ∧ colN x.2.l.flatten x.1 (nRows x.1) =
 x_8.1.N ∧ colP x.2.l.flatten x.1 (nRows x.1) = x_8.1.P ∧ colS x.2.l.flatten x.1 (nRows x.1) = x_8.1.S ∧ colZ x.2.l.flatten x.1 (nRows x.1) = x_8.1.Z ∧ ClipN x_8 ∧ ∀ y : Unit, True → ∃ x_9 : Objs × Int, rowsC x.1 = x_9.1.len ∧ i.2.2.2.1 =
 x_9.1.cap ∧ i.2.2.2.1 = x_9.2 ∧ oN x.2.l.flatten x.1 (rowsC x.1).toNat = x_9.1.N ∧ oT x.2.l.flatten x.1 (rowsC x.1).toNat = x_9.1.T ∧ oB x.2.l.flatten x.1 (rowsC x.1).toNat = x_9.1.B ∧ oO x.2.l.flatten x.1 (rowsC x.1).toNat = x_9.1.O ∧
 ClipO x_9 ∧ ∀ y : Unit, True → ∃ x_10 : List Int × Int × Int × Int, (↑i.1 : Int) = x_10.2.1 ∧ i.2.2.2.2 = x_10.2.2.1 ∧ i.2.2.2.2 = x_10.2.2.2 ∧ qL x.2.l.flatten x.1 i.1 = x_10.1 ∧ ClipQ x_10 ∧ ∀ y : Unit, True → ∃ (y : (Tree × Pool) × Int
 × Int × Int), DcPost x y ∧ x.1.files = y.1.1.files ∧ x.1.dirs = y.1.1.dirs ∧ 0 = 0 ∧ x_8.1.len = y.1.1.nods.len ∧ x_8.1.len = y.1.1.nods.len ∧ 0 = 0 ∧ x_9.1.len = y.1.2.objs.len ∧ x_9.1.len = y.1.2.objs.len ∧ 0 = 0 ∧ x_10.2.1 = y.1.2.qlen
 ∧ x_10.2.1 = y.1.2.qlen ∧ 0 = dcE x.1 x.2.l ∧ x_8.2 = y.2.1 ∧ x_8.1.K = y.1.1.nods.K ∧ x_8.1.N = y.1.1.nods.N ∧ x_8.1.P = y.1.1.nods.P ∧ x_8.1.S = y.1.1.nods.S ∧ x_8.1.Z = y.1.1.nods.Z ∧ x_9.2 = y.2.2.1 ∧ x_9.1.N = y.1.2.objs.N ∧ x_9.1.T =
 y.1.2.objs.T ∧ x_9.1.B = y.1.2.objs.B ∧ x_9.1.O = y.1.2.objs.O ∧ x_10.2.2.2 = y.2.2.2 ∧ x_10.1 = y.1.2.q ∧ True)) ∧ (¬(¬TreeOK x_6.1 x_6.2 → False) → ∃ (y : (Tree × Pool) × Int × Int × Int), DcPost x y ∧ 0 = y.1.1.files ∧ 0 = y.1.1.dirs ∧
 0 = y.1.1.nods.len ∧ 0 = y.1.1.nods.len ∧ 0 = y.1.2.objs.len ∧ 0 = y.1.2.objs.len ∧ 0 = y.1.2.qlen ∧ 0 = y.1.2.qlen ∧ 141 = dcE x.1 x.2.l ∧ y.2.1 = 0 ∧ y.1.1.nods.K = [] ∧ y.1.1.nods.N = [] ∧ y.1.1.nods.P = [] ∧ y.1.1.nods.S = [] ∧
 y.1.1.nods.Z = [] ∧ y.2.2.1 = 0 ∧ y.1.2.objs.N = [] ∧ y.1.2.objs.T = [] ∧ y.1.2.objs.B = [] ∧ y.1.2.objs.O = [] ∧ y.2.2.2 = 0 ∧ y.1.2.q = [] ∧ True)) ∧ (¬(ar.lt 0 ((↑y.1 : Int).sub (↑y.2 : Int)) → False) → ∃ (y : (Tree × Pool) × Int × Int
 × Int), DcPost x y ∧ 0 = y.1.1.files ∧ 0 = y.1.1.dirs ∧ 0 = y.1.1.nods.len ∧ 0 = y.1.1.nods.len ∧ 0 = y.1.2.objs.len ∧ 0 = y.1.2.objs.len ∧ 0 = y.1.2.qlen ∧ 0 = y.1.2.qlen ∧ 141 = dcE x.1 x.2.l ∧ y.2.1 = 0 ∧ y.1.1.nods.K = [] ∧
 y.1.1.nods.N = [] ∧ y.1.1.nods.P = [] ∧ y.1.1.nods.S = [] ∧ y.1.1.nods.Z = [] ∧ y.2.2.1 = 0 ∧ y.1.2.objs.N = [] ∧ y.1.2.objs.T = [] ∧ y.1.2.objs.B = [] ∧ y.1.2.objs.O = [] ∧ y.2.2.2 = 0 ∧ y.1.2.q = [] ∧ True)) ∧ (¬(BadTo x.2.l.flatten x.1
 (nRows x.1) ∨ (rowsC x.1).lt (cntQ x.2.l.flatten x.1) → False) → ∃ (y : (Tree × Pool) × Int × Int × Int), DcPost x y ∧ 0 = y.1.1.files ∧ 0 = y.1.1.dirs ∧ 0 = y.1.1.nods.len ∧ 0 = y.1.1.nods.len ∧ 0 = y.1.2.objs.len ∧ 0 = y.1.2.objs.len ∧ 0
 = y.1.2.qlen ∧ 0 = y.1.2.qlen ∧ 141 = dcE x.1 x.2.l ∧ y.2.1 = 0 ∧ y.1.1.nods.K = [] ∧ y.1.1.nods.N = [] ∧ y.1.1.nods.P = [] ∧ y.1.1.nods.S = [] ∧ y.1.1.nods.Z = [] ∧ y.2.2.1 = 0 ∧ y.1.2.objs.N = [] ∧ y.1.2.objs.T = [] ∧ y.1.2.objs.B = [] ∧
 y.1.2.objs.O = [] ∧ y.2.2.2 = 0 ∧ y.1.2.q = [] ∧ True))) ∧ (¬ar.lt (↑i.1 : Int) (numB (dropk x_4.1.l x_4.1.k x_4.2)) → (∃ i_1 : Nat × Int × Int × Int × Int, Dp4 x i_1 ∧ x.1.slots = x.1.slots ∧ x.1.files = x.1.files ∧ x.1.dirs = x.1.dirs ∧
 x.1.most = x.1.most ∧ x.1.least = x.1.least ∧ x.1.page = x.1.page ∧ x.2.l = x.2.l ∧ x.2.len = x.2.len ∧ x.2.cap = x.2.cap ∧ chk x_1 = chk x_1 ∧ numB (dropk x_4.1.l x_4.1.k x_4.2) = cntP x.2.l.flatten x.1 ∧ numB (dropk x_4.1.l x_4.1.k
 x_4.2) = cntP x.2.l.flatten x.1 ∧ 0 = (↑i_1.1 : Int) ∧ x.1.slots = x.1.slots ∧ x.1.files = x.1.files ∧ x.1.dirs = x.1.dirs ∧ x.1.most = x.1.most ∧ x.1.least = x.1.least ∧ x.1.page = x.1.page ∧ x_3.2 = x_3.2 ∧ (Nat.add 0 ((x_4.1.k.add
 x_4.2).toNat.mul 1)).add 0 = (Nat.add 0 ((((offQ x.1).add 4).add (Int.mul 4 (↑i_1.1 : Int))).toNat.mul 1)).add 0 ∧ (↑x_4.1.l.length : Int).sub (x_4.1.k.add x_4.2) = (↑x.2.l.flatten.length : Int).sub (((offQ x.1).add 4).add (Int.mul 4
 (↑i_1.1 : Int))) ∧ x_4.1.cap.sub (x_4.1.k.add x_4.2) = i_1.2.2.1.sub (((offQ x.1).add 4).add (Int.mul 4 (↑i_1.1 : Int))) ∧ (x_4.1.3 ↔ BadTo x.2.l.flatten x.1 (nRows x.1) ∨ (rowsC x.1).lt (cntQ x.2.l.flatten x.1)) ∧ x_4.1.cap = i_1.2.2.1 ∧
 ints x_4.1.l = ints x.2.l.flatten ∧ x.1.files = x.1.files ∧ x.1.dirs = x.1.dirs ∧ nLive x.2.l.flatten x.1 (nRows x.1) = nLive x.2.l.flatten x.1 (nRows x.1) ∧ i.2.1 = i_1.2.1 ∧ i.2.1 = i_1.2.1 ∧ colK x.2.l.flatten x.1 (nRows x.1) = colK
 x.2.l.flatten x.1 (nRows x.1) ∧ colN x.2.l.flatten x.1 (nRows x.1) = colN x.2.l.flatten x.1 (nRows x.1) ∧ colP x.2.l.flatten x.1 (nRows x.1) = colP x.2.l.flatten x.1 (nRows x.1) ∧ colS x.2.l.flatten x.1 (nRows x.1) = colS x.2.l.flatten x.1
 (nRows x.1) ∧ colZ x.2.l.flatten x.1 (nRows x.1) = colZ x.2.l.flatten x.1 (nRows x.1) ∧ (↑i.1 : Int) = rowsC x.1 ∧ i.2.2.2 = i_1.2.2.2.1 ∧ 0 = (↑i_1.1 : Int) ∧ 0 = i_1.2.2.2.2 ∧ i.2.2.2 = i_1.2.2.2.1 ∧ oN x.2.l.flatten x.1 i.1 = oN
 x.2.l.flatten x.1 (rowsC x.1).toNat ∧ oT x.2.l.flatten x.1 i.1 = oT x.2.l.flatten x.1 (rowsC x.1).toNat ∧ oB x.2.l.flatten x.1 i.1 = oB x.2.l.flatten x.1 (rowsC x.1).toNat ∧ oO x.2.l.flatten x.1 i.1 = oO x.2.l.flatten x.1 (rowsC x.1).toNat
 ∧ i_1.2.2.2.2 = 0 ∧ qL x.2.l.flatten x.1 i_1.1 = [] ∧ True) ∧ ∀ i : Nat × Int × Int × Int × Int, Dp4 x i → (ar.lt (↑i.1 : Int) (cntP x.2.l.flatten x.1) → ∃ x_5 : RImg × Int, 4 = x_5.2 ∧ (Nat.add 0 ((((offQ x.1).add 4).add (Int.mul 4 (↑i.1
 : Int))).toNat.mul 1)).add 0 = (Nat.add 0 ((x_5.1.k.add 0).toNat.mul 1)).add 0 ∧ (↑x.2.l.flatten.length : Int).sub (((offQ x.1).add 4).add (Int.mul 4 (↑i.1 : Int))) = (↑x_5.1.l.length : Int).sub (x_5.1.k.add 0) ∧ i.2.2.1.sub (((offQ
 x.1).add 4).add (Int.mul 4 (↑i.1 : Int))) = x_5.1.cap.sub (x_5.1.k.add 0) ∧ (BadTo x.2.l.flatten x.1 (nRows x.1) ∨ (rowsC x.1).lt (cntQ x.2.l.flatten x.1) ↔ x_5.1.3) ∧ i.2.2.1 = x_5.1.cap ∧ ints x.2.l.flatten = ints x_5.1.l ∧ NumIn x_5 ∧ ∀
 y : Unit, True → ar.le (ar.add 0 (↑i.1 : Int)) (ar.ilen (qL x.2.l.flatten x.1 i.1)) ∧ i.2.2.2.2 = i.2.2.2.2 ∧ ar.le (ar.mul (ar.add (↑i.1 : Int) 1) 8) 140737488355328 ∧ ∀ c : Int, ar.le (ar.add (↑i.1 : Int) 1) c → ∀ z : Int, z = ar.wrap
 .i64 (ar.add (↑i.1 : Int) 1) → ∃ j : Nat × Int × Int × Int × Int, Dp4 x j ∧ ((cntP x.2.l.flatten x.1).toNat.sub j.1).lt ((cntP x.2.l.flatten x.1).toNat.sub i.1) ∧ x.1.slots = x.1.slots ∧ x.1.files = x.1.files ∧ x.1.dirs = x.1.dirs ∧
 x.1.most = x.1.most ∧ x.1.least = x.1.least ∧ x.1.page = x.1.page ∧ x.2.l = x.2.l ∧ x.2.len = x.2.len ∧ x.2.cap = x.2.cap ∧ chk x_1 = chk x_1 ∧ cntP x.2.l.flatten x.1 = cntP x.2.l.flatten x.1 ∧ cntP x.2.l.flatten x.1 = cntP x.2.l.flatten
 x.1 ∧ z = (↑j.1 : Int) ∧ x.1.slots = x.1.slots ∧ x.1.files = x.1.files ∧ x.1.dirs = x.1.dirs ∧ x.1.most = x.1.most ∧ x.1.least = x.1.least ∧ x.1.page = x.1.page ∧ x_3.2 = x_3.2 ∧ (Nat.add 0 ((x_5.1.k.add x_5.2).toNat.mul 1)).add 0 =
 (Nat.add 0 ((((offQ x.1).add 4).add (Int.mul 4 (↑j.1 : Int))).toNat.mul 1)).add 0 ∧ (↑x_5.1.l.length : Int).sub (x_5.1.k.add x_5.2) = (↑x.2.l.flatten.length : Int).sub (((offQ x.1).add 4).add (Int.mul 4 (↑j.1 : Int))) ∧ x_5.1.cap.sub
 (x_5.1.k.add x_5.2) = j.2.2.1.sub (((offQ x.1).add 4).add (Int.mul 4 (↑j.1 : Int))) ∧ (x_5.1.3 ↔ BadTo x.2.l.flatten x.1 (nRows x.1) ∨ (rowsC x.1).lt (cntQ x.2.l.flatten x.1)) ∧ x_5.1.cap = j.2.2.1 ∧ ints x_5.1.l = ints x.2.l.flatten ∧
 x.1.files = x.1.files ∧ x.1.dirs = x.1.dirs ∧ nLive x.2.l.flatten x.1 (nRows x.1) = nLive x.2.l.flatten x.1 (nRows x.1) ∧ i.2.1 = j.2.1 ∧ i.2.1 = j.2.1 ∧ colK x.2.l.flatten x.1 (nRows x.1) = colK x.2.l.flatten x.1 (nRows x.1) ∧ colN
 x.2.l.flatten x.1 (nRows x.1) = colN x.2.l.flatten x.1 (nRows x.1) ∧ colP x.2.l.flatten x.1 (nRows x.1) = colP x.2.l.flatten x.1 (nRows x.1) ∧ colS x.2.l.flatten x.1 (nRows x.1) = colS x.2.l.flatten x.1 (nRows x.1) ∧ colZ x.2.l.flatten x.1
 (nRows x.1) = colZ x.2.l.flatten x.1 (nRows x.1) ∧ rowsC x.1 = rowsC x.1 ∧ i.2.2.2.1 = j.2.2.2.1 ∧ ar.add (↑i.1 : Int) 1 = (↑j.1 : Int) ∧ c = j.2.2.2.2 ∧ i.2.2.2.1 = j.2.2.2.1 ∧ oN x.2.l.flatten x.1 (rowsC x.1).toNat = oN x.2.l.flatten x.1
 (rowsC x.1).toNat ∧ oT x.2.l.flatten x.1 (rowsC x.1).toNat = oT x.2.l.flatten x.1 (rowsC x.1).toNat ∧ oB x.2.l.flatten x.1 (rowsC x.1).toNat = oB x.2.l.flatten x.1 (rowsC x.1).toNat ∧ oO x.2.l.flatten x.1 (rowsC x.1).toNat = oO
 x.2.l.flatten x.1 (rowsC x.1).toNat ∧ c = j.2.2.2.2 ∧ ar.iapp (ar.isub (qL x.2.l.flatten x.1 i.1) 0 (↑i.1 : Int)) [numB (dropk x_5.1.l x_5.1.k x_5.2)] = qL x.2.l.flatten x.1 j.1 ∧ True) ∧ (¬ar.lt (↑i.1 : Int) (cntP x.2.l.flatten x.1) →
 ((BadTo x.2.l.flatten x.1 (nRows x.1) ∨ (rowsC x.1).lt (cntQ x.2.l.flatten x.1) → False) → ∃ x_5 : RImg, (Nat.add 0 ((((offQ x.1).add 4).add (Int.mul 4 (↑i.1 : Int))).toNat.mul 1)).add 0 = (Nat.add 0 (x_5.k.toNat.mul 1)).add 0 ∧
 (↑x.2.l.flatten.length : Int).sub (((offQ x.1).add 4).add (Int.mul 4 (↑i.1 : Int))) = (↑x_5.l.length : Int).sub x_5.k ∧ i.2.2.1.sub (((offQ x.1).add 4).add (Int.mul 4 (↑i.1 : Int))) = x_5.cap.sub x_5.k ∧ [UInt8.ofNat 0] = [UInt8.ofNat 0] ∧
 i.2.2.1 = x_5.cap ∧ ints x.2.l.flatten = ints x_5.l ∧ TrimIn x_5 ∧ (∀ y : Unit, TrimNo x_5 → ∃ x_6 : Cfg × Tree, x.1.slots = x_6.1.slots ∧ x.1.files = x_6.1.files ∧ x.1.dirs = x_6.1.dirs ∧ x.1.most = x_6.1.most ∧ x.1.least = x_6.1.least ∧
 x.1.page = x_6.1.page ∧ x.1.files = x_6.2.files ∧ x.1.dirs = x_6.2.dirs ∧ ar.le 0 0 ∧ ar.le (ar.add 0 (nLive x.2.l.flatten x.1 (nRows x.1))) (ar.ilen (colK x.2.l.flatten x.1 (nRows x.1))) ∧ ar.le (ar.add 0 (nLive x.2.l.flatten x.1 (nRows
 x.1))) (ar.ilen (colN x.2.l.flatten x.1 (nRows x.1))) ∧ ar.le (ar.add 0 (nLive x.2.l.flatten x.1 (nRows x.1))) (ar.ilen (colP x.2.l.flatten x.1 (nRows x.1))) ∧ ar.le (ar.add 0 (nLive x.2.l.flatten x.1 (nRows x.1))) (ar.tlen (colS
 x.2.l.flatten x.1 (nRows x.1))) ∧ ar.le (ar.add 0 (nLive x.2.l.flatten x.1 (nRows x.1))) (ar.ilen (colZ x.2.l.flatten x.1 (nRows x.1))) ∧ ar.isub (colK x.2.l.flatten x.1 (nRows x.1)) 0 (nLive x.2.l.flatten x.1 (nRows x.1)) = x_6.2.nods.K ∧
 ar.isub (colN x.2.l.flatten x.1 (nRows x.1)) 0 (nLive x.2.l.flatten x.1 (nRows x.1)) = x_6.2.nods.N ∧ ar.isub (colP x.2.l.flatten x.1 (nRows x.1)) 0 (nLive x.2.l.flatten x.1 (nRows x.1)) = x_6.2.nods.P ∧ ar.tsub (colS x.2.l.flatten x.1
 (nRows x.1)) 0 (nLive x.2.l.flatten x.1 (nRows x.1)) = x_6.2.nods.S ∧ ar.isub (colZ x.2.l.flatten x.1 (nRows x.1)) 0 (nLive x.2.l.flatten x.1 (nRows x.1)) = x_6.2.nods.Z ∧ nLive x.2.l.flatten x.1 (nRows x.1) = x_6.2.nods.len ∧ i.2.1 =
 x_6.2.nods.cap ∧ TreeIn x_6 ∧ ∀ y : Unit, True → ((¬TreeOK x_6.1 x_6.2 → False) → ∃ x_7 : Cfg × Pool, x.1.slots = x_7.1.slots ∧ x.1.files = x_7.1.files ∧ x.1.dirs = x_7.1.dirs ∧ x.1.most = x_7.1.most ∧ x.1.least = x_7.1.least ∧ x.1.page =
 x_7.1.page ∧ ar.le 0 0 ∧ ar.le (ar.add 0 (rowsC x.1)) (ar.tlen (oN x.2.l.flatten x.1 (rowsC x.1).toNat)) ∧ ar.le (ar.add 0 (rowsC x.1)) (ar.tlen (oT x.2.l.flatten x.1 (rowsC x.1).toNat)) ∧ ar.le (ar.add 0 (rowsC x.1)) (ar.ilen (oB
 x.2.l.flatten x.1 (rowsC x.1).toNat)) ∧ ar.le (ar.add 0 (rowsC x.1)) (ar.ilen (oO x.2.l.flatten x.1 (rowsC x.1).toNat)) ∧ ar.tsub (oN x.2.l.flatten x.1 (rowsC x.1).toNat) 0 (rowsC x.1) = x_7.2.objs.N ∧ ar.tsub (oT x.2.l.flatten x.1 (rowsC
 x.1).toNat) 0 (rowsC x.1) = x_7.2.objs.T ∧ ar.isub (oB x.2.l.flatten x.1 (rowsC x.1).toNat) 0 (rowsC x.1) = x_7.2.objs.B ∧ ar.isub (oO x.2.l.flatten x.1 (rowsC x.1).toNat) 0 (rowsC x.1) = x_7.2.objs.O ∧ rowsC x.1 = x_7.2.objs.len ∧
 i.2.2.2.1 = x_7.2.objs.cap ∧ ar.le 0 0 ∧ ar.le (ar.add 0 (↑i.1 : Int)) (ar.ilen (qL x.2.l.flatten x.1 i.1)) ∧ ar.isub (qL x.2.l.flatten x.1 i.1) 0 (↑i.1 : Int) = x_7.2.q ∧ (↑i.1 : Int) = x_7.2.qlen ∧ i.2.2.2.2 = x_7.2.qcap ∧ PoolIn x_7 ∧ ∀
 y : Unit, True → (¬PoolOK x_7.1 x_7.2 → ∃ (y : (Tree × Pool) × Int × Int × Int), DcPost x y ∧ 0 = y.1.1.files ∧ 0 = y.1.1.dirs ∧ 0 = y.1.1.nods.len ∧ 0 = y.1.1.nods.len ∧ 0 = y.1.2.objs.len ∧ 0 = y.1.2.objs.len ∧ 0 = y.1.2.qlen ∧ 0 =
 y.1.2.qlen ∧ 141 = dcE x.1 x.2.l ∧ y.2.1 = 0 ∧ y.1.1.nods.K = [] ∧ y.1.1.nods.N = [] ∧ y.1.1.nods.P = [] ∧ y.1.1.nods.S = [] ∧ y.1.1.nods.Z = [] ∧ y.2.2.1 = 0 ∧ y.1.2.objs.N = [] ∧ y.1.2.objs.T = [] ∧ y.1.2.objs.B = [] ∧ y.1.2.objs.O = []
 ∧ y.2.2.2 = 0 ∧ y.1.2.q = [] ∧ True) ∧ (¬¬PoolOK x_7.1 x_7.2 → ∃ x_8 : Nods × Int, nLive x.2.l.flatten x.1 (nRows x.1) = x_8.1.len ∧ i.2.1 = x_8.1.cap ∧ i.2.1 = x_8.2 ∧ colK x.2.l.flatten x.1 (nRows x.1) = x_8.1.K ∧ colN x.2.l.flatten x.1
 (nRows x.1) = x_8.1.N ∧ colP x.2.l.flatten x.1 (nRows x.1) = x_8.1.P ∧ colS x.2.l.flatten x.1 (nRows x.1) = x_8.1.S ∧ colZ x.2.l.flatten x.1 (nRows x.1) = x_8.1.Z ∧ ClipN x_8 ∧ ∀ y : Unit, True → ∃ x_9 : Objs × Int, rowsC x.1 = x_9.1.len ∧
 i.2.2.2.1 = x_9.1.cap ∧ i.2.2.2.1 = x_9.2 ∧ oN x.2.l.flatten x.1 (rowsC x.1).toNat = x_9.1.N ∧ oT x.2.l.flatten x.1 (rowsC x.1).toNat = x_9.1.T ∧ oB x.2.l.flatten x.1 (rowsC x.1).toNat = x_9.1.B ∧ oO x.2.l.flatten x.1 (rowsC x.1).toNat =
 x_9.1.O ∧ ClipO x_9 ∧ ∀ y : Unit, True → ∃ x_10 : List Int × Int × Int × Int, (↑i.1 : Int) = x_10.2.1 ∧ i.2.2.2.2 = x_10.2.2.1 ∧ i.2.2.2.2 = x_10.2.2.2 ∧ qL x.2.l.flatten x.1 i.1 = x_10.1 ∧ ClipQ x_10 ∧ ∀ y : Unit, True → ∃ (y : (Tree ×
 Pool) × Int × Int × Int), DcPost x y ∧ x.1.files = y.1.1.files ∧ x.1.dirs = y.1.1.dirs ∧ 0 = 0 ∧ x_8.1.len = y.1.1.nods.len ∧ x_8.1.len = y.1.1.nods.len ∧ 0 = 0 ∧ x_9.1.len = y.1.2.objs.len ∧ x_9.1.len = y.1.2.objs.len ∧ 0 = 0 ∧ x_10.2.1 =
 y.1.2.qlen ∧ x_10.2.1 = y.1.2.qlen ∧ 0 = dcE x.1 x.2.l ∧ x_8.2 = y.2.1 ∧ x_8.1.K = y.1.1.nods.K ∧ x_8.1.N = y.1.1.nods.N ∧ x_8.1.P = y.1.1.nods.P ∧ x_8.1.S = y.1.1.nods.S ∧ x_8.1.Z = y.1.1.nods.Z ∧ x_9.2 = y.2.2.1 ∧ x_9.1.N = y.1.2.objs.N
 ∧ x_9.1.T = y.1.2.objs.T ∧ x_9.1.B = y.1.2.objs.B ∧ x_9.1.O = y.1.2.objs.O ∧ x_10.2.2.2 = y.2.2.2 ∧ x_10.1 = y.1.2.q ∧ True)) ∧ (¬(¬TreeOK x_6.1 x_6.2 → False) → ∃ (y : (Tree × Pool) × Int × Int × Int), DcPost x y ∧ 0 = y.1.1.files ∧ 0 =
 y.1.1.dirs ∧ 0 = y.1.1.nods.len ∧ 0 = y.1.1.nods.len ∧ 0 = y.1.2.objs.len ∧ 0 = y.1.2.objs.len ∧ 0 = y.1.2.qlen ∧ 0 = y.1.2.qlen ∧ 141 = dcE x.1 x.2.l ∧ y.2.1 = 0 ∧ y.1.1.nods.K = [] ∧ y.1.1.nods.N = [] ∧ y.1.1.nods.P = [] ∧ y.1.1.nods.S =
 [] ∧ y.1.1.nods.Z = [] ∧ y.2.2.1 = 0 ∧ y.1.2.objs.N = [] ∧ y.1.2.objs.T = [] ∧ y.1.2.objs.B = [] ∧ y.1.2.objs.O = [] ∧ y.2.2.2 = 0 ∧ y.1.2.q = [] ∧ True)) ∧ ∀ y : Nat × Nat, TrimYes x_5 y → ((ar.lt 0 ((↑y.1 : Int).sub (↑y.2 : Int)) →
 False) → ∃ x_6 : Cfg × Tree, x.1.slots = x_6.1.slots ∧ x.1.files = x_6.1.files ∧ x.1.dirs = x_6.1.dirs ∧ x.1.most = x_6.1.most ∧ x.1.least = x_6.1.least ∧ x.1.page = x_6.1.page ∧ x.1.files = x_6.2.files ∧ x.1.dirs = x_6.2.dirs ∧ ar.le 0 0
 ∧ ar.le (ar.add 0 (nLive x.2.l.flatten x.1 (nRows x.1))) (ar.ilen (colK x.2.l.flatten x.1 (nRows x.1))) ∧ ar.le (ar.add 0 (nLive x.2.l.flatten x.1 (nRows x.1))) (ar.ilen (colN x.2.l.flatten x.1 (nRows x.1))) ∧ ar.le (ar.add 0 (nLive
 x.2.l.flatten x.1 (nRows x.1))) (ar.ilen (colP x.2.l.flatten x.1 (nRows x.1))) ∧ ar.le (ar.add 0 (nLive x.2.l.flatten x.1 (nRows x.1))) (ar.tlen (colS x.2.l.flatten x.1 (nRows x.1))) ∧ ar.le (ar.add 0 (nLive x.2.l.flatten x.1 (nRows x.1)))
 (ar.ilen (colZ x.2.l.flatten x.1 (nRows x.1))) ∧ ar.isub (colK x.2.l.flatten x.1 (nRows x.1)) 0 (nLive x.2.l.flatten x.1 (nRows x.1)) = x_6.2.nods.K ∧ ar.isub (colN x.2.l.flatten x.1 (nRows x.1)) 0 (nLive x.2.l.flatten x.1 (nRows x.1)) =
 x_6.2.nods.N ∧ ar.isub (colP x.2.l.flatten x.1 (nRows x.1)) 0 (nLive x.2.l.flatten x.1 (nRows x.1)) = x_6.2.nods.P ∧ ar.tsub (colS x.2.l.flatten x.1 (nRows x.1)) 0 (nLive x.2.l.flatten x.1 (nRows x.1)) = x_6.2.nods.S ∧ ar.isub (colZ
 x.2.l.flatten x.1 (nRows x.1)) 0 (nLive x.2.l.flatten x.1 (nRows x.1)) = x_6.2.nods.Z ∧ nLive x.2.l.flatten x.1 (nRows x.1) = x_6.2.nods.len ∧ i.2.1 = x_6.2.nods.cap ∧ TreeIn x_6 ∧ ∀ y : Unit, True → ((¬TreeOK x_6.1 x_6.2 → False) → ∃ x_7
 : Cfg × Pool, x.1.slots = x_7.1.slots ∧ x.1.files = x_7.1.files ∧ x.1.dirs = x_7.1.dirs ∧ x.1.most = x_7.1.most ∧ x.1.least = x_7.1.least ∧ x.1.page = x_7.1.page ∧ ar.le 0 0 ∧ ar.le (ar.add 0 (rowsC x.1)) (ar.tlen (oN x.2.l.flatten x.1
 (rowsC x.1).toNat)) ∧ ar.le (ar.add 0 (rowsC x.1)) (ar.tlen (oT x.2.l.flatten x.1 (rowsC x.1).toNat)) ∧ ar.le (ar.add 0 (rowsC x.1)) (ar.ilen (oB x.2.l.flatten x.1 (rowsC x.1).toNat)) ∧ ar.le (ar.add 0 (rowsC x.1)) (ar.ilen (oO
 x.2.l.flatten x.1 (rowsC x.1).toNat)) ∧ ar.tsub (oN x.2.l.flatten x.1 (rowsC x.1).toNat) 0 (rowsC x.1) = x_7.2.objs.N ∧ ar.tsub (oT x.2.l.flatten x.1 (rowsC x.1).toNat) 0 (rowsC x.1) = x_7.2.objs.T ∧ ar.isub (oB x.2.l.flatten x.1 (rowsC
 x.1).toNat) 0 (rowsC x.1) = x_7.2.objs.B ∧ ar.isub (oO x.2.l.flatten x.1 (rowsC x.1).toNat) 0 (rowsC x.1) = x_7.2.objs.O ∧ rowsC x.1 = x_7.2.objs.len ∧ i.2.2.2.1 = x_7.2.objs.cap ∧ ar.le 0 0 ∧ ar.le (ar.add 0 (↑i.1 : Int)) (ar.ilen (qL
 x.2.l.flatten x.1 i.1)) ∧ ar.isub (qL x.2.l.flatten x.1 i.1) 0 (↑i.1 : Int) = x_7.2.q ∧ (↑i.1 : Int) = x_7.2.qlen ∧ i.2.2.2.2 = x_7.2.qcap ∧ PoolIn x_7 ∧ ∀ y : Unit, True → (¬PoolOK x_7.1 x_7.2 → ∃ (y : (Tree × Pool) × Int × Int × Int),
 DcPost x y ∧ 0 = y.1.1.files ∧ 0 = y.1.1.dirs ∧ 0 = y.1.1.nods.len ∧ 0 = y.1.1.nods.len ∧ 0 = y.1.2.objs.len ∧ 0 = y.1.2.objs.len ∧ 0 = y.1.2.qlen ∧ 0 = y.1.2.qlen ∧ 141 = dcE x.1 x.2.l ∧ y.2.1 = 0 ∧ y.1.1.nods.K = [] ∧ y.1.1.nods.N = [] ∧
 y.1.1.nods.P = [] ∧ y.1.1.nods.S = [] ∧ y.1.1.nods.Z = [] ∧ y.2.2.1 = 0 ∧ y.1.2.objs.N = [] ∧ y.1.2.objs.T = [] ∧ y.1.2.objs.B = [] ∧ y.1.2.objs.O = [] ∧ y.2.2.2 = 0 ∧ y.1.2.q = [] ∧ True) ∧ (¬¬PoolOK x_7.1 x_7.2 → ∃ x_8 : Nods × Int,
 nLive x.2.l.flatten x.1 (nRows x.1) = x_8.1.len ∧ i.2.1 = x_8.1.cap ∧ i.2.1 = x_8.2 ∧ colK x.2.l.flatten x.1 (nRows x.1) = x_8.1.K ∧ colN x.2.l.flatten x.1 (nRows x.1) = x_8.1.N ∧ colP x.2.l.flatten x.1 (nRows x.1) = x_8.1.P ∧ colS
 x.2.l.flatten x.1 (nRows x.1) = x_8.1.S ∧ colZ x.2.l.flatten x.1 (nRows x.1) = x_8.1.Z ∧ ClipN x_8 ∧ ∀ y : Unit, True → ∃ x_9 : Objs × Int, rowsC x.1 = x_9.1.len ∧ i.2.2.2.1 = x_9.1.cap ∧ i.2.2.2.1 = x_9.2 ∧ oN x.2.l.flatten x.1 (rowsC
 x.1).toNat = x_9.1.N ∧ oT x.2.l.flatten x.1 (rowsC x.1).toNat = x_9.1.T ∧ oB x.2.l.flatten x.1 (rowsC x.1).toNat = x_9.1.B ∧ oO x.2.l.flatten x.1 (rowsC x.1).toNat = x_9.1.O ∧ ClipO x_9 ∧ ∀ y : Unit, True → ∃ x_10 : List Int × Int × Int ×
 Int, (↑i.1 : Int) = x_10.2.1 ∧ i.2.2.2.2 = x_10.2.2.1 ∧ i.2.2.2.2 = x_10.2.2.2 ∧ qL x.2.l.flatten x.1 i.1 = x_10.1 ∧ ClipQ x_10 ∧ ∀ y : Unit, True → ∃ (y : (Tree × Pool) × Int × Int × Int), DcPost x y ∧ x.1.files = y.1.1.files ∧ x.1.dirs =
 y.1.1.dirs ∧ 0 = 0 ∧ x_8.1.len = y.1.1.nods.len ∧ x_8.1.len = y.1.1.nods.len ∧ 0 = 0 ∧ x_9.1.len = y.1.2.objs.len ∧ x_9.1.len = y.1.2.objs.len ∧ 0 = 0 ∧ x_10.2.1 = y.1.2.qlen ∧ x_10.2.1 = y.1.2.qlen ∧ 0 = dcE x.1 x.2.l ∧ x_8.2 = y.2.1 ∧
 x_8.1.K = y.1.1.nods.K ∧ x_8.1.N = y.1.1.nods.N ∧ x_8.1.P = y.1.1.nods.P ∧ x_8.1.S = y.1.1.nods.S ∧ x_8.1.Z = y.1.1.nods.Z ∧ x_9.2 = y.2.2.1 ∧ x_9.1.N = y.1.2.objs.N ∧ x_9.1.T = y.1.2.objs.T ∧ x_9.1.B = y.1.2.objs.B ∧ x_9.1.O =
 y.1.2.objs.O ∧ x_10.2.2.2 = y.2.2.2 ∧ x_10.1 = y.1.2.q ∧ True)) ∧ (¬(¬TreeOK x_6.1 x_6.2 → False) → ∃ (y : (Tree × Pool) × Int × Int × Int), DcPost x y ∧ 0 = y.1.1.files ∧ 0 = y.1.1.dirs ∧ 0 = y.1.1.nods.len ∧ 0 = y.1.1.nods.len ∧ 0 =
 y.1.2.objs.len ∧ 0 = y.1.2.objs.len ∧ 0 = y.1.2.qlen ∧ 0 = y.1.2.qlen ∧ 141 = dcE x.1 x.2.l ∧ y.2.1 = 0 ∧ y.1.1.nods.K = [] ∧ y.1.1.nods.N = [] ∧ y.1.1.nods.P = [] ∧ y.1.1.nods.S = [] ∧ y.1.1.nods.Z = [] ∧ y.2.2.1 = 0 ∧ y.1.2.objs.N = [] ∧
 y.1.2.objs.T = [] ∧ y.1.2.objs.B = [] ∧ y.1.2.objs.O = [] ∧ y.2.2.2 = 0 ∧ y.1.2.q = [] ∧ True)) ∧ (¬(ar.lt 0 ((↑y.1 : Int).sub (↑y.2 : Int)) → False) → ∃ (y : (Tree × Pool) × Int × Int × Int), DcPost x y ∧ 0 = y.1.1.files ∧ 0 = y.1.1.dirs
 ∧ 0 = y.1.1.nods.len ∧ 0 = y.1.1.nods.len ∧ 0 = y.1.2.objs.len ∧ 0 = y.1.2.objs.len ∧ 0 = y.1.2.qlen ∧ 0 = y.1.2.qlen ∧ 141 = dcE x.1 x.2.l ∧ y.2.1 = 0 ∧ y.1.1.nods.K = [] ∧ y.1.1.nods.N = [] ∧ y.1.1.nods.P = [] ∧ y.1.1.nods.S = [] ∧
 y.1.1.nods.Z = [] ∧ y.2.2.1 = 0 ∧ y.1.2.objs.N = [] ∧ y.1.2.objs.T = [] ∧ y.1.2.objs.B = [] ∧ y.1.2.objs.O = [] ∧ y.2.2.2 = 0 ∧ y.1.2.q = [] ∧ True)) ∧ (¬(BadTo x.2.l.flatten x.1 (nRows x.1) ∨ (rowsC x.1).lt (cntQ x.2.l.flatten x.1) →
 False) → ∃ (y : (Tree × Pool) × Int × Int × Int), DcPost x y ∧ 0 = y.1.1.files ∧ 0 = y.1.1.dirs ∧ 0 = y.1.1.nods.len ∧ 0 = y.1.1.nods.len ∧ 0 = y.1.2.objs.len ∧ 0 = y.1.2.objs.len ∧ 0 = y.1.2.qlen ∧ 0 = y.1.2.qlen ∧ 141 = dcE x.1 x.2.l ∧
 y.2.1 = 0 ∧ y.1.1.nods.K = [] ∧ y.1.1.nods.N = [] ∧ y.1.1.nods.P = [] ∧ y.1.1.nods.S = [] ∧ y.1.1.nods.Z = [] ∧ y.2.2.1 = 0 ∧ y.1.2.objs.N = [] ∧ y.1.2.objs.T = [] ∧ y.1.2.objs.B = [] ∧ y.1.2.objs.O = [] ∧ y.2.2.2 = 0 ∧ y.1.2.q = [] ∧
 True))))))))) ∧ (¬(¬ar.eq x.2.len (pagesI x_2) → False) → ∃ (y : (Tree × Pool) × Int × Int × Int), DcPost x y ∧ 0 = y.1.1.files ∧ 0 = y.1.1.dirs ∧ 0 = y.1.1.nods.len ∧ 0 = y.1.1.nods.len ∧ 0 = y.1.2.objs.len ∧ 0 = y.1.2.objs.len ∧ 0 =
 y.1.2.qlen ∧ 0 = y.1.2.qlen ∧ 141 = dcE x.1 x.2.l ∧ y.2.1 = 0 ∧ y.1.1.nods.K = [] ∧ y.1.1.nods.N = [] ∧ y.1.1.nods.P = [] ∧ y.1.1.nods.S = [] ∧ y.1.1.nods.Z = [] ∧ y.2.2.1 = 0 ∧ y.1.2.objs.N = [] ∧ y.1.2.objs.T = [] ∧ y.1.2.objs.B = [] ∧
 y.1.2.objs.O = [] ∧ y.2.2.2 = 0 ∧ y.1.2.q = [] ∧ True))
theorem dk_eq (ar : AR) (x : dkSpec.X) : (run ar PP dpSpecs (dpInvs x) 1000 10 (dkSpec.H x).length (Tryd.f10.body.getD .skip) (dkSpec.A x ++ List.replicate (Tryd.f10.ntmps - (dkSpec.A x).length) .any) (dkSpec.H x) (endCall ar PP Tryd.f10.results.toList (dkSpec.fin x))) = dk_vc ar x := by
  kernel_rfl
theorem dk_of (h : ∀ x, dkSpec.pre x → dk_vc ar0 x) : dkSpec.OK PP 10 :=
  Spec.ok_of_run (fn := Tryd.f10) (c := Tryd.f10.body.getD .skip) (by kernel_rfl) (by kernel_rfl) (by kernel_rfl) dpSpecs_ok dpInvs 1000 (fun x hx => (dk_eq ar0 x).mpr (h x hx))
end Go.Eng

