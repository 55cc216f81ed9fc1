/- Index: Decode. -/
import Derived.Test.YtfcjboomlfjanaaDoorIxG
import Derived.Test.YtfcjboomlfjanaaDoorIxF
set_option linter.unusedVariables false
set_option linter.unusedSimpArgs false

namespace Go.PL
structure BadTo (s : List UInt8) (c : Cfg) (n : Nat) : Prop where
  ex : ∃ p, p < n ∧ BadRow (imR s c p) (kndR c p)
structure Dp0 (x : Cfg × Txts) (i : Nat × Int) : Prop where
  le : i.1 ≤ x.2.l.length
  cap : ((x.2.l.take i.1).flatten.length : Int) ≤ i.2
structure Dp1 (x : Cfg × Txts) (i : Nat × Int × Int) : Prop where
  le : (i.1 : Int) ≤ x.1.dirs
  cap : nLive x.2.l.flatten x.1 i.1 ≤ i.2.1
  bcap : (x.2.l.flatten.length : Int) ≤ i.2.2
structure Dp2 (x : Cfg × Txts) (i : Nat × Int × Int) : Prop where
  le : (i.1 : Int) ≤ x.1.files
  cap : nLive x.2.l.flatten x.1 (x.1.dirs.toNat + i.1) ≤ i.2.1
  bcap : (x.2.l.flatten.length : Int) ≤ i.2.2
structure Dp3 (x : Cfg × Txts) (i : Nat × Int × Int × Int) : Prop where
  le : (i.1 : Int) ≤ rowsC x.1
  cap : nLive x.2.l.flatten x.1 (nRows x.1) ≤ i.2.1
  bcap : (x.2.l.flatten.length : Int) ≤ i.2.2.1
  cap2 : (i.1 : Int) ≤ i.2.2.2
structure Dp4 (x : Cfg × Txts) (i : Nat × Int × Int × Int × Int) : Prop where
  le : (i.1 : Int) ≤ cntP x.2.l.flatten x.1
  cap : nLive x.2.l.flatten x.1 (nRows x.1) ≤ i.2.1
  bcap : (x.2.l.flatten.length : Int) ≤ i.2.2.1
  cap2 : rowsC x.1 ≤ i.2.2.2.1
  cap3 : (i.1 : Int) ≤ i.2.2.2.2
structure Yes (u : Unit) : Prop where
  any : True
theorem badTo_succ {s : List UInt8} {c : Cfg} {n : Nat} : BadTo s c (n + 1) ↔ BadTo s c n ∨ BadRow (imR s c n) (kndR c n) := by
  constructor
  · rintro ⟨p, hp, h⟩
    by_cases e : p = n
    · subst e; exact .inr h
    · exact .inl ⟨p, by omega, h⟩
  · rintro (⟨p, hp, h⟩ | h)
    · exact ⟨p, by omega, h⟩
    · exact ⟨n, by omega, h⟩
theorem badTo_zero {s : List UInt8} {c : Cfg} : ¬ BadTo s c 0 := fun ⟨p, hp, _⟩ => by omega
end Go.PL
set_option linter.unusedSectionVars false
set_option linter.unusedSimpArgs false
set_option linter.unusedVariables false
namespace Go.Eng
variable [CW : CWorld]
open Go.Proofs Go.PL
set_option maxRecDepth 100000
attribute [local irreducible] run
def imgAt (s : List UInt8) (k cap : Int) (bad : Prop) : Blk := imgB 5 (.x 0 1 k 0) (s.length - k) (cap - k) bad
def dp0 (x : Cfg × Txts) : Code → List SV → List Blk → List Inv := fun b fr hp => [
  { ι := Nat × Int, fr := fun i => only b fr 10 [44, 45] [(46, .int .i64 (.x (i.1 : Int)))],
    hp := fun i => [hp.getD 0 .gone, hp.getD 1 .gone, hp.getD 2 .gone, hp.getD 3 .gone, imgB 5 (.l 0) (((x.2.l.take i.1).flatten).length : Int) i.2 False, bytesB (x.2.l.take i.1).flatten i.2], μ := fun i => x.2.l.length - i.1, ok := fun i => PL.Dp0 x i }]
def dp1 (x : Cfg × Txts) : Code → List SV → List Blk → List Inv := fun b fr hp => [
  { ι := Nat × Int × Int, fr := fun i => only b fr 13 [] [(13, .int .i64 (.x (i.1 + 1 : Int)))],
    hp := fun i => [hp.getD 0 .gone, hp.getD 1 .gone, hp.getD 2 .gone, hp.getD 3 .gone, imgAt x.2.l.flatten (36 * i.1 : Int) i.2.2 (PL.BadTo x.2.l.flatten x.1 i.1), bytesB x.2.l.flatten i.2.2, treeB 7 x.1 (PL.nLive x.2.l.flatten x.1 i.1) i.2.1, nodsB (PL.nodsP x.2.l.flatten x.1 i.1 i.2.1)],
    μ := fun i => x.1.dirs.toNat - i.1, ok := fun i => PL.Dp1 x i }]
def dp2 (x : Cfg × Txts) : Code → List SV → List Blk → List Inv := fun b fr hp => [
  { ι := Nat × Int × Int, fr := fun i => only b fr 13 [84] [(85, .int .i64 (.x (i.1 : Int)))],
    hp := fun i => [hp.getD 0 .gone, hp.getD 1 .gone, hp.getD 2 .gone, hp.getD 3 .gone, imgAt x.2.l.flatten (36 * x.1.dirs + 40 * i.1 : Int) i.2.2 (PL.BadTo x.2.l.flatten x.1 (x.1.dirs.toNat + i.1)), bytesB x.2.l.flatten i.2.2, treeB 7 x.1 (PL.nLive x.2.l.flatten x.1 (x.1.dirs.toNat + i.1)) i.2.1, nodsB (PL.nodsP x.2.l.flatten x.1 (x.1.dirs.toNat + i.1) i.2.1)],
    μ := fun i => x.1.files.toNat - i.1, ok := fun i => PL.Dp2 x i }]
def dp3 (x : Cfg × Txts) : Code → List SV → List Blk → List Inv := fun b fr hp => [
  { ι := Nat × Int × Int × Int, fr := fun i => only b fr 18 [106] [(107, .int .i64 (.x (i.1 : Int)))],
    hp := fun i => [hp.getD 0 .gone, hp.getD 1 .gone, hp.getD 2 .gone, hp.getD 3 .gone, imgAt x.2.l.flatten (PL.offO x.1 + 40 * i.1 : Int) i.2.2.1 (PL.BadTo x.2.l.flatten x.1 (PL.nRows x.1)), bytesB x.2.l.flatten i.2.2.1, treeB 7 x.1 (PL.nLive x.2.l.flatten x.1 (PL.nRows x.1)) i.2.1, nodsB (PL.nodsP x.2.l.flatten x.1 (PL.nRows x.1) i.2.1), poolB (.slc 9 (.l 0) (.x (i.1 : Int)) (.x i.2.2.2)) .nslc, objsB (objsXn x.2.l.flatten x.1 i.1 i.2.2.2)],
    μ := fun i => (PL.rowsC x.1).toNat - i.1, ok := fun i => PL.Dp3 x i }]
def imgK : Blk → Int
  | .mk _ [.one (.slc _ (.x _ _ e _) _ _), _] => e
  | _ => 0
def imgBad : Blk → Prop
  | .mk _ [_, .one (.bool (.x p))] => p
  | _ => False
def capB : Blk → Int
  | .mk _ [.arr (.x c) _] => c
  | _ => 0
def dpCut (x : Cfg × Txts) : Code → List SV → List Blk → List Inv := fun b fr hp => [
  { ι := Unit, fr := fun i => only b fr 18 [106, 107] [(18, .ptr 10 (.l 0))],
    hp := fun i => [hp.getD 0 .gone, hp.getD 1 .gone, hp.getD 2 .gone, hp.getD 3 .gone, imgAt x.2.l.flatten (imgK (hp.getD 4 .gone) + 36) (capB (hp.getD 5 .gone)) (imgBad (hp.getD 4 .gone)), hp.getD 5 .gone, hp.getD 6 .gone, hp.getD 7 .gone, hp.getD 8 .gone, hp.getD 9 .gone,
      .mk 51 [.one (.str (dropk x.2.l.flatten (imgK (hp.getD 4 .gone)) 16)), .one (.str (dropk x.2.l.flatten (imgK (hp.getD 4 .gone) + 16) 16)), .one (.int .i64 (.x (numB (dropk x.2.l.flatten (imgK (hp.getD 4 .gone) + 32) 4)))), .one (.int .i64 (.l 0))]],
    μ := fun i => 0, ok := fun i => PL.Yes i }]
def dp4 (x : Cfg × Txts) : Code → List SV → List Blk → List Inv := fun b fr hp => [
  { ι := Nat × Int × Int × Int × Int, fr := fun i => only b fr 19 [] [(19, .int .i64 (.x (PL.cntP x.2.l.flatten x.1))), (139, .int .i64 (.x (PL.cntP x.2.l.flatten x.1))), (140, .int .i64 (.x (i.1 : Int)))],
    hp := fun i => [hp.getD 0 .gone, hp.getD 1 .gone, hp.getD 2 .gone, hp.getD 3 .gone, imgAt x.2.l.flatten (PL.offQ x.1 + 4 + 4 * i.1 : Int) i.2.2.1 (PL.BadTo x.2.l.flatten x.1 (PL.nRows x.1) ∨ PL.rowsC x.1 < PL.cntQ x.2.l.flatten x.1), bytesB x.2.l.flatten i.2.2.1, treeB 7 x.1 (PL.nLive x.2.l.flatten x.1 (PL.nRows x.1)) i.2.1, nodsB (PL.nodsP x.2.l.flatten x.1 (PL.nRows x.1) i.2.1),
      poolB (.slc 9 (.l 0) (.x (PL.rowsC x.1)) (.x i.2.2.2.1)) (.slc 10 (.l 0) (.x (i.1 : Int)) (.x i.2.2.2.2)), objsB (PL.objsX x.2.l.flatten x.1 i.2.2.2.1), qB (PL.qL x.2.l.flatten x.1 i.1) i.2.2.2.2],
    μ := fun i => (PL.cntP x.2.l.flatten x.1).toNat - i.1, ok := fun i => PL.Dp4 x i }]
def dpInvs (x : Cfg × Txts) : Invs := fun f n => match f, n with
  | 10, 9 => some (dp0 x)
  | 10, 15 => some (dp1 x)
  | 10, 21 => some (dp2 x)
  | 10, 29 => some (dp3 x)
  | 10, 38 => some (dp4 x)
  | 10, 1000030 => some (dpCut x)
  | _, _ => none
noncomputable def dpSpecs : Specs := fun f a h => match f with
  | 2 => some lateMark
  | 29 => some clenSpec
  | 31 => some rowRSpec
  | 32 => some takeSpec
  | 33 => some numberSpec
  | 34 => some trimSpec
  | 35 => some treeSpec
  | 36 => some poolSpec
  | 37 => some clipN
  | 38 => some clipO
  | 39 => some clipQ
  | _ => eSpecs f a h
theorem dpSpecs_ok : SpecsOK PP dpSpecs := by
  intro CW f xs _ S h
  unfold dpSpecs at h
  split at h
  · cases h; exact lateMark_ok
  · cases h; exact clenSpec_ok
  · cases h; exact rowRSpec_ok
  · cases h; exact takeSpec_ok
  · cases h; exact numberSpec_ok
  · cases h; exact trimSpec_ok
  · cases h; exact itree_ok
  · cases h; exact ipool_ok
  · cases h; exact clipN_ok
  · cases h; exact clipO_ok
  · cases h; exact clipQ_ok
  · exact eSpecs_ok CW _ _ _ _ h
def dc_vc (ar : AR) (x : dcSpec.X) : Prop :=
  ∃ (x_1 : Cfg), x.fst.slots = x_1.slots ∧ x.fst.files = x_1.files ∧ x.fst.dirs = x_1.dirs ∧ x.fst.most = x_1.most ∧ x.fst.least = x_1.least ∧ x.fst.page = x_1.page ∧ CfgAny x_1 ∧
  ∀ (y : Unit), True → (¬ar.eq (chk x_1) 0 → ∃ (y : (Tree × Pool) × Int × Int × Int), DcPost x y ∧ 0 = y.fst.fst.files ∧ 0 = y.fst.fst.dirs ∧ 0 = y.fst.fst.nods.len ∧ 0 =
  y.fst.fst.nods.cap ∧ 0 = y.fst.snd.objs.len ∧ 0 = y.fst.snd.objs.cap ∧ 0 = y.fst.snd.qlen ∧ 0 = y.fst.snd.qcap ∧ chk x_1 = dcE x.fst x.snd.l ∧ y.2.fst = 0 ∧ y.fst.fst.nods.K = []
  ∧ y.fst.fst.nods.N = [] ∧ y.fst.fst.nods.P = [] ∧ y.fst.fst.nods.S = [] ∧ y.fst.fst.nods.Z = [] ∧ y.snd.snd.fst = 0 ∧ y.fst.snd.objs.N = [] ∧ y.fst.snd.objs.T = [] ∧
  y.fst.snd.objs.B = [] ∧ y.fst.snd.objs.O = [] ∧ y.snd.snd.snd = 0 ∧ y.fst.snd.q = [] ∧ True) ∧ (¬¬ar.eq (chk x_1) 0 → ∀ (z : Int), z = ar.wrap IntKind.i64 (ar.sub x.fst.page 5) →
  ∃ (x_2 : Cfg), x.fst.slots = x_2.slots ∧ x.fst.files = x_2.files ∧ x.fst.dirs = x_2.dirs ∧ x.fst.most = x_2.most ∧ x.fst.least = x_2.least ∧ x.fst.page = x_2.page ∧ CfgIn x_2 ∧ ∀
  (y : Unit), True → ((¬ar.eq x.snd.len (pagesI x_2) → False) → ∃ (x_3 : Txts × Int), x.snd.l = x_3.1.l ∧ x.snd.len = x_3.1.len ∧ x.snd.cap = x_3.1.cap ∧ z = x_3.snd ∧ LensIn x_3 ∧
  ∀ (y : Unit), True → (¬AllLen x_3.1.l x_3.snd → ∃ (y : (Tree × Pool) × Int × Int × Int), DcPost x y ∧ 0 = y.fst.fst.files ∧ 0 = y.fst.fst.dirs ∧ 0 = y.fst.fst.nods.len ∧ 0 =
  y.fst.fst.nods.cap ∧ 0 = y.fst.snd.objs.len ∧ 0 = y.fst.snd.objs.cap ∧ 0 = y.fst.snd.qlen ∧ 0 = y.fst.snd.qcap ∧ 141 = dcE x.fst x.snd.l ∧ y.2.fst = 0 ∧ y.fst.fst.nods.K = [] ∧
  y.fst.fst.nods.N = [] ∧ y.fst.fst.nods.P = [] ∧ y.fst.fst.nods.S = [] ∧ y.fst.fst.nods.Z = [] ∧ y.snd.snd.fst = 0 ∧ y.fst.snd.objs.N = [] ∧ y.fst.snd.objs.T = [] ∧
  y.fst.snd.objs.B = [] ∧ y.fst.snd.objs.O = [] ∧ y.snd.snd.snd = 0 ∧ y.fst.snd.q = [] ∧ True) ∧ (¬¬AllLen x_3.1.l x_3.snd → (∃ (i : Nat × Int), Dp0 x i ∧ x.fst.slots = x.fst.slots
  ∧ x.fst.files = x.fst.files ∧ x.fst.dirs = x.fst.dirs ∧ x.fst.most = x.fst.most ∧ x.fst.least = x.fst.least ∧ x.fst.page = x.fst.page ∧ x.snd.l = x.snd.l ∧ x.snd.len = x.snd.len
  ∧ x.snd.cap = x.snd.cap ∧ chk x_1 = chk x_1 ∧ x.snd.l = x.snd.l ∧ x.snd.len = x.snd.len ∧ x.snd.cap = x.snd.cap ∧ x.snd.len = x.snd.len ∧ 0 = (↑i.fst : Int) ∧ x.fst.slots =
  x.fst.slots ∧ x.fst.files = x.fst.files ∧ x.fst.dirs = x.fst.dirs ∧ x.fst.most = x.fst.most ∧ x.fst.least = x.fst.least ∧ x.fst.page = x.fst.page ∧ x_3.snd = x_3.snd ∧ 0 =
  (↑(List.take i.fst x.snd.l).flatten.length : Int) ∧ 0 = i.snd ∧ (false = true ↔ False) ∧ i.snd = 0 ∧ ints (List.take i.fst x.snd.l).flatten = [] ∧ True) ∧ ∀ (i : Nat × Int), Dp0
  x i → (ar.lt (↑i.fst : Int) x.snd.len → ar.le 0 (↑i.fst : Int) ∧ ar.lt (↑i.fst : Int) x.snd.len ∧ ar.le (ar.add 0 (↑(List.take i.fst x.snd.l).flatten.length : Int)) (ar.ilen
  (ints (List.take i.fst x.snd.l).flatten)) ∧ i.snd = i.snd ∧ ar.le (ar.mul (ar.add (↑(List.take i.fst x.snd.l).flatten.length : Int) (ar.slen (ar.tget x.snd.l (↑i.fst : Int)))) 1)
  140737488355328 ∧ ∀ (c : Int), ar.le (ar.add (↑(List.take i.fst x.snd.l).flatten.length : Int) (ar.slen (ar.tget x.snd.l (↑i.fst : Int)))) c → ∀ (z : Int), z = ar.wrap
  IntKind.i64 (ar.add (↑i.fst : Int) 1) → ∃ (j : Nat × Int), Dp0 x j ∧ (x.snd.l.length.sub j.fst).lt (x.snd.l.length.sub i.fst) ∧ x.fst.slots = x.fst.slots ∧ x.fst.files =
  x.fst.files ∧ x.fst.dirs = x.fst.dirs ∧ x.fst.most = x.fst.most ∧ x.fst.least = x.fst.least ∧ x.fst.page = x.fst.page ∧ x.snd.l = x.snd.l ∧ x.snd.len = x.snd.len ∧ x.snd.cap =
  x.snd.cap ∧ chk x_1 = chk x_1 ∧ x.snd.l = x.snd.l ∧ x.snd.len = x.snd.len ∧ x.snd.cap = x.snd.cap ∧ x.snd.len = x.snd.len ∧ z = (↑j.fst : Int) ∧ x.fst.slots = x.fst.slots ∧
  x.fst.files = x.fst.files ∧ x.fst.dirs = x.fst.dirs ∧ x.fst.most = x.fst.most ∧ x.fst.least = x.fst.least ∧ x.fst.page = x.fst.page ∧ x_3.snd = x_3.snd ∧ ar.add (↑(List.take
  i.fst x.snd.l).flatten.length : Int) (ar.slen (ar.tget x.snd.l (↑i.fst : Int))) = (↑(List.take j.fst x.snd.l).flatten.length : Int) ∧ c = j.snd ∧ (False ↔ False) ∧ c = j.snd ∧
  ar.iapp (ar.isub (ints (List.take i.fst x.snd.l).flatten) 0 (↑(List.take i.fst x.snd.l).flatten.length : Int)) (ar.isub (ar.ints (ar.tget x.snd.l (↑i.fst : Int))) 0 (ar.slen
  (ar.tget x.snd.l (↑i.fst : Int)))) = ints (List.take j.fst x.snd.l).flatten ∧ True) ∧ (¬ar.lt (↑i.fst : Int) x.snd.len → (∃ (i_1 : Nat × Int × Int), Dp1 x i_1 ∧ x.fst.slots =
  x.fst.slots ∧ x.fst.files = x.fst.files ∧ x.fst.dirs = x.fst.dirs ∧ x.fst.most = x.fst.most ∧ x.fst.least = x.fst.least ∧ x.fst.page = x.fst.page ∧ x.snd.l = x.snd.l ∧ x.snd.len
  = x.snd.len ∧ x.snd.cap = x.snd.cap ∧ chk x_1 = chk x_1 ∧ 1 = (↑i_1.fst : Int).add 1 ∧ x.fst.slots = x.fst.slots ∧ x.fst.files = x.fst.files ∧ x.fst.dirs = x.fst.dirs ∧
  x.fst.most = x.fst.most ∧ x.fst.least = x.fst.least ∧ x.fst.page = x.fst.page ∧ x_3.snd = x_3.snd ∧ 0 = (Nat.add 0 ((Int.mul 36 (↑i_1.fst : Int)).toNat.mul 1)).add 0 ∧
  (↑(List.take i.fst x.snd.l).flatten.length : Int) = (↑x.snd.l.flatten.length : Int).sub (Int.mul 36 (↑i_1.fst : Int)) ∧ i.snd = i_1.2.snd.sub (Int.mul 36 (↑i_1.fst : Int)) ∧
  (False ↔ BadTo x.snd.l.flatten x.fst i_1.fst) ∧ i.snd = i_1.2.snd ∧ ints (List.take i.fst x.snd.l).flatten = ints x.snd.l.flatten ∧ x.fst.files = x.fst.files ∧ x.fst.dirs =
  x.fst.dirs ∧ 0 = nLive x.snd.l.flatten x.fst i_1.fst ∧ 0 = i_1.2.fst ∧ i_1.2.fst = 0 ∧ colK x.snd.l.flatten x.fst i_1.fst = [] ∧ colN x.snd.l.flatten x.fst i_1.fst = [] ∧ colP
  x.snd.l.flatten x.fst i_1.fst = [] ∧ colS x.snd.l.flatten x.fst i_1.fst = [] ∧ colZ x.snd.l.flatten x.fst i_1.fst = [] ∧ True) ∧ ∀ (i : Nat × Int × Int), Dp1 x i → (ar.le
  ((↑i.fst : Int).add 1) x.fst.dirs → ∃ (x_4 : RImg × Int × Int), 1 = x_4.2.fst ∧ (↑i.fst : Int).add 1 = x_4.2.snd ∧ (Nat.add 0 ((Int.mul 36 (↑i.fst : Int)).toNat.mul 1)).add 0 =
  (Nat.add 0 ((x_4.1.k.add 0).toNat.mul 1)).add 0 ∧ (↑x.snd.l.flatten.length : Int).sub (Int.mul 36 (↑i.fst : Int)) = (↑x_4.1.l.length : Int).sub (x_4.1.k.add 0) ∧ i.2.snd.sub
  (Int.mul 36 (↑i.fst : Int)) = x_4.1.cap.sub (x_4.1.k.add 0) ∧ (BadTo x.snd.l.flatten x.fst i.fst ↔ x_4.1.3) ∧ i.2.snd = x_4.1.cap ∧ ints x.snd.l.flatten = ints x_4.1.l ∧ NRowIn
  x_4 ∧ ∀ (y : Unit), True → (¬ar.eq (rdK x_4.fst x_4.2.fst) 0 → ar.le (ar.add 0 (nLive x.snd.l.flatten x.fst i.fst)) (ar.ilen (colK x.snd.l.flatten x.fst i.fst)) ∧ ar.le (ar.add 0
  (nLive x.snd.l.flatten x.fst i.fst)) (ar.ilen (colN x.snd.l.flatten x.fst i.fst)) ∧ ar.le (ar.add 0 (nLive x.snd.l.flatten x.fst i.fst)) (ar.ilen (colP x.snd.l.flatten x.fst
  i.fst)) ∧ ar.le (ar.add 0 (nLive x.snd.l.flatten x.fst i.fst)) (ar.tlen (colS x.snd.l.flatten x.fst i.fst)) ∧ ar.le (ar.add 0 (nLive x.snd.l.flatten x.fst i.fst)) (ar.ilen (colZ
  x.snd.l.flatten x.fst i.fst)) ∧ i.2.fst = i.2.fst ∧ ar.le (ar.mul (ar.add (nLive x.snd.l.flatten x.fst i.fst) 1) 48) 140737488355328 ∧ ∀ (c : Int), ar.le (ar.add (nLive
  x.snd.l.flatten x.fst i.fst) 1) c → ∀ (z : Int), z = ar.wrap IntKind.i64 (ar.add ((↑i.fst : Int).add 1) 1) → ∃ (j : Nat × Int × Int), Dp1 x j ∧ (x.fst.dirs.toNat.sub j.fst).lt
  (x.fst.dirs.toNat.sub i.fst) ∧ x.fst.slots = x.fst.slots ∧ x.fst.files = x.fst.files ∧ x.fst.dirs = x.fst.dirs ∧ x.fst.most = x.fst.most ∧ x.fst.least = x.fst.least ∧ x.fst.page
  = x.fst.page ∧ x.snd.l = x.snd.l ∧ x.snd.len = x.snd.len ∧ x.snd.cap = x.snd.cap ∧ chk x_1 = chk x_1 ∧ z = (↑j.fst : Int).add 1 ∧ x.fst.slots = x.fst.slots ∧ x.fst.files =
  x.fst.files ∧ x.fst.dirs = x.fst.dirs ∧ x.fst.most = x.fst.most ∧ x.fst.least = x.fst.least ∧ x.fst.page = x.fst.page ∧ x_3.snd = x_3.snd ∧ (Nat.add 0 ((x_4.1.k.add (rsz
  x_4.2.fst)).toNat.mul 1)).add 0 = (Nat.add 0 ((Int.mul 36 (↑j.fst : Int)).toNat.mul 1)).add 0 ∧ (↑x_4.1.l.length : Int).sub (x_4.1.k.add (rsz x_4.2.fst)) =
  (↑x.snd.l.flatten.length : Int).sub (Int.mul 36 (↑j.fst : Int)) ∧ x_4.1.cap.sub (x_4.1.k.add (rsz x_4.2.fst)) = j.2.snd.sub (Int.mul 36 (↑j.fst : Int)) ∧ (x_4.1.bad ∨ BadRow
  x_4.fst x_4.2.fst ↔ BadTo x.snd.l.flatten x.fst j.fst) ∧ x_4.1.cap = j.2.snd ∧ ints x_4.1.l = ints x.snd.l.flatten ∧ x.fst.files = x.fst.files ∧ x.fst.dirs = x.fst.dirs ∧ ar.add
  (nLive x.snd.l.flatten x.fst i.fst) 1 = nLive x.snd.l.flatten x.fst j.fst ∧ c = j.2.fst ∧ c = j.2.fst ∧ ar.iapp (ar.isub (colK x.snd.l.flatten x.fst i.fst) 0 (nLive
  x.snd.l.flatten x.fst i.fst)) [rdK x_4.fst x_4.2.fst] = colK x.snd.l.flatten x.fst j.fst ∧ ar.iapp (ar.isub (colN x.snd.l.flatten x.fst i.fst) 0 (nLive x.snd.l.flatten x.fst
  i.fst)) [rdN x_4.fst x_4.2.snd] = colN x.snd.l.flatten x.fst j.fst ∧ ar.iapp (ar.isub (colP x.snd.l.flatten x.fst i.fst) 0 (nLive x.snd.l.flatten x.fst i.fst)) [rdP x_4.fst] =
  colP x.snd.l.flatten x.fst j.fst ∧ ar.tapp (ar.tsub (colS x.snd.l.flatten x.fst i.fst) 0 (nLive x.snd.l.flatten x.fst i.fst)) [rdS x_4.fst] = colS x.snd.l.flatten x.fst j.fst ∧
  ar.iapp (ar.isub (colZ x.snd.l.flatten x.fst i.fst) 0 (nLive x.snd.l.flatten x.fst i.fst)) [rdZ x_4.fst x_4.2.fst] = colZ x.snd.l.flatten x.fst j.fst ∧ True) ∧ (¬¬ar.eq (rdK
  x_4.fst x_4.2.fst) 0 → ∀ (z : Int), z = ar.wrap IntKind.i64 (ar.add ((↑i.fst : Int).add 1) 1) → ∃ (j : Nat × Int × Int), Dp1 x j ∧ (x.fst.dirs.toNat.sub j.fst).lt
  (x.fst.dirs.toNat.sub i.fst) ∧ x.fst.slots = x.fst.slots ∧ x.fst.files = x.fst.files ∧ x.fst.dirs = x.fst.dirs ∧ x.fst.most = x.fst.most ∧ x.fst.least = x.fst.least ∧ x.fst.page
  = x.fst.page ∧ x.snd.l = x.snd.l ∧ x.snd.len = x.snd.len ∧ x.snd.cap = x.snd.cap ∧ chk x_1 = chk x_1 ∧ z = (↑j.fst : Int).add 1 ∧ x.fst.slots = x.fst.slots ∧ x.fst.files =
  x.fst.files ∧ x.fst.dirs = x.fst.dirs ∧ x.fst.most = x.fst.most ∧ x.fst.least = x.fst.least ∧ x.fst.page = x.fst.page ∧ x_3.snd = x_3.snd ∧ (Nat.add 0 ((x_4.1.k.add (rsz
  x_4.2.fst)).toNat.mul 1)).add 0 = (Nat.add 0 ((Int.mul 36 (↑j.fst : Int)).toNat.mul 1)).add 0 ∧ (↑x_4.1.l.length : Int).sub (x_4.1.k.add (rsz x_4.2.fst)) =
  (↑x.snd.l.flatten.length : Int).sub (Int.mul 36 (↑j.fst : Int)) ∧ x_4.1.cap.sub (x_4.1.k.add (rsz x_4.2.fst)) = j.2.snd.sub (Int.mul 36 (↑j.fst : Int)) ∧ (x_4.1.bad ∨ BadRow
  x_4.fst x_4.2.fst ↔ BadTo x.snd.l.flatten x.fst j.fst) ∧ x_4.1.cap = j.2.snd ∧ ints x_4.1.l = ints x.snd.l.flatten ∧ x.fst.files = x.fst.files ∧ x.fst.dirs = x.fst.dirs ∧ nLive
  x.snd.l.flatten x.fst i.fst = nLive x.snd.l.flatten x.fst j.fst ∧ i.2.fst = j.2.fst ∧ i.2.fst = j.2.fst ∧ colK x.snd.l.flatten x.fst i.fst = colK x.snd.l.flatten x.fst j.fst ∧
  colN x.snd.l.flatten x.fst i.fst = colN x.snd.l.flatten x.fst j.fst ∧ colP x.snd.l.flatten x.fst i.fst = colP x.snd.l.flatten x.fst j.fst ∧ colS x.snd.l.flatten x.fst i.fst =
  colS x.snd.l.flatten x.fst j.fst ∧ colZ x.snd.l.flatten x.fst i.fst = colZ x.snd.l.flatten x.fst j.fst ∧ True)) ∧ (¬ar.le ((↑i.fst : Int).add 1) x.fst.dirs → (∃ (i_1 : Nat × Int
  × Int), Dp2 x i_1 ∧ x.fst.slots = x.fst.slots ∧ x.fst.files = x.fst.files ∧ x.fst.dirs = x.fst.dirs ∧ x.fst.most = x.fst.most ∧ x.fst.least = x.fst.least ∧ x.fst.page =
  x.fst.page ∧ x.snd.l = x.snd.l ∧ x.snd.len = x.snd.len ∧ x.snd.cap = x.snd.cap ∧ chk x_1 = chk x_1 ∧ x.fst.files = x.fst.files ∧ 0 = (↑i_1.fst : Int) ∧ x.fst.slots = x.fst.slots
  ∧ x.fst.files = x.fst.files ∧ x.fst.dirs = x.fst.dirs ∧ x.fst.most = x.fst.most ∧ x.fst.least = x.fst.least ∧ x.fst.page = x.fst.page ∧ x_3.snd = x_3.snd ∧ (Nat.add 0 ((Int.mul
  36 (↑i.fst : Int)).toNat.mul 1)).add 0 = (Nat.add 0 (((Int.mul 36 x.fst.dirs).add (Int.mul 40 (↑i_1.fst : Int))).toNat.mul 1)).add 0 ∧ (↑x.snd.l.flatten.length : Int).sub
  (Int.mul 36 (↑i.fst : Int)) = (↑x.snd.l.flatten.length : Int).sub ((Int.mul 36 x.fst.dirs).add (Int.mul 40 (↑i_1.fst : Int))) ∧ i.2.snd.sub (Int.mul 36 (↑i.fst : Int)) =
  i_1.2.snd.sub ((Int.mul 36 x.fst.dirs).add (Int.mul 40 (↑i_1.fst : Int))) ∧ (BadTo x.snd.l.flatten x.fst i.fst ↔ BadTo x.snd.l.flatten x.fst (x.fst.dirs.toNat.add i_1.fst)) ∧
  i.2.snd = i_1.2.snd ∧ ints x.snd.l.flatten = ints x.snd.l.flatten ∧ x.fst.files = x.fst.files ∧ x.fst.dirs = x.fst.dirs ∧ nLive x.snd.l.flatten x.fst i.fst = nLive
  x.snd.l.flatten x.fst (x.fst.dirs.toNat.add i_1.fst) ∧ i.2.fst = i_1.2.fst ∧ i.2.fst = i_1.2.fst ∧ colK x.snd.l.flatten x.fst i.fst = colK x.snd.l.flatten x.fst
  (x.fst.dirs.toNat.add i_1.fst) ∧ colN x.snd.l.flatten x.fst i.fst = colN x.snd.l.flatten x.fst (x.fst.dirs.toNat.add i_1.fst) ∧ colP x.snd.l.flatten x.fst i.fst = colP
  x.snd.l.flatten x.fst (x.fst.dirs.toNat.add i_1.fst) ∧ colS x.snd.l.flatten x.fst i.fst = colS x.snd.l.flatten x.fst (x.fst.dirs.toNat.add i_1.fst) ∧ colZ x.snd.l.flatten x.fst
  i.fst = colZ x.snd.l.flatten x.fst (x.fst.dirs.toNat.add i_1.fst) ∧ True) ∧ ∀ (i : Nat × Int × Int), Dp2 x i → (ar.lt (↑i.fst : Int) x.fst.files → ∃ (x_4 : RImg × Int × Int), 2 =
  x_4.2.fst ∧ (↑i.fst : Int) = x_4.2.snd ∧ (Nat.add 0 (((Int.mul 36 x.fst.dirs).add (Int.mul 40 (↑i.fst : Int))).toNat.mul 1)).add 0 = (Nat.add 0 ((x_4.1.k.add 0).toNat.mul 1)).add
  0 ∧ (↑x.snd.l.flatten.length : Int).sub ((Int.mul 36 x.fst.dirs).add (Int.mul 40 (↑i.fst : Int))) = (↑x_4.1.l.length : Int).sub (x_4.1.k.add 0) ∧ i.2.snd.sub ((Int.mul 36
  x.fst.dirs).add (Int.mul 40 (↑i.fst : Int))) = x_4.1.cap.sub (x_4.1.k.add 0) ∧ (BadTo x.snd.l.flatten x.fst (x.fst.dirs.toNat.add i.fst) ↔ x_4.1.3) ∧ i.2.snd = x_4.1.cap ∧ ints
  x.snd.l.flatten = ints x_4.1.l ∧ NRowIn x_4 ∧ ∀ (y : Unit), True → (¬ar.eq (rdK x_4.fst x_4.2.fst) 0 → ar.le (ar.add 0 (nLive x.snd.l.flatten x.fst (x.fst.dirs.toNat.add i.fst)))
  (ar.ilen (colK x.snd.l.flatten x.fst (x.fst.dirs.toNat.add i.fst))) ∧ ar.le (ar.add 0 (nLive x.snd.l.flatten x.fst (x.fst.dirs.toNat.add i.fst))) (ar.ilen (colN x.snd.l.flatten
  x.fst (x.fst.dirs.toNat.add i.fst))) ∧ ar.le (ar.add 0 (nLive x.snd.l.flatten x.fst (x.fst.dirs.toNat.add i.fst))) (ar.ilen (colP x.snd.l.flatten x.fst (x.fst.dirs.toNat.add
  i.fst))) ∧ ar.le (ar.add 0 (nLive x.snd.l.flatten x.fst (x.fst.dirs.toNat.add i.fst))) (ar.tlen (colS x.snd.l.flatten x.fst (x.fst.dirs.toNat.add i.fst))) ∧ ar.le (ar.add 0
  (nLive x.snd.l.flatten x.fst (x.fst.dirs.toNat.add i.fst))) (ar.ilen (colZ x.snd.l.flatten x.fst (x.fst.dirs.toNat.add i.fst))) ∧ i.2.fst = i.2.fst ∧ ar.le (ar.mul (ar.add (nLive
  x.snd.l.flatten x.fst (x.fst.dirs.toNat.add i.fst)) 1) 48) 140737488355328 ∧ ∀ (c : Int), ar.le (ar.add (nLive x.snd.l.flatten x.fst (x.fst.dirs.toNat.add i.fst)) 1) c → ∀ (z :
  Int), z = ar.wrap IntKind.i64 (ar.add (↑i.fst : Int) 1) → ∃ (j : Nat × Int × Int), Dp2 x j ∧ (x.fst.files.toNat.sub j.fst).lt (x.fst.files.toNat.sub i.fst) ∧ x.fst.slots =
  x.fst.slots ∧ x.fst.files = x.fst.files ∧ x.fst.dirs = x.fst.dirs ∧ x.fst.most = x.fst.most ∧ x.fst.least = x.fst.least ∧ x.fst.page = x.fst.page ∧ x.snd.l = x.snd.l ∧ x.snd.len
  = x.snd.len ∧ x.snd.cap = x.snd.cap ∧ chk x_1 = chk x_1 ∧ x.fst.files = x.fst.files ∧ z = (↑j.fst : Int) ∧ x.fst.slots = x.fst.slots ∧ x.fst.files = x.fst.files ∧ x.fst.dirs =
  x.fst.dirs ∧ x.fst.most = x.fst.most ∧ x.fst.least = x.fst.least ∧ x.fst.page = x.fst.page ∧ x_3.snd = x_3.snd ∧ (Nat.add 0 ((x_4.1.k.add (rsz x_4.2.fst)).toNat.mul 1)).add 0 =
  (Nat.add 0 (((Int.mul 36 x.fst.dirs).add (Int.mul 40 (↑j.fst : Int))).toNat.mul 1)).add 0 ∧ (↑x_4.1.l.length : Int).sub (x_4.1.k.add (rsz x_4.2.fst)) = (↑x.snd.l.flatten.length :
  Int).sub ((Int.mul 36 x.fst.dirs).add (Int.mul 40 (↑j.fst : Int))) ∧ x_4.1.cap.sub (x_4.1.k.add (rsz x_4.2.fst)) = j.2.snd.sub ((Int.mul 36 x.fst.dirs).add (Int.mul 40 (↑j.fst :
  Int))) ∧ (x_4.1.bad ∨ BadRow x_4.fst x_4.2.fst ↔ BadTo x.snd.l.flatten x.fst (x.fst.dirs.toNat.add j.fst)) ∧ x_4.1.cap = j.2.snd ∧ ints x_4.1.l = ints x.snd.l.flatten ∧
  x.fst.files = x.fst.files ∧ x.fst.dirs = x.fst.dirs ∧ ar.add (nLive x.snd.l.flatten x.fst (x.fst.dirs.toNat.add i.fst)) 1 = nLive x.snd.l.flatten x.fst (x.fst.dirs.toNat.add
  j.fst) ∧ c = j.2.fst ∧ c = j.2.fst ∧ ar.iapp (ar.isub (colK x.snd.l.flatten x.fst (x.fst.dirs.toNat.add i.fst)) 0 (nLive x.snd.l.flatten x.fst (x.fst.dirs.toNat.add i.fst))) [rdK
  x_4.fst x_4.2.fst] = colK x.snd.l.flatten x.fst (x.fst.dirs.toNat.add j.fst) ∧ ar.iapp (ar.isub (colN x.snd.l.flatten x.fst (x.fst.dirs.toNat.add i.fst)) 0 (nLive x.snd.l.flatten
  x.fst (x.fst.dirs.toNat.add i.fst))) [rdN x_4.fst x_4.2.snd] = colN x.snd.l.flatten x.fst (x.fst.dirs.toNat.add j.fst) ∧ ar.iapp (ar.isub (colP x.snd.l.flatten x.fst
  (x.fst.dirs.toNat.add i.fst)) 0 (nLive x.snd.l.flatten x.fst (x.fst.dirs.toNat.add i.fst))) [rdP x_4.fst] = colP x.snd.l.flatten x.fst (x.fst.dirs.toNat.add j.fst) ∧ ar.tapp
  (ar.tsub (colS x.snd.l.flatten x.fst (x.fst.dirs.toNat.add i.fst)) 0 (nLive x.snd.l.flatten x.fst (x.fst.dirs.toNat.add i.fst))) [rdS x_4.fst] = colS x.snd.l.flatten x.fst
  (x.fst.dirs.toNat.add j.fst) ∧ ar.iapp (ar.isub (colZ x.snd.l.flatten x.fst (x.fst.dirs.toNat.add i.fst)) 0 (nLive x.snd.l.flatten x.fst (x.fst.dirs.toNat.add i.fst))) [rdZ
  x_4.fst x_4.2.fst] = colZ x.snd.l.flatten x.fst (x.fst.dirs.toNat.add j.fst) ∧ True) ∧ (¬¬ar.eq (rdK x_4.fst x_4.2.fst) 0 → ∀ (z : Int), z = ar.wrap IntKind.i64 (ar.add (↑i.fst :
  Int) 1) → ∃ (j : Nat × Int × Int), Dp2 x j ∧ (x.fst.files.toNat.sub j.fst).lt (x.fst.files.toNat.sub i.fst) ∧ x.fst.slots = x.fst.slots ∧ x.fst.files = x.fst.files ∧ x.fst.dirs =
  x.fst.dirs ∧ x.fst.most = x.fst.most ∧ x.fst.least = x.fst.least ∧ x.fst.page = x.fst.page ∧ x.snd.l = x.snd.l ∧ x.snd.len = x.snd.len ∧ x.snd.cap = x.snd.cap ∧ chk x_1 = chk x_1
  ∧ x.fst.files = x.fst.files ∧ z = (↑j.fst : Int) ∧ x.fst.slots = x.fst.slots ∧ x.fst.files = x.fst.files ∧ x.fst.dirs = x.fst.dirs ∧ x.fst.most = x.fst.most ∧ x.fst.least =
  x.fst.least ∧ x.fst.page = x.fst.page ∧ x_3.snd = x_3.snd ∧ (Nat.add 0 ((x_4.1.k.add (rsz x_4.2.fst)).toNat.mul 1)).add 0 = (Nat.add 0 (((Int.mul 36 x.fst.dirs).add (Int.mul 40
  (↑j.fst : Int))).toNat.mul 1)).add 0 ∧ (↑x_4.1.l.length : Int).sub (x_4.1.k.add (rsz x_4.2.fst)) = (↑x.snd.l.flatten.length : Int).sub ((Int.mul 36 x.fst.dirs).add (Int.mul 40
  (↑j.fst : Int))) ∧ x_4.1.cap.sub (x_4.1.k.add (rsz x_4.2.fst)) = j.2.snd.sub ((Int.mul 36 x.fst.dirs).add (Int.mul 40 (↑j.fst : Int))) ∧ (x_4.1.bad ∨ BadRow x_4.fst x_4.2.fst ↔
  BadTo x.snd.l.flatten x.fst (x.fst.dirs.toNat.add j.fst)) ∧ x_4.1.cap = j.2.snd ∧ ints x_4.1.l = ints x.snd.l.flatten ∧ x.fst.files = x.fst.files ∧ x.fst.dirs = x.fst.dirs ∧
  nLive x.snd.l.flatten x.fst (x.fst.dirs.toNat.add i.fst) = nLive x.snd.l.flatten x.fst (x.fst.dirs.toNat.add j.fst) ∧ i.2.fst = j.2.fst ∧ i.2.fst = j.2.fst ∧ colK x.snd.l.flatten
  x.fst (x.fst.dirs.toNat.add i.fst) = colK x.snd.l.flatten x.fst (x.fst.dirs.toNat.add j.fst) ∧ colN x.snd.l.flatten x.fst (x.fst.dirs.toNat.add i.fst) = colN x.snd.l.flatten
  x.fst (x.fst.dirs.toNat.add j.fst) ∧ colP x.snd.l.flatten x.fst (x.fst.dirs.toNat.add i.fst) = colP x.snd.l.flatten x.fst (x.fst.dirs.toNat.add j.fst) ∧ colS x.snd.l.flatten
  x.fst (x.fst.dirs.toNat.add i.fst) = colS x.snd.l.flatten x.fst (x.fst.dirs.toNat.add j.fst) ∧ colZ x.snd.l.flatten x.fst (x.fst.dirs.toNat.add i.fst) = colZ x.snd.l.flatten
  x.fst (x.fst.dirs.toNat.add j.fst) ∧ True)) ∧ (¬ar.lt (↑i.fst : Int) x.fst.files → ∀ (z : Int), z = ar.wrap IntKind.i64 (ar.add x.fst.files x.fst.slots) → (∃ (i_1 : Nat × Int ×
  Int × Int), Dp3 x i_1 ∧ x.fst.slots = x.fst.slots ∧ x.fst.files = x.fst.files ∧ x.fst.dirs = x.fst.dirs ∧ x.fst.most = x.fst.most ∧ x.fst.least = x.fst.least ∧ x.fst.page =
  x.fst.page ∧ x.snd.l = x.snd.l ∧ x.snd.len = x.snd.len ∧ x.snd.cap = x.snd.cap ∧ chk x_1 = chk x_1 ∧ z = z ∧ 0 = (↑i_1.fst : Int) ∧ x.fst.slots = x.fst.slots ∧ x.fst.files =
  x.fst.files ∧ x.fst.dirs = x.fst.dirs ∧ x.fst.most = x.fst.most ∧ x.fst.least = x.fst.least ∧ x.fst.page = x.fst.page ∧ x_3.snd = x_3.snd ∧ (Nat.add 0 (((Int.mul 36
  x.fst.dirs).add (Int.mul 40 (↑i.fst : Int))).toNat.mul 1)).add 0 = (Nat.add 0 (((offO x.fst).add (Int.mul 40 (↑i_1.fst : Int))).toNat.mul 1)).add 0 ∧ (↑x.snd.l.flatten.length :
  Int).sub ((Int.mul 36 x.fst.dirs).add (Int.mul 40 (↑i.fst : Int))) = (↑x.snd.l.flatten.length : Int).sub ((offO x.fst).add (Int.mul 40 (↑i_1.fst : Int))) ∧ i.2.snd.sub ((Int.mul
  36 x.fst.dirs).add (Int.mul 40 (↑i.fst : Int))) = i_1.snd.snd.fst.sub ((offO x.fst).add (Int.mul 40 (↑i_1.fst : Int))) ∧ (BadTo x.snd.l.flatten x.fst (x.fst.dirs.toNat.add i.fst)
  ↔ BadTo x.snd.l.flatten x.fst (nRows x.fst)) ∧ i.2.snd = i_1.snd.snd.fst ∧ ints x.snd.l.flatten = ints x.snd.l.flatten ∧ x.fst.files = x.fst.files ∧ x.fst.dirs = x.fst.dirs ∧
  nLive x.snd.l.flatten x.fst (x.fst.dirs.toNat.add i.fst) = nLive x.snd.l.flatten x.fst (nRows x.fst) ∧ i.2.fst = i_1.2.fst ∧ i.2.fst = i_1.2.fst ∧ colK x.snd.l.flatten x.fst
  (x.fst.dirs.toNat.add i.fst) = colK x.snd.l.flatten x.fst (nRows x.fst) ∧ colN x.snd.l.flatten x.fst (x.fst.dirs.toNat.add i.fst) = colN x.snd.l.flatten x.fst (nRows x.fst) ∧
  colP x.snd.l.flatten x.fst (x.fst.dirs.toNat.add i.fst) = colP x.snd.l.flatten x.fst (nRows x.fst) ∧ colS x.snd.l.flatten x.fst (x.fst.dirs.toNat.add i.fst) = colS
  x.snd.l.flatten x.fst (nRows x.fst) ∧ colZ x.snd.l.flatten x.fst (x.fst.dirs.toNat.add i.fst) = colZ x.snd.l.flatten x.fst (nRows x.fst) ∧ 0 = (↑i_1.fst : Int) ∧ 0 =
  i_1.snd.snd.snd ∧ i_1.snd.snd.snd = 0 ∧ oN x.snd.l.flatten x.fst i_1.fst = [] ∧ oT x.snd.l.flatten x.fst i_1.fst = [] ∧ oB x.snd.l.flatten x.fst i_1.fst = [] ∧ oO x.snd.l.flatten
  x.fst i_1.fst = [] ∧ True) ∧ ∀ (i : Nat × Int × Int × Int), Dp3 x i → (ar.lt (↑i.fst : Int) z → (∃ (x_4 : RImg × Int), 16 = x_4.snd ∧ (Nat.add 0 (((offO x.fst).add (Int.mul 40
  (↑i.fst : Int))).toNat.mul 1)).add 0 = (Nat.add 0 ((x_4.1.k.add 0).toNat.mul 1)).add 0 ∧ (↑x.snd.l.flatten.length : Int).sub ((offO x.fst).add (Int.mul 40 (↑i.fst : Int))) =
  (↑x_4.1.l.length : Int).sub (x_4.1.k.add 0) ∧ i.snd.snd.fst.sub ((offO x.fst).add (Int.mul 40 (↑i.fst : Int))) = x_4.1.cap.sub (x_4.1.k.add 0) ∧ (BadTo x.snd.l.flatten x.fst
  (nRows x.fst) ↔ x_4.1.3) ∧ i.snd.snd.fst = x_4.1.cap ∧ ints x.snd.l.flatten = ints x_4.1.l ∧ RImgOK x_4.fst x_4.snd ∧ ∀ (y : Unit), True → (ar.le 0 x_4.1.k ∧ ar.le (ar.add
  x_4.1.k x_4.snd) (ar.ilen (ints x_4.1.l)) ∧ ∀ (t : List UInt8), t = ar.bytes (ar.isub (ints x_4.1.l) x_4.1.k x_4.snd) → ∃ (x_5 : RImg × Int), 16 = x_5.snd ∧ (Nat.add 0
  ((x_4.1.k.add x_4.snd).toNat.mul 1)).add 0 = (Nat.add 0 ((x_5.1.k.add 0).toNat.mul 1)).add 0 ∧ (↑x_4.1.l.length : Int).sub (x_4.1.k.add x_4.snd) = (↑x_5.1.l.length : Int).sub
  (x_5.1.k.add 0) ∧ x_4.1.cap.sub (x_4.1.k.add x_4.snd) = x_5.1.cap.sub (x_5.1.k.add 0) ∧ (x_4.1.3 ↔ x_5.1.3) ∧ x_4.1.cap = x_5.1.cap ∧ ints x_4.1.l = ints x_5.1.l ∧ RImgOK x_5.fst
  x_5.snd ∧ ∀ (y : Unit), True → (ar.le 0 x_5.1.k ∧ ar.le (ar.add x_5.1.k x_5.snd) (ar.ilen (ints x_5.1.l)) ∧ ∀ (t_1 : List UInt8), t_1 = ar.bytes (ar.isub (ints x_5.1.l) x_5.1.k
  x_5.snd) → ∃ (x_6 : RImg × Int), 4 = x_6.snd ∧ (Nat.add 0 ((x_5.1.k.add x_5.snd).toNat.mul 1)).add 0 = (Nat.add 0 ((x_6.1.k.add 0).toNat.mul 1)).add 0 ∧ (↑x_5.1.l.length :
  Int).sub (x_5.1.k.add x_5.snd) = (↑x_6.1.l.length : Int).sub (x_6.1.k.add 0) ∧ x_5.1.cap.sub (x_5.1.k.add x_5.snd) = x_6.1.cap.sub (x_6.1.k.add 0) ∧ (x_5.1.3 ↔ x_6.1.3) ∧
  x_5.1.cap = x_6.1.cap ∧ ints x_5.1.l = ints x_6.1.l ∧ NumIn x_6 ∧ ∀ (y : Unit), True → ∃ (i_1 : Unit), Yes i_1 ∧ x.fst.slots = x.fst.slots ∧ x.fst.files = x.fst.files ∧
  x.fst.dirs = x.fst.dirs ∧ x.fst.most = x.fst.most ∧ x.fst.least = x.fst.least ∧ x.fst.page = x.fst.page ∧ x.snd.l = x.snd.l ∧ x.snd.len = x.snd.len ∧ x.snd.cap = x.snd.cap ∧ chk
  x_1 = chk x_1 ∧ z = z ∧ (↑i.fst : Int) = (↑i.fst : Int) ∧ x.fst.slots = x.fst.slots ∧ x.fst.files = x.fst.files ∧ x.fst.dirs = x.fst.dirs ∧ x.fst.most = x.fst.most ∧ x.fst.least
  = x.fst.least ∧ x.fst.page = x.fst.page ∧ x_3.snd = x_3.snd ∧ (Nat.add 0 ((x_6.1.k.add x_6.snd).toNat.mul 1)).add 0 = (Nat.add 0 ((((offO x.fst).add (Int.mul 40 (↑i.fst :
  Int))).add 36).toNat.mul 1)).add 0 ∧ (↑x_6.1.l.length : Int).sub (x_6.1.k.add x_6.snd) = (↑x.snd.l.flatten.length : Int).sub (((offO x.fst).add (Int.mul 40 (↑i.fst : Int))).add
  36) ∧ x_6.1.cap.sub (x_6.1.k.add x_6.snd) = i.snd.snd.fst.sub (((offO x.fst).add (Int.mul 40 (↑i.fst : Int))).add 36) ∧ (x_6.1.3 ↔ BadTo x.snd.l.flatten x.fst (nRows x.fst)) ∧
  x_6.1.cap = i.snd.snd.fst ∧ ints x_6.1.l = ints x.snd.l.flatten ∧ x.fst.files = x.fst.files ∧ x.fst.dirs = x.fst.dirs ∧ nLive x.snd.l.flatten x.fst (nRows x.fst) = nLive
  x.snd.l.flatten x.fst (nRows x.fst) ∧ i.2.fst = i.2.fst ∧ i.2.fst = i.2.fst ∧ colK x.snd.l.flatten x.fst (nRows x.fst) = colK x.snd.l.flatten x.fst (nRows x.fst) ∧ colN
  x.snd.l.flatten x.fst (nRows x.fst) = colN x.snd.l.flatten x.fst (nRows x.fst) ∧ colP x.snd.l.flatten x.fst (nRows x.fst) = colP x.snd.l.flatten x.fst (nRows x.fst) ∧ colS
  x.snd.l.flatten x.fst (nRows x.fst) = colS x.snd.l.flatten x.fst (nRows x.fst) ∧ colZ x.snd.l.flatten x.fst (nRows x.fst) = colZ x.snd.l.flatten x.fst (nRows x.fst) ∧ (↑i.fst :
  Int) = (↑i.fst : Int) ∧ i.snd.snd.snd = i.snd.snd.snd ∧ i.snd.snd.snd = i.snd.snd.snd ∧ oN x.snd.l.flatten x.fst i.fst = oN x.snd.l.flatten x.fst i.fst ∧ oT x.snd.l.flatten x.fst
  i.fst = oT x.snd.l.flatten x.fst i.fst ∧ oB x.snd.l.flatten x.fst i.fst = oB x.snd.l.flatten x.fst i.fst ∧ oO x.snd.l.flatten x.fst i.fst = oO x.snd.l.flatten x.fst i.fst ∧ t =
  dropk x.snd.l.flatten ((offO x.fst).add (Int.mul 40 (↑i.fst : Int))) 16 ∧ t_1 = dropk x.snd.l.flatten (((offO x.fst).add (Int.mul 40 (↑i.fst : Int))).add 16) 16 ∧ numB (dropk
  x_6.1.l x_6.1.k x_6.snd) = numB (dropk x.snd.l.flatten (((offO x.fst).add (Int.mul 40 (↑i.fst : Int))).add 32) 4) ∧ True) ∧ ∃ (x_6 : RImg × Int), 4 = x_6.snd ∧ (Nat.add 0
  ((x_5.1.k.add x_5.snd).toNat.mul 1)).add 0 = (Nat.add 0 ((x_6.1.k.add 0).toNat.mul 1)).add 0 ∧ (↑x_5.1.l.length : Int).sub (x_5.1.k.add x_5.snd) = (↑x_6.1.l.length : Int).sub
  (x_6.1.k.add 0) ∧ x_5.1.cap.sub (x_5.1.k.add x_5.snd) = x_6.1.cap.sub (x_6.1.k.add 0) ∧ (x_5.1.3 ↔ x_6.1.3) ∧ x_5.1.cap = x_6.1.cap ∧ ints x_5.1.l = ints x_6.1.l ∧ NumIn x_6 ∧ ∀
  (y : Unit), True → ar.le 0 x_5.1.k ∧ ar.le (ar.add x_5.1.k x_5.snd) (ar.ilen (ints x_6.1.l)) ∧ ∀ (t_1 : List UInt8), t_1 = ar.bytes (ar.isub (ints x_6.1.l) x_5.1.k x_5.snd) → ∃
  (i_1 : Unit), Yes i_1 ∧ x.fst.slots = x.fst.slots ∧ x.fst.files = x.fst.files ∧ x.fst.dirs = x.fst.dirs ∧ x.fst.most = x.fst.most ∧ x.fst.least = x.fst.least ∧ x.fst.page =
  x.fst.page ∧ x.snd.l = x.snd.l ∧ x.snd.len = x.snd.len ∧ x.snd.cap = x.snd.cap ∧ chk x_1 = chk x_1 ∧ z = z ∧ (↑i.fst : Int) = (↑i.fst : Int) ∧ x.fst.slots = x.fst.slots ∧
  x.fst.files = x.fst.files ∧ x.fst.dirs = x.fst.dirs ∧ x.fst.most = x.fst.most ∧ x.fst.least = x.fst.least ∧ x.fst.page = x.fst.page ∧ x_3.snd = x_3.snd ∧ (Nat.add 0 ((x_6.1.k.add
  x_6.snd).toNat.mul 1)).add 0 = (Nat.add 0 ((((offO x.fst).add (Int.mul 40 (↑i.fst : Int))).add 36).toNat.mul 1)).add 0 ∧ (↑x_6.1.l.length : Int).sub (x_6.1.k.add x_6.snd) =
  (↑x.snd.l.flatten.length : Int).sub (((offO x.fst).add (Int.mul 40 (↑i.fst : Int))).add 36) ∧ x_6.1.cap.sub (x_6.1.k.add x_6.snd) = i.snd.snd.fst.sub (((offO x.fst).add (Int.mul
  40 (↑i.fst : Int))).add 36) ∧ (x_6.1.3 ↔ BadTo x.snd.l.flatten x.fst (nRows x.fst)) ∧ x_6.1.cap = i.snd.snd.fst ∧ ints x_6.1.l = ints x.snd.l.flatten ∧ x.fst.files = x.fst.files
  ∧ x.fst.dirs = x.fst.dirs ∧ nLive x.snd.l.flatten x.fst (nRows x.fst) = nLive x.snd.l.flatten x.fst (nRows x.fst) ∧ i.2.fst = i.2.fst ∧ i.2.fst = i.2.fst ∧ colK x.snd.l.flatten
  x.fst (nRows x.fst) = colK x.snd.l.flatten x.fst (nRows x.fst) ∧ colN x.snd.l.flatten x.fst (nRows x.fst) = colN x.snd.l.flatten x.fst (nRows x.fst) ∧ colP x.snd.l.flatten x.fst
  (nRows x.fst) = colP x.snd.l.flatten x.fst (nRows x.fst) ∧ colS x.snd.l.flatten x.fst (nRows x.fst) = colS x.snd.l.flatten x.fst (nRows x.fst) ∧ colZ x.snd.l.flatten x.fst (nRows
  x.fst) = colZ x.snd.l.flatten x.fst (nRows x.fst) ∧ (↑i.fst : Int) = (↑i.fst : Int) ∧ i.snd.snd.snd = i.snd.snd.snd ∧ i.snd.snd.snd = i.snd.snd.snd ∧ oN x.snd.l.flatten x.fst
  i.fst = oN x.snd.l.flatten x.fst i.fst ∧ oT x.snd.l.flatten x.fst i.fst = oT x.snd.l.flatten x.fst i.fst ∧ oB x.snd.l.flatten x.fst i.fst = oB x.snd.l.flatten x.fst i.fst ∧ oO
  x.snd.l.flatten x.fst i.fst = oO x.snd.l.flatten x.fst i.fst ∧ t = dropk x.snd.l.flatten ((offO x.fst).add (Int.mul 40 (↑i.fst : Int))) 16 ∧ t_1 = dropk x.snd.l.flatten (((offO
  x.fst).add (Int.mul 40 (↑i.fst : Int))).add 16) 16 ∧ numB (dropk x_6.1.l x_6.1.k x_6.snd) = numB (dropk x.snd.l.flatten (((offO x.fst).add (Int.mul 40 (↑i.fst : Int))).add 32) 4)
  ∧ True) ∧ ∃ (x_5 : RImg × Int), 16 = x_5.snd ∧ (Nat.add 0 ((x_4.1.k.add x_4.snd).toNat.mul 1)).add 0 = (Nat.add 0 ((x_5.1.k.add 0).toNat.mul 1)).add 0 ∧ (↑x_4.1.l.length :
  Int).sub (x_4.1.k.add x_4.snd) = (↑x_5.1.l.length : Int).sub (x_5.1.k.add 0) ∧ x_4.1.cap.sub (x_4.1.k.add x_4.snd) = x_5.1.cap.sub (x_5.1.k.add 0) ∧ (x_4.1.3 ↔ x_5.1.3) ∧
  x_4.1.cap = x_5.1.cap ∧ ints x_4.1.l = ints x_5.1.l ∧ RImgOK x_5.fst x_5.snd ∧ ∀ (y : Unit), True → (ar.le 0 x_4.1.k ∧ ar.le (ar.add x_4.1.k x_4.snd) (ar.ilen (ints x_5.1.l)) ∧ ∀
  (t : List UInt8), t = ar.bytes (ar.isub (ints x_5.1.l) x_4.1.k x_4.snd) → (ar.le 0 x_5.1.k ∧ ar.le (ar.add x_5.1.k x_5.snd) (ar.ilen (ints x_5.1.l)) ∧ ∀ (t_1 : List UInt8), t_1 =
  ar.bytes (ar.isub (ints x_5.1.l) x_5.1.k x_5.snd) → ∃ (x_6 : RImg × Int), 4 = x_6.snd ∧ (Nat.add 0 ((x_5.1.k.add x_5.snd).toNat.mul 1)).add 0 = (Nat.add 0 ((x_6.1.k.add
  0).toNat.mul 1)).add 0 ∧ (↑x_5.1.l.length : Int).sub (x_5.1.k.add x_5.snd) = (↑x_6.1.l.length : Int).sub (x_6.1.k.add 0) ∧ x_5.1.cap.sub (x_5.1.k.add x_5.snd) = x_6.1.cap.sub
  (x_6.1.k.add 0) ∧ (x_5.1.3 ↔ x_6.1.3) ∧ x_5.1.cap = x_6.1.cap ∧ ints x_5.1.l = ints x_6.1.l ∧ NumIn x_6 ∧ ∀ (y : Unit), True → ∃ (i_1 : Unit), Yes i_1 ∧ x.fst.slots = x.fst.slots
  ∧ x.fst.files = x.fst.files ∧ x.fst.dirs = x.fst.dirs ∧ x.fst.most = x.fst.most ∧ x.fst.least = x.fst.least ∧ x.fst.page = x.fst.page ∧ x.snd.l = x.snd.l ∧ x.snd.len = x.snd.len
  ∧ x.snd.cap = x.snd.cap ∧ chk x_1 = chk x_1 ∧ z = z ∧ (↑i.fst : Int) = (↑i.fst : Int) ∧ x.fst.slots = x.fst.slots ∧ x.fst.files = x.fst.files ∧ x.fst.dirs = x.fst.dirs ∧
  x.fst.most = x.fst.most ∧ x.fst.least = x.fst.least ∧ x.fst.page = x.fst.page ∧ x_3.snd = x_3.snd ∧ (Nat.add 0 ((x_6.1.k.add x_6.snd).toNat.mul 1)).add 0 = (Nat.add 0 ((((offO
  x.fst).add (Int.mul 40 (↑i.fst : Int))).add 36).toNat.mul 1)).add 0 ∧ (↑x_6.1.l.length : Int).sub (x_6.1.k.add x_6.snd) = (↑x.snd.l.flatten.length : Int).sub (((offO x.fst).add
  (Int.mul 40 (↑i.fst : Int))).add 36) ∧ x_6.1.cap.sub (x_6.1.k.add x_6.snd) = i.snd.snd.fst.sub (((offO x.fst).add (Int.mul 40 (↑i.fst : Int))).add 36) ∧ (x_6.1.3 ↔ BadTo
  x.snd.l.flatten x.fst (nRows x.fst)) ∧ x_6.1.cap = i.snd.snd.fst ∧ ints x_6.1.l = ints x.snd.l.flatten ∧ x.fst.files = x.fst.files ∧ x.fst.dirs = x.fst.dirs ∧ nLive
  x.snd.l.flatten x.fst (nRows x.fst) = nLive x.snd.l.flatten x.fst (nRows x.fst) ∧ i.2.fst = i.2.fst ∧ i.2.fst = i.2.fst ∧ colK x.snd.l.flatten x.fst (nRows x.fst) = colK
  x.snd.l.flatten x.fst (nRows x.fst) ∧ colN x.snd.l.flatten x.fst (nRows x.fst) = colN x.snd.l.flatten x.fst (nRows x.fst) ∧ colP x.snd.l.flatten x.fst (nRows x.fst) = colP
  x.snd.l.flatten x.fst (nRows x.fst) ∧ colS x.snd.l.flatten x.fst (nRows x.fst) = colS x.snd.l.flatten x.fst (nRows x.fst) ∧ colZ x.snd.l.flatten x.fst (nRows x.fst) = colZ
  x.snd.l.flatten x.fst (nRows x.fst) ∧ (↑i.fst : Int) = (↑i.fst : Int) ∧ i.snd.snd.snd = i.snd.snd.snd ∧ i.snd.snd.snd = i.snd.snd.snd ∧ oN x.snd.l.flatten x.fst i.fst = oN
  x.snd.l.flatten x.fst i.fst ∧ oT x.snd.l.flatten x.fst i.fst = oT x.snd.l.flatten x.fst i.fst ∧ oB x.snd.l.flatten x.fst i.fst = oB x.snd.l.flatten x.fst i.fst ∧ oO
  x.snd.l.flatten x.fst i.fst = oO x.snd.l.flatten x.fst i.fst ∧ t = dropk x.snd.l.flatten ((offO x.fst).add (Int.mul 40 (↑i.fst : Int))) 16 ∧ t_1 = dropk x.snd.l.flatten (((offO
  x.fst).add (Int.mul 40 (↑i.fst : Int))).add 16) 16 ∧ numB (dropk x_6.1.l x_6.1.k x_6.snd) = numB (dropk x.snd.l.flatten (((offO x.fst).add (Int.mul 40 (↑i.fst : Int))).add 32) 4)
  ∧ True) ∧ ∃ (x_6 : RImg × Int), 4 = x_6.snd ∧ (Nat.add 0 ((x_5.1.k.add x_5.snd).toNat.mul 1)).add 0 = (Nat.add 0 ((x_6.1.k.add 0).toNat.mul 1)).add 0 ∧ (↑x_5.1.l.length :
  Int).sub (x_5.1.k.add x_5.snd) = (↑x_6.1.l.length : Int).sub (x_6.1.k.add 0) ∧ x_5.1.cap.sub (x_5.1.k.add x_5.snd) = x_6.1.cap.sub (x_6.1.k.add 0) ∧ (x_5.1.3 ↔ x_6.1.3) ∧
  x_5.1.cap = x_6.1.cap ∧ ints x_5.1.l = ints x_6.1.l ∧ NumIn x_6 ∧ ∀ (y : Unit), True → ar.le 0 x_5.1.k ∧ ar.le (ar.add x_5.1.k x_5.snd) (ar.ilen (ints x_6.1.l)) ∧ ∀ (t_1 : List
  UInt8), t_1 = ar.bytes (ar.isub (ints x_6.1.l) x_5.1.k x_5.snd) → ∃ (i_1 : Unit), Yes i_1 ∧ x.fst.slots = x.fst.slots ∧ x.fst.files = x.fst.files ∧ x.fst.dirs = x.fst.dirs ∧
  x.fst.most = x.fst.most ∧ x.fst.least = x.fst.least ∧ x.fst.page = x.fst.page ∧ x.snd.l = x.snd.l ∧ x.snd.len = x.snd.len ∧ x.snd.cap = x.snd.cap ∧ chk x_1 = chk x_1 ∧ z = z ∧
  (↑i.fst : Int) = (↑i.fst : Int) ∧ x.fst.slots = x.fst.slots ∧ x.fst.files = x.fst.files ∧ x.fst.dirs = x.fst.dirs ∧ x.fst.most = x.fst.most ∧ x.fst.least = x.fst.least ∧
  x.fst.page = x.fst.page ∧ x_3.snd = x_3.snd ∧ (Nat.add 0 ((x_6.1.k.add x_6.snd).toNat.mul 1)).add 0 = (Nat.add 0 ((((offO x.fst).add (Int.mul 40 (↑i.fst : Int))).add
  36).toNat.mul 1)).add 0 ∧ (↑x_6.1.l.length : Int).sub (x_6.1.k.add x_6.snd) = (↑x.snd.l.flatten.length : Int).sub (((offO x.fst).add (Int.mul 40 (↑i.fst : Int))).add 36) ∧
  x_6.1.cap.sub (x_6.1.k.add x_6.snd) = i.snd.snd.fst.sub (((offO x.fst).add (Int.mul 40 (↑i.fst : Int))).add 36) ∧ (x_6.1.3 ↔ BadTo x.snd.l.flatten x.fst (nRows x.fst)) ∧
  x_6.1.cap = i.snd.snd.fst ∧ ints x_6.1.l = ints x.snd.l.flatten ∧ x.fst.files = x.fst.files ∧ x.fst.dirs = x.fst.dirs ∧ nLive x.snd.l.flatten x.fst (nRows x.fst) = nLive
  x.snd.l.flatten x.fst (nRows x.fst) ∧ i.2.fst = i.2.fst ∧ i.2.fst = i.2.fst ∧ colK x.snd.l.flatten x.fst (nRows x.fst) = colK x.snd.l.flatten x.fst (nRows x.fst) ∧ colN
  x.snd.l.flatten x.fst (nRows x.fst) = colN x.snd.l.flatten x.fst (nRows x.fst) ∧ colP x.snd.l.flatten x.fst (nRows x.fst) = colP x.snd.l.flatten x.fst (nRows x.fst) ∧ colS
  x.snd.l.flatten x.fst (nRows x.fst) = colS x.snd.l.flatten x.fst (nRows x.fst) ∧ colZ x.snd.l.flatten x.fst (nRows x.fst) = colZ x.snd.l.flatten x.fst (nRows x.fst) ∧ (↑i.fst :
  Int) = (↑i.fst : Int) ∧ i.snd.snd.snd = i.snd.snd.snd ∧ i.snd.snd.snd = i.snd.snd.snd ∧ oN x.snd.l.flatten x.fst i.fst = oN x.snd.l.flatten x.fst i.fst ∧ oT x.snd.l.flatten x.fst
  i.fst = oT x.snd.l.flatten x.fst i.fst ∧ oB x.snd.l.flatten x.fst i.fst = oB x.snd.l.flatten x.fst i.fst ∧ oO x.snd.l.flatten x.fst i.fst = oO x.snd.l.flatten x.fst i.fst ∧ t =
  dropk x.snd.l.flatten ((offO x.fst).add (Int.mul 40 (↑i.fst : Int))) 16 ∧ t_1 = dropk x.snd.l.flatten (((offO x.fst).add (Int.mul 40 (↑i.fst : Int))).add 16) 16 ∧ numB (dropk
  x_6.1.l x_6.1.k x_6.snd) = numB (dropk x.snd.l.flatten (((offO x.fst).add (Int.mul 40 (↑i.fst : Int))).add 32) 4) ∧ True) ∧ (ar.le 0 x_5.1.k ∧ ar.le (ar.add x_5.1.k x_5.snd)
  (ar.ilen (ints x_5.1.l)) ∧ ∀ (t : List UInt8), t = ar.bytes (ar.isub (ints x_5.1.l) x_5.1.k x_5.snd) → (ar.le 0 x_4.1.k ∧ ar.le (ar.add x_4.1.k x_4.snd) (ar.ilen (ints x_5.1.l))
  ∧ ∀ (t_1 : List UInt8), t_1 = ar.bytes (ar.isub (ints x_5.1.l) x_4.1.k x_4.snd) → ∃ (x_6 : RImg × Int), 4 = x_6.snd ∧ (Nat.add 0 ((x_5.1.k.add x_5.snd).toNat.mul 1)).add 0 =
  (Nat.add 0 ((x_6.1.k.add 0).toNat.mul 1)).add 0 ∧ (↑x_5.1.l.length : Int).sub (x_5.1.k.add x_5.snd) = (↑x_6.1.l.length : Int).sub (x_6.1.k.add 0) ∧ x_5.1.cap.sub (x_5.1.k.add
  x_5.snd) = x_6.1.cap.sub (x_6.1.k.add 0) ∧ (x_5.1.3 ↔ x_6.1.3) ∧ x_5.1.cap = x_6.1.cap ∧ ints x_5.1.l = ints x_6.1.l ∧ NumIn x_6 ∧ ∀ (y : Unit), True → ∃ (i_1 : Unit), Yes i_1 ∧
  x.fst.slots = x.fst.slots ∧ x.fst.files = x.fst.files ∧ x.fst.dirs = x.fst.dirs ∧ x.fst.most = x.fst.most ∧ x.fst.least = x.fst.least ∧ x.fst.page = x.fst.page ∧ x.snd.l =
  x.snd.l ∧ x.snd.len = x.snd.len ∧ x.snd.cap = x.snd.cap ∧ chk x_1 = chk x_1 ∧ z = z ∧ (↑i.fst : Int) = (↑i.fst : Int) ∧ x.fst.slots = x.fst.slots ∧ x.fst.files = x.fst.files ∧
  x.fst.dirs = x.fst.dirs ∧ x.fst.most = x.fst.most ∧ x.fst.least = x.fst.least ∧ x.fst.page = x.fst.page ∧ x_3.snd = x_3.snd ∧ (Nat.add 0 ((x_6.1.k.add x_6.snd).toNat.mul 1)).add
  0 = (Nat.add 0 ((((offO x.fst).add (Int.mul 40 (↑i.fst : Int))).add 36).toNat.mul 1)).add 0 ∧ (↑x_6.1.l.length : Int).sub (x_6.1.k.add x_6.snd) = (↑x.snd.l.flatten.length :
  Int).sub (((offO x.fst).add (Int.mul 40 (↑i.fst : Int))).add 36) ∧ x_6.1.cap.sub (x_6.1.k.add x_6.snd) = i.snd.snd.fst.sub (((offO x.fst).add (Int.mul 40 (↑i.fst : Int))).add 36)
  ∧ (x_6.1.3 ↔ BadTo x.snd.l.flatten x.fst (nRows x.fst)) ∧ x_6.1.cap = i.snd.snd.fst ∧ ints x_6.1.l = ints x.snd.l.flatten ∧ x.fst.files = x.fst.files ∧ x.fst.dirs = x.fst.dirs ∧
  nLive x.snd.l.flatten x.fst (nRows x.fst) = nLive x.snd.l.flatten x.fst (nRows x.fst) ∧ i.2.fst = i.2.fst ∧ i.2.fst = i.2.fst ∧ colK x.snd.l.flatten x.fst (nRows x.fst) = colK
  x.snd.l.flatten x.fst (nRows x.fst) ∧ colN x.snd.l.flatten x.fst (nRows x.fst) = colN x.snd.l.flatten x.fst (nRows x.fst) ∧ colP x.snd.l.flatten x.fst (nRows x.fst) = colP
  x.snd.l.flatten x.fst (nRows x.fst) ∧ colS x.snd.l.flatten x.fst (nRows x.fst) = colS x.snd.l.flatten x.fst (nRows x.fst) ∧ colZ x.snd.l.flatten x.fst (nRows x.fst) = colZ
  x.snd.l.flatten x.fst (nRows x.fst) ∧ (↑i.fst : Int) = (↑i.fst : Int) ∧ i.snd.snd.snd = i.snd.snd.snd ∧ i.snd.snd.snd = i.snd.snd.snd ∧ oN x.snd.l.flatten x.fst i.fst = oN
  x.snd.l.flatten x.fst i.fst ∧ oT x.snd.l.flatten x.fst i.fst = oT x.snd.l.flatten x.fst i.fst ∧ oB x.snd.l.flatten x.fst i.fst = oB x.snd.l.flatten x.fst i.fst ∧ oO
  x.snd.l.flatten x.fst i.fst = oO x.snd.l.flatten x.fst i.fst ∧ t_1 = dropk x.snd.l.flatten ((offO x.fst).add (Int.mul 40 (↑i.fst : Int))) 16 ∧ t = dropk x.snd.l.flatten (((offO
  x.fst).add (Int.mul 40 (↑i.fst : Int))).add 16) 16 ∧ numB (dropk x_6.1.l x_6.1.k x_6.snd) = numB (dropk x.snd.l.flatten (((offO x.fst).add (Int.mul 40 (↑i.fst : Int))).add 32) 4)
  ∧ True) ∧ ∃ (x_6 : RImg × Int), 4 = x_6.snd ∧ (Nat.add 0 ((x_5.1.k.add x_5.snd).toNat.mul 1)).add 0 = (Nat.add 0 ((x_6.1.k.add 0).toNat.mul 1)).add 0 ∧ (↑x_5.1.l.length :
  Int).sub (x_5.1.k.add x_5.snd) = (↑x_6.1.l.length : Int).sub (x_6.1.k.add 0) ∧ x_5.1.cap.sub (x_5.1.k.add x_5.snd) = x_6.1.cap.sub (x_6.1.k.add 0) ∧ (x_5.1.3 ↔ x_6.1.3) ∧
  x_5.1.cap = x_6.1.cap ∧ ints x_5.1.l = ints x_6.1.l ∧ NumIn x_6 ∧ ∀ (y : Unit), True → ar.le 0 x_4.1.k ∧ ar.le (ar.add x_4.1.k x_4.snd) (ar.ilen (ints x_6.1.l)) ∧ ∀ (t_1 : List
  UInt8), t_1 = ar.bytes (ar.isub (ints x_6.1.l) x_4.1.k x_4.snd) → ∃ (i_1 : Unit), Yes i_1 ∧ x.fst.slots = x.fst.slots ∧ x.fst.files = x.fst.files ∧ x.fst.dirs = x.fst.dirs ∧
  x.fst.most = x.fst.most ∧ x.fst.least = x.fst.least ∧ x.fst.page = x.fst.page ∧ x.snd.l = x.snd.l ∧ x.snd.len = x.snd.len ∧ x.snd.cap = x.snd.cap ∧ chk x_1 = chk x_1 ∧ z = z ∧
  (↑i.fst : Int) = (↑i.fst : Int) ∧ x.fst.slots = x.fst.slots ∧ x.fst.files = x.fst.files ∧ x.fst.dirs = x.fst.dirs ∧ x.fst.most = x.fst.most ∧ x.fst.least = x.fst.least ∧
  x.fst.page = x.fst.page ∧ x_3.snd = x_3.snd ∧ (Nat.add 0 ((x_6.1.k.add x_6.snd).toNat.mul 1)).add 0 = (Nat.add 0 ((((offO x.fst).add (Int.mul 40 (↑i.fst : Int))).add
  36).toNat.mul 1)).add 0 ∧ (↑x_6.1.l.length : Int).sub (x_6.1.k.add x_6.snd) = (↑x.snd.l.flatten.length : Int).sub (((offO x.fst).add (Int.mul 40 (↑i.fst : Int))).add 36) ∧
  x_6.1.cap.sub (x_6.1.k.add x_6.snd) = i.snd.snd.fst.sub (((offO x.fst).add (Int.mul 40 (↑i.fst : Int))).add 36) ∧ (x_6.1.3 ↔ BadTo x.snd.l.flatten x.fst (nRows x.fst)) ∧
  x_6.1.cap = i.snd.snd.fst ∧ ints x_6.1.l = ints x.snd.l.flatten ∧ x.fst.files = x.fst.files ∧ x.fst.dirs = x.fst.dirs ∧ nLive x.snd.l.flatten x.fst (nRows x.fst) = nLive
  x.snd.l.flatten x.fst (nRows x.fst) ∧ i.2.fst = i.2.fst ∧ i.2.fst = i.2.fst ∧ colK x.snd.l.flatten x.fst (nRows x.fst) = colK x.snd.l.flatten x.fst (nRows x.fst) ∧ colN
  x.snd.l.flatten x.fst (nRows x.fst) = colN x.snd.l.flatten x.fst (nRows x.fst) ∧ colP x.snd.l.flatten x.fst (nRows x.fst) = colP x.snd.l.flatten x.fst (nRows x.fst) ∧ colS
  x.snd.l.flatten x.fst (nRows x.fst) = colS x.snd.l.flatten x.fst (nRows x.fst) ∧ colZ x.snd.l.flatten x.fst (nRows x.fst) = colZ x.snd.l.flatten x.fst (nRows x.fst) ∧ (↑i.fst :
  Int) = (↑i.fst : Int) ∧ i.snd.snd.snd = i.snd.snd.snd ∧ i.snd.snd.snd = i.snd.snd.snd ∧ oN x.snd.l.flatten x.fst i.fst = oN x.snd.l.flatten x.fst i.fst ∧ oT x.snd.l.flatten x.fst
  i.fst = oT x.snd.l.flatten x.fst i.fst ∧ oB x.snd.l.flatten x.fst i.fst = oB x.snd.l.flatten x.fst i.fst ∧ oO x.snd.l.flatten x.fst i.fst = oO x.snd.l.flatten x.fst i.fst ∧ t_1 =
  dropk x.snd.l.flatten ((offO x.fst).add (Int.mul 40 (↑i.fst : Int))) 16 ∧ t = dropk x.snd.l.flatten (((offO x.fst).add (Int.mul 40 (↑i.fst : Int))).add 16) 16 ∧ numB (dropk
  x_6.1.l x_6.1.k x_6.snd) = numB (dropk x.snd.l.flatten (((offO x.fst).add (Int.mul 40 (↑i.fst : Int))).add 32) 4) ∧ True) ∧ ∃ (x_6 : RImg × Int), 4 = x_6.snd ∧ (Nat.add 0
  ((x_5.1.k.add x_5.snd).toNat.mul 1)).add 0 = (Nat.add 0 ((x_6.1.k.add 0).toNat.mul 1)).add 0 ∧ (↑x_5.1.l.length : Int).sub (x_5.1.k.add x_5.snd) = (↑x_6.1.l.length : Int).sub
  (x_6.1.k.add 0) ∧ x_5.1.cap.sub (x_5.1.k.add x_5.snd) = x_6.1.cap.sub (x_6.1.k.add 0) ∧ (x_5.1.3 ↔ x_6.1.3) ∧ x_5.1.cap = x_6.1.cap ∧ ints x_5.1.l = ints x_6.1.l ∧ NumIn x_6 ∧ ∀
  (y : Unit), True → ar.le 0 x_4.1.k ∧ ar.le (ar.add x_4.1.k x_4.snd) (ar.ilen (ints x_6.1.l)) ∧ ∀ (t : List UInt8), t = ar.bytes (ar.isub (ints x_6.1.l) x_4.1.k x_4.snd) → ar.le 0
  x_5.1.k ∧ ar.le (ar.add x_5.1.k x_5.snd) (ar.ilen (ints x_6.1.l)) ∧ ∀ (t_1 : List UInt8), t_1 = ar.bytes (ar.isub (ints x_6.1.l) x_5.1.k x_5.snd) → ∃ (i_1 : Unit), Yes i_1 ∧
  x.fst.slots = x.fst.slots ∧ x.fst.files = x.fst.files ∧ x.fst.dirs = x.fst.dirs ∧ x.fst.most = x.fst.most ∧ x.fst.least = x.fst.least ∧ x.fst.page = x.fst.page ∧ x.snd.l =
  x.snd.l ∧ x.snd.len = x.snd.len ∧ x.snd.cap = x.snd.cap ∧ chk x_1 = chk x_1 ∧ z = z ∧ (↑i.fst : Int) = (↑i.fst : Int) ∧ x.fst.slots = x.fst.slots ∧ x.fst.files = x.fst.files ∧
  x.fst.dirs = x.fst.dirs ∧ x.fst.most = x.fst.most ∧ x.fst.least = x.fst.least ∧ x.fst.page = x.fst.page ∧ x_3.snd = x_3.snd ∧ (Nat.add 0 ((x_6.1.k.add x_6.snd).toNat.mul 1)).add
  0 = (Nat.add 0 ((((offO x.fst).add (Int.mul 40 (↑i.fst : Int))).add 36).toNat.mul 1)).add 0 ∧ (↑x_6.1.l.length : Int).sub (x_6.1.k.add x_6.snd) = (↑x.snd.l.flatten.length :
  Int).sub (((offO x.fst).add (Int.mul 40 (↑i.fst : Int))).add 36) ∧ x_6.1.cap.sub (x_6.1.k.add x_6.snd) = i.snd.snd.fst.sub (((offO x.fst).add (Int.mul 40 (↑i.fst : Int))).add 36)
  ∧ (x_6.1.3 ↔ BadTo x.snd.l.flatten x.fst (nRows x.fst)) ∧ x_6.1.cap = i.snd.snd.fst ∧ ints x_6.1.l = ints x.snd.l.flatten ∧ x.fst.files = x.fst.files ∧ x.fst.dirs = x.fst.dirs ∧
  nLive x.snd.l.flatten x.fst (nRows x.fst) = nLive x.snd.l.flatten x.fst (nRows x.fst) ∧ i.2.fst = i.2.fst ∧ i.2.fst = i.2.fst ∧ colK x.snd.l.flatten x.fst (nRows x.fst) = colK
  x.snd.l.flatten x.fst (nRows x.fst) ∧ colN x.snd.l.flatten x.fst (nRows x.fst) = colN x.snd.l.flatten x.fst (nRows x.fst) ∧ colP x.snd.l.flatten x.fst (nRows x.fst) = colP
  x.snd.l.flatten x.fst (nRows x.fst) ∧ colS x.snd.l.flatten x.fst (nRows x.fst) = colS x.snd.l.flatten x.fst (nRows x.fst) ∧ colZ x.snd.l.flatten x.fst (nRows x.fst) = colZ
  x.snd.l.flatten x.fst (nRows x.fst) ∧ (↑i.fst : Int) = (↑i.fst : Int) ∧ i.snd.snd.snd = i.snd.snd.snd ∧ i.snd.snd.snd = i.snd.snd.snd ∧ oN x.snd.l.flatten x.fst i.fst = oN
  x.snd.l.flatten x.fst i.fst ∧ oT x.snd.l.flatten x.fst i.fst = oT x.snd.l.flatten x.fst i.fst ∧ oB x.snd.l.flatten x.fst i.fst = oB x.snd.l.flatten x.fst i.fst ∧ oO
  x.snd.l.flatten x.fst i.fst = oO x.snd.l.flatten x.fst i.fst ∧ t = dropk x.snd.l.flatten ((offO x.fst).add (Int.mul 40 (↑i.fst : Int))) 16 ∧ t_1 = dropk x.snd.l.flatten (((offO
  x.fst).add (Int.mul 40 (↑i.fst : Int))).add 16) 16 ∧ numB (dropk x_6.1.l x_6.1.k x_6.snd) = numB (dropk x.snd.l.flatten (((offO x.fst).add (Int.mul 40 (↑i.fst : Int))).add 32) 4)
  ∧ True) ∧ ∀ (i_1 : Unit), Yes i_1 → ∃ (x_4 : RImg × Int), 4 = x_4.snd ∧ (Nat.add 0 ((((offO x.fst).add (Int.mul 40 (↑i.fst : Int))).add 36).toNat.mul 1)).add 0 = (Nat.add 0
  ((x_4.1.k.add 0).toNat.mul 1)).add 0 ∧ (↑x.snd.l.flatten.length : Int).sub (((offO x.fst).add (Int.mul 40 (↑i.fst : Int))).add 36) = (↑x_4.1.l.length : Int).sub (x_4.1.k.add 0) ∧
  i.snd.snd.fst.sub (((offO x.fst).add (Int.mul 40 (↑i.fst : Int))).add 36) = x_4.1.cap.sub (x_4.1.k.add 0) ∧ (BadTo x.snd.l.flatten x.fst (nRows x.fst) ↔ x_4.1.3) ∧ i.snd.snd.fst
  = x_4.1.cap ∧ ints x.snd.l.flatten = ints x_4.1.l ∧ NumIn x_4 ∧ ∀ (y : Unit), True → ∀ (z_1 : Int), z_1 = ar.wrap IntKind.i64 (ar.sub (numB (dropk x_4.1.l x_4.1.k x_4.snd)) 1) →
  ar.le (ar.add 0 (↑i.fst : Int)) (ar.tlen (oN x.snd.l.flatten x.fst i.fst)) ∧ ar.le (ar.add 0 (↑i.fst : Int)) (ar.tlen (oT x.snd.l.flatten x.fst i.fst)) ∧ ar.le (ar.add 0 (↑i.fst
  : Int)) (ar.ilen (oB x.snd.l.flatten x.fst i.fst)) ∧ ar.le (ar.add 0 (↑i.fst : Int)) (ar.ilen (oO x.snd.l.flatten x.fst i.fst)) ∧ i.snd.snd.snd = i.snd.snd.snd ∧ ar.le (ar.mul
  (ar.add (↑i.fst : Int) 1) 48) 140737488355328 ∧ ∀ (c : Int), ar.le (ar.add (↑i.fst : Int) 1) c → ∀ (z_2 : Int), z_2 = ar.wrap IntKind.i64 (ar.add (↑i.fst : Int) 1) → ∃ (j : Nat ×
  Int × Int × Int), Dp3 x j ∧ ((rowsC x.fst).toNat.sub j.fst).lt ((rowsC x.fst).toNat.sub i.fst) ∧ x.fst.slots = x.fst.slots ∧ x.fst.files = x.fst.files ∧ x.fst.dirs = x.fst.dirs ∧
  x.fst.most = x.fst.most ∧ x.fst.least = x.fst.least ∧ x.fst.page = x.fst.page ∧ x.snd.l = x.snd.l ∧ x.snd.len = x.snd.len ∧ x.snd.cap = x.snd.cap ∧ chk x_1 = chk x_1 ∧ z = z ∧
  z_2 = (↑j.fst : Int) ∧ x.fst.slots = x.fst.slots ∧ x.fst.files = x.fst.files ∧ x.fst.dirs = x.fst.dirs ∧ x.fst.most = x.fst.most ∧ x.fst.least = x.fst.least ∧ x.fst.page =
  x.fst.page ∧ x_3.snd = x_3.snd ∧ (Nat.add 0 ((x_4.1.k.add x_4.snd).toNat.mul 1)).add 0 = (Nat.add 0 (((offO x.fst).add (Int.mul 40 (↑j.fst : Int))).toNat.mul 1)).add 0 ∧
  (↑x_4.1.l.length : Int).sub (x_4.1.k.add x_4.snd) = (↑x.snd.l.flatten.length : Int).sub ((offO x.fst).add (Int.mul 40 (↑j.fst : Int))) ∧ x_4.1.cap.sub (x_4.1.k.add x_4.snd) =
  j.snd.snd.fst.sub ((offO x.fst).add (Int.mul 40 (↑j.fst : Int))) ∧ (x_4.1.3 ↔ BadTo x.snd.l.flatten x.fst (nRows x.fst)) ∧ x_4.1.cap = j.snd.snd.fst ∧ ints x_4.1.l = ints
  x.snd.l.flatten ∧ x.fst.files = x.fst.files ∧ x.fst.dirs = x.fst.dirs ∧ nLive x.snd.l.flatten x.fst (nRows x.fst) = nLive x.snd.l.flatten x.fst (nRows x.fst) ∧ i.2.fst = j.2.fst
  ∧ i.2.fst = j.2.fst ∧ colK x.snd.l.flatten x.fst (nRows x.fst) = colK x.snd.l.flatten x.fst (nRows x.fst) ∧ colN x.snd.l.flatten x.fst (nRows x.fst) = colN x.snd.l.flatten x.fst
  (nRows x.fst) ∧ colP x.snd.l.flatten x.fst (nRows x.fst) = colP x.snd.l.flatten x.fst (nRows x.fst) ∧ colS x.snd.l.flatten x.fst (nRows x.fst) = colS x.snd.l.flatten x.fst (nRows
  x.fst) ∧ colZ x.snd.l.flatten x.fst (nRows x.fst) = colZ x.snd.l.flatten x.fst (nRows x.fst) ∧ ar.add (↑i.fst : Int) 1 = (↑j.fst : Int) ∧ c = j.snd.snd.snd ∧ c = j.snd.snd.snd ∧
  ar.tapp (ar.tsub (oN x.snd.l.flatten x.fst i.fst) 0 (↑i.fst : Int)) [dropk x.snd.l.flatten ((offO x.fst).add (Int.mul 40 (↑i.fst : Int))) 16] = oN x.snd.l.flatten x.fst j.fst ∧
  ar.tapp (ar.tsub (oT x.snd.l.flatten x.fst i.fst) 0 (↑i.fst : Int)) [dropk x.snd.l.flatten (((offO x.fst).add (Int.mul 40 (↑i.fst : Int))).add 16) 16] = oT x.snd.l.flatten x.fst
  j.fst ∧ ar.iapp (ar.isub (oB x.snd.l.flatten x.fst i.fst) 0 (↑i.fst : Int)) [numB (dropk x.snd.l.flatten (((offO x.fst).add (Int.mul 40 (↑i.fst : Int))).add 32) 4)] = oB
  x.snd.l.flatten x.fst j.fst ∧ ar.iapp (ar.isub (oO x.snd.l.flatten x.fst i.fst) 0 (↑i.fst : Int)) [z_1] = oO x.snd.l.flatten x.fst j.fst ∧ True) ∧ (¬ar.lt (↑i.fst : Int) z → ∃
  (x_4 : RImg × Int), 4 = x_4.snd ∧ (Nat.add 0 (((offO x.fst).add (Int.mul 40 (↑i.fst : Int))).toNat.mul 1)).add 0 = (Nat.add 0 ((x_4.1.k.add 0).toNat.mul 1)).add 0 ∧
  (↑x.snd.l.flatten.length : Int).sub ((offO x.fst).add (Int.mul 40 (↑i.fst : Int))) = (↑x_4.1.l.length : Int).sub (x_4.1.k.add 0) ∧ i.snd.snd.fst.sub ((offO x.fst).add (Int.mul 40
  (↑i.fst : Int))) = x_4.1.cap.sub (x_4.1.k.add 0) ∧ (BadTo x.snd.l.flatten x.fst (nRows x.fst) ↔ x_4.1.3) ∧ i.snd.snd.fst = x_4.1.cap ∧ ints x.snd.l.flatten = ints x_4.1.l ∧ NumIn
  x_4 ∧ ∀ (y : Unit), True → (ar.lt (↑i.fst : Int) (numB (dropk x_4.1.l x_4.1.k x_4.snd)) → (∃ (i_1 : Nat × Int × Int × Int × Int), Dp4 x i_1 ∧ x.fst.slots = x.fst.slots ∧
  x.fst.files = x.fst.files ∧ x.fst.dirs = x.fst.dirs ∧ x.fst.most = x.fst.most ∧ x.fst.least = x.fst.least ∧ x.fst.page = x.fst.page ∧ x.snd.l = x.snd.l ∧ x.snd.len = x.snd.len ∧
  x.snd.cap = x.snd.cap ∧ chk x_1 = chk x_1 ∧ 0 = cntP x.snd.l.flatten x.fst ∧ 0 = cntP x.snd.l.flatten x.fst ∧ 0 = (↑i_1.fst : Int) ∧ x.fst.slots = x.fst.slots ∧ x.fst.files =
  x.fst.files ∧ x.fst.dirs = x.fst.dirs ∧ x.fst.most = x.fst.most ∧ x.fst.least = x.fst.least ∧ x.fst.page = x.fst.page ∧ x_3.snd = x_3.snd ∧ (Nat.add 0 ((x_4.1.k.add
  x_4.snd).toNat.mul 1)).add 0 = (Nat.add 0 ((((offQ x.fst).add 4).add (Int.mul 4 (↑i_1.fst : Int))).toNat.mul 1)).add 0 ∧ (↑x_4.1.l.length : Int).sub (x_4.1.k.add x_4.snd) =
  (↑x.snd.l.flatten.length : Int).sub (((offQ x.fst).add 4).add (Int.mul 4 (↑i_1.fst : Int))) ∧ x_4.1.cap.sub (x_4.1.k.add x_4.snd) = i_1.snd.snd.fst.sub (((offQ x.fst).add 4).add
  (Int.mul 4 (↑i_1.fst : Int))) ∧ (true = true ↔ BadTo x.snd.l.flatten x.fst (nRows x.fst) ∨ (rowsC x.fst).lt (cntQ x.snd.l.flatten x.fst)) ∧ x_4.1.cap = i_1.snd.snd.fst ∧ ints
  x_4.1.l = ints x.snd.l.flatten ∧ x.fst.files = x.fst.files ∧ x.fst.dirs = x.fst.dirs ∧ nLive x.snd.l.flatten x.fst (nRows x.fst) = nLive x.snd.l.flatten x.fst (nRows x.fst) ∧
  i.2.fst = i_1.2.fst ∧ i.2.fst = i_1.2.fst ∧ colK x.snd.l.flatten x.fst (nRows x.fst) = colK x.snd.l.flatten x.fst (nRows x.fst) ∧ colN x.snd.l.flatten x.fst (nRows x.fst) = colN
  x.snd.l.flatten x.fst (nRows x.fst) ∧ colP x.snd.l.flatten x.fst (nRows x.fst) = colP x.snd.l.flatten x.fst (nRows x.fst) ∧ colS x.snd.l.flatten x.fst (nRows x.fst) = colS
  x.snd.l.flatten x.fst (nRows x.fst) ∧ colZ x.snd.l.flatten x.fst (nRows x.fst) = colZ x.snd.l.flatten x.fst (nRows x.fst) ∧ (↑i.fst : Int) = rowsC x.fst ∧ i.snd.snd.snd =
  i_1.snd.snd.snd.fst ∧ 0 = (↑i_1.fst : Int) ∧ 0 = i_1.snd.snd.snd.snd ∧ i.snd.snd.snd = i_1.snd.snd.snd.fst ∧ oN x.snd.l.flatten x.fst i.fst = oN x.snd.l.flatten x.fst (rowsC
  x.fst).toNat ∧ oT x.snd.l.flatten x.fst i.fst = oT x.snd.l.flatten x.fst (rowsC x.fst).toNat ∧ oB x.snd.l.flatten x.fst i.fst = oB x.snd.l.flatten x.fst (rowsC x.fst).toNat ∧ oO
  x.snd.l.flatten x.fst i.fst = oO x.snd.l.flatten x.fst (rowsC x.fst).toNat ∧ i_1.snd.snd.snd.snd = 0 ∧ qL x.snd.l.flatten x.fst i_1.fst = [] ∧ True) ∧ ∀ (i : Nat × Int × Int ×
  Int × Int), Dp4 x i → (ar.lt (↑i.fst : Int) (cntP x.snd.l.flatten x.fst) → ∃ (x_5 : RImg × Int), 4 = x_5.snd ∧ (Nat.add 0 ((((offQ x.fst).add 4).add (Int.mul 4 (↑i.fst :
  Int))).toNat.mul 1)).add 0 = (Nat.add 0 ((x_5.1.k.add 0).toNat.mul 1)).add 0 ∧ (↑x.snd.l.flatten.length : Int).sub (((offQ x.fst).add 4).add (Int.mul 4 (↑i.fst : Int))) =
  (↑x_5.1.l.length : Int).sub (x_5.1.k.add 0) ∧ i.snd.snd.fst.sub (((offQ x.fst).add 4).add (Int.mul 4 (↑i.fst : Int))) = x_5.1.cap.sub (x_5.1.k.add 0) ∧ (BadTo x.snd.l.flatten
  x.fst (nRows x.fst) ∨ (rowsC x.fst).lt (cntQ x.snd.l.flatten x.fst) ↔ x_5.1.3) ∧ i.snd.snd.fst = x_5.1.cap ∧ ints x.snd.l.flatten = ints x_5.1.l ∧ NumIn x_5 ∧ ∀ (y : Unit), True
  → ar.le (ar.add 0 (↑i.fst : Int)) (ar.ilen (qL x.snd.l.flatten x.fst i.fst)) ∧ i.snd.snd.snd.snd = i.snd.snd.snd.snd ∧ ar.le (ar.mul (ar.add (↑i.fst : Int) 1) 8) 140737488355328
  ∧ ∀ (c : Int), ar.le (ar.add (↑i.fst : Int) 1) c → ∀ (z : Int), z = ar.wrap IntKind.i64 (ar.add (↑i.fst : Int) 1) → ∃ (j : Nat × Int × Int × Int × Int), Dp4 x j ∧ ((cntP
  x.snd.l.flatten x.fst).toNat.sub j.fst).lt ((cntP x.snd.l.flatten x.fst).toNat.sub i.fst) ∧ x.fst.slots = x.fst.slots ∧ x.fst.files = x.fst.files ∧ x.fst.dirs = x.fst.dirs ∧
  x.fst.most = x.fst.most ∧ x.fst.least = x.fst.least ∧ x.fst.page = x.fst.page ∧ x.snd.l = x.snd.l ∧ x.snd.len = x.snd.len ∧ x.snd.cap = x.snd.cap ∧ chk x_1 = chk x_1 ∧ cntP
  x.snd.l.flatten x.fst = cntP x.snd.l.flatten x.fst ∧ cntP x.snd.l.flatten x.fst = cntP x.snd.l.flatten x.fst ∧ z = (↑j.fst : Int) ∧ x.fst.slots = x.fst.slots ∧ x.fst.files =
  x.fst.files ∧ x.fst.dirs = x.fst.dirs ∧ x.fst.most = x.fst.most ∧ x.fst.least = x.fst.least ∧ x.fst.page = x.fst.page ∧ x_3.snd = x_3.snd ∧ (Nat.add 0 ((x_5.1.k.add
  x_5.snd).toNat.mul 1)).add 0 = (Nat.add 0 ((((offQ x.fst).add 4).add (Int.mul 4 (↑j.fst : Int))).toNat.mul 1)).add 0 ∧ (↑x_5.1.l.length : Int).sub (x_5.1.k.add x_5.snd) =
  (↑x.snd.l.flatten.length : Int).sub (((offQ x.fst).add 4).add (Int.mul 4 (↑j.fst : Int))) ∧ x_5.1.cap.sub (x_5.1.k.add x_5.snd) = j.snd.snd.fst.sub (((offQ x.fst).add 4).add
  (Int.mul 4 (↑j.fst : Int))) ∧ (x_5.1.3 ↔ BadTo x.snd.l.flatten x.fst (nRows x.fst) ∨ (rowsC x.fst).lt (cntQ x.snd.l.flatten x.fst)) ∧ x_5.1.cap = j.snd.snd.fst ∧ ints x_5.1.l =
  ints x.snd.l.flatten ∧ x.fst.files = x.fst.files ∧ x.fst.dirs = x.fst.dirs ∧ nLive x.snd.l.flatten x.fst (nRows x.fst) = nLive x.snd.l.flatten x.fst (nRows x.fst) ∧ i.2.fst =
  j.2.fst ∧ i.2.fst = j.2.fst ∧ colK x.snd.l.flatten x.fst (nRows x.fst) = colK x.snd.l.flatten x.fst (nRows x.fst) ∧ colN x.snd.l.flatten x.fst (nRows x.fst) = colN
  x.snd.l.flatten x.fst (nRows x.fst) ∧ colP x.snd.l.flatten x.fst (nRows x.fst) = colP x.snd.l.flatten x.fst (nRows x.fst) ∧ colS x.snd.l.flatten x.fst (nRows x.fst) = colS
  x.snd.l.flatten x.fst (nRows x.fst) ∧ colZ x.snd.l.flatten x.fst (nRows x.fst) = colZ x.snd.l.flatten x.fst (nRows x.fst) ∧ rowsC x.fst = rowsC x.fst ∧ i.snd.snd.snd.fst =
  j.snd.snd.snd.fst ∧ ar.add (↑i.fst : Int) 1 = (↑j.fst : Int) ∧ c = j.snd.snd.snd.snd ∧ i.snd.snd.snd.fst = j.snd.snd.snd.fst ∧ oN x.snd.l.flatten x.fst (rowsC x.fst).toNat = oN
  x.snd.l.flatten x.fst (rowsC x.fst).toNat ∧ oT x.snd.l.flatten x.fst (rowsC x.fst).toNat = oT x.snd.l.flatten x.fst (rowsC x.fst).toNat ∧ oB x.snd.l.flatten x.fst (rowsC
  x.fst).toNat = oB x.snd.l.flatten x.fst (rowsC x.fst).toNat ∧ oO x.snd.l.flatten x.fst (rowsC x.fst).toNat = oO x.snd.l.flatten x.fst (rowsC x.fst).toNat ∧ c = j.snd.snd.snd.snd
  ∧ ar.iapp (ar.isub (qL x.snd.l.flatten x.fst i.fst) 0 (↑i.fst : Int)) [numB (dropk x_5.1.l x_5.1.k x_5.snd)] = qL x.snd.l.flatten x.fst j.fst ∧ True) ∧ (¬ar.lt (↑i.fst : Int)
  (cntP x.snd.l.flatten x.fst) → ((BadTo x.snd.l.flatten x.fst (nRows x.fst) ∨ (rowsC x.fst).lt (cntQ x.snd.l.flatten x.fst) → False) → ∃ (x_5 : RImg), (Nat.add 0 ((((offQ
  x.fst).add 4).add (Int.mul 4 (↑i.fst : Int))).toNat.mul 1)).add 0 = (Nat.add 0 (x_5.k.toNat.mul 1)).add 0 ∧ (↑x.snd.l.flatten.length : Int).sub (((offQ x.fst).add 4).add (Int.mul
  4 (↑i.fst : Int))) = (↑x_5.l.length : Int).sub x_5.k ∧ i.snd.snd.fst.sub (((offQ x.fst).add 4).add (Int.mul 4 (↑i.fst : Int))) = x_5.cap.sub x_5.k ∧ [UInt8.ofNat 0] =
  [UInt8.ofNat 0] ∧ i.snd.snd.fst = x_5.cap ∧ ints x.snd.l.flatten = ints x_5.l ∧ TrimIn x_5 ∧ (∀ (y : Unit), TrimNo x_5 → ∃ (x_6 : Cfg × Tree), x.fst.slots = x_6.1.slots ∧
  x.fst.files = x_6.1.files ∧ x.fst.dirs = x_6.1.dirs ∧ x.fst.most = x_6.1.most ∧ x.fst.least = x_6.1.least ∧ x.fst.page = x_6.1.page ∧ x.fst.files = x_6.2.files ∧ x.fst.dirs =
  x_6.2.dirs ∧ ar.le 0 0 ∧ ar.le (ar.add 0 (nLive x.snd.l.flatten x.fst (nRows x.fst))) (ar.ilen (colK x.snd.l.flatten x.fst (nRows x.fst))) ∧ ar.le (ar.add 0 (nLive
  x.snd.l.flatten x.fst (nRows x.fst))) (ar.ilen (colN x.snd.l.flatten x.fst (nRows x.fst))) ∧ ar.le (ar.add 0 (nLive x.snd.l.flatten x.fst (nRows x.fst))) (ar.ilen (colP
  x.snd.l.flatten x.fst (nRows x.fst))) ∧ ar.le (ar.add 0 (nLive x.snd.l.flatten x.fst (nRows x.fst))) (ar.tlen (colS x.snd.l.flatten x.fst (nRows x.fst))) ∧ ar.le (ar.add 0 (nLive
  x.snd.l.flatten x.fst (nRows x.fst))) (ar.ilen (colZ x.snd.l.flatten x.fst (nRows x.fst))) ∧ ar.isub (colK x.snd.l.flatten x.fst (nRows x.fst)) 0 (nLive x.snd.l.flatten x.fst
  (nRows x.fst)) = x_6.snd.nods.K ∧ ar.isub (colN x.snd.l.flatten x.fst (nRows x.fst)) 0 (nLive x.snd.l.flatten x.fst (nRows x.fst)) = x_6.snd.nods.N ∧ ar.isub (colP
  x.snd.l.flatten x.fst (nRows x.fst)) 0 (nLive x.snd.l.flatten x.fst (nRows x.fst)) = x_6.snd.nods.P ∧ ar.tsub (colS x.snd.l.flatten x.fst (nRows x.fst)) 0 (nLive x.snd.l.flatten
  x.fst (nRows x.fst)) = x_6.snd.nods.S ∧ ar.isub (colZ x.snd.l.flatten x.fst (nRows x.fst)) 0 (nLive x.snd.l.flatten x.fst (nRows x.fst)) = x_6.snd.nods.Z ∧ nLive x.snd.l.flatten
  x.fst (nRows x.fst) = x_6.snd.nods.len ∧ i.2.fst = x_6.snd.nods.cap ∧ TreeIn x_6 ∧ ∀ (y : Unit), True → ((¬TreeOK x_6.fst x_6.snd → False) → ∃ (x_7 : Cfg × Pool), x.fst.slots =
  x_7.1.slots ∧ x.fst.files = x_7.1.files ∧ x.fst.dirs = x_7.1.dirs ∧ x.fst.most = x_7.1.most ∧ x.fst.least = x_7.1.least ∧ x.fst.page = x_7.1.page ∧ ar.le 0 0 ∧ ar.le (ar.add 0
  (rowsC x.fst)) (ar.tlen (oN x.snd.l.flatten x.fst (rowsC x.fst).toNat)) ∧ ar.le (ar.add 0 (rowsC x.fst)) (ar.tlen (oT x.snd.l.flatten x.fst (rowsC x.fst).toNat)) ∧ ar.le (ar.add
  0 (rowsC x.fst)) (ar.ilen (oB x.snd.l.flatten x.fst (rowsC x.fst).toNat)) ∧ ar.le (ar.add 0 (rowsC x.fst)) (ar.ilen (oO x.snd.l.flatten x.fst (rowsC x.fst).toNat)) ∧ ar.tsub (oN
  x.snd.l.flatten x.fst (rowsC x.fst).toNat) 0 (rowsC x.fst) = x_7.snd.objs.N ∧ ar.tsub (oT x.snd.l.flatten x.fst (rowsC x.fst).toNat) 0 (rowsC x.fst) = x_7.snd.objs.T ∧ ar.isub
  (oB x.snd.l.flatten x.fst (rowsC x.fst).toNat) 0 (rowsC x.fst) = x_7.snd.objs.B ∧ ar.isub (oO x.snd.l.flatten x.fst (rowsC x.fst).toNat) 0 (rowsC x.fst) = x_7.snd.objs.O ∧ rowsC
  x.fst = x_7.snd.objs.len ∧ i.snd.snd.snd.fst = x_7.snd.objs.cap ∧ ar.le 0 0 ∧ ar.le (ar.add 0 (↑i.fst : Int)) (ar.ilen (qL x.snd.l.flatten x.fst i.fst)) ∧ ar.isub (qL
  x.snd.l.flatten x.fst i.fst) 0 (↑i.fst : Int) = x_7.2.q ∧ (↑i.fst : Int) = x_7.2.qlen ∧ i.snd.snd.snd.snd = x_7.2.qcap ∧ PoolIn x_7 ∧ ∀ (y : Unit), True → (¬PoolOK x_7.fst
  x_7.snd → ∃ (y : (Tree × Pool) × Int × Int × Int), DcPost x y ∧ 0 = y.fst.fst.files ∧ 0 = y.fst.fst.dirs ∧ 0 = y.fst.fst.nods.len ∧ 0 = y.fst.fst.nods.cap ∧ 0 =
  y.fst.snd.objs.len ∧ 0 = y.fst.snd.objs.cap ∧ 0 = y.fst.snd.qlen ∧ 0 = y.fst.snd.qcap ∧ 141 = dcE x.fst x.snd.l ∧ y.2.fst = 0 ∧ y.fst.fst.nods.K = [] ∧ y.fst.fst.nods.N = [] ∧
  y.fst.fst.nods.P = [] ∧ y.fst.fst.nods.S = [] ∧ y.fst.fst.nods.Z = [] ∧ y.snd.snd.fst = 0 ∧ y.fst.snd.objs.N = [] ∧ y.fst.snd.objs.T = [] ∧ y.fst.snd.objs.B = [] ∧
  y.fst.snd.objs.O = [] ∧ y.snd.snd.snd = 0 ∧ y.fst.snd.q = [] ∧ True) ∧ (¬¬PoolOK x_7.fst x_7.snd → ∃ (x_8 : Nods × Int), nLive x.snd.l.flatten x.fst (nRows x.fst) = x_8.1.len ∧
  i.2.fst = x_8.1.cap ∧ i.2.fst = x_8.snd ∧ colK x.snd.l.flatten x.fst (nRows x.fst) = x_8.1.K ∧ colN x.snd.l.flatten x.fst (nRows x.fst) = x_8.1.N ∧ colP x.snd.l.flatten x.fst
  (nRows x.fst) = x_8.1.P ∧ colS x.snd.l.flatten x.fst (nRows x.fst) = x_8.1.S ∧ colZ x.snd.l.flatten x.fst (nRows x.fst) = x_8.1.Z ∧ ClipN x_8 ∧ ∀ (y : Unit), True → ∃ (x_9 : Objs
  × Int), rowsC x.fst = x_9.1.len ∧ i.snd.snd.snd.fst = x_9.1.cap ∧ i.snd.snd.snd.fst = x_9.snd ∧ oN x.snd.l.flatten x.fst (rowsC x.fst).toNat = x_9.1.N ∧ oT x.snd.l.flatten x.fst
  (rowsC x.fst).toNat = x_9.1.T ∧ oB x.snd.l.flatten x.fst (rowsC x.fst).toNat = x_9.1.B ∧ oO x.snd.l.flatten x.fst (rowsC x.fst).toNat = x_9.1.O ∧ ClipO x_9 ∧ ∀ (y : Unit), True →
  ∃ (x_10 : List Int × Int × Int × Int), (↑i.fst : Int) = x_10.2.fst ∧ i.snd.snd.snd.snd = x_10.snd.snd.fst ∧ i.snd.snd.snd.snd = x_10.snd.snd.snd ∧ qL x.snd.l.flatten x.fst i.fst
  = x_10.fst ∧ ClipQ x_10 ∧ ∀ (y : Unit), True → ∃ (y : (Tree × Pool) × Int × Int × Int), DcPost x y ∧ x.fst.files = y.fst.fst.files ∧ x.fst.dirs = y.fst.fst.dirs ∧ x_8.1.len =
  y.fst.fst.nods.len ∧ x_8.1.len = y.fst.fst.nods.cap ∧ x_9.1.len = y.fst.snd.objs.len ∧ x_9.1.len = y.fst.snd.objs.cap ∧ x_10.2.fst = y.fst.snd.qlen ∧ x_10.2.fst = y.fst.snd.qcap
  ∧ 0 = dcE x.fst x.snd.l ∧ x_8.snd = y.2.fst ∧ x_8.1.K = y.fst.fst.nods.K ∧ x_8.1.N = y.fst.fst.nods.N ∧ x_8.1.P = y.fst.fst.nods.P ∧ x_8.1.S = y.fst.fst.nods.S ∧ x_8.1.Z =
  y.fst.fst.nods.Z ∧ x_9.snd = y.snd.snd.fst ∧ x_9.1.N = y.fst.snd.objs.N ∧ x_9.1.T = y.fst.snd.objs.T ∧ x_9.1.B = y.fst.snd.objs.B ∧ x_9.1.O = y.fst.snd.objs.O ∧ x_10.snd.snd.snd
  = y.snd.snd.snd ∧ x_10.fst = y.fst.snd.q ∧ True)) ∧ (¬(¬TreeOK x_6.fst x_6.snd → False) → ∃ (y : (Tree × Pool) × Int × Int × Int), DcPost x y ∧ 0 = y.fst.fst.files ∧ 0 =
  y.fst.fst.dirs ∧ 0 = y.fst.fst.nods.len ∧ 0 = y.fst.fst.nods.cap ∧ 0 = y.fst.snd.objs.len ∧ 0 = y.fst.snd.objs.cap ∧ 0 = y.fst.snd.qlen ∧ 0 = y.fst.snd.qcap ∧ 141 = dcE x.fst
  x.snd.l ∧ y.2.fst = 0 ∧ y.fst.fst.nods.K = [] ∧ y.fst.fst.nods.N = [] ∧ y.fst.fst.nods.P = [] ∧ y.fst.fst.nods.S = [] ∧ y.fst.fst.nods.Z = [] ∧ y.snd.snd.fst = 0 ∧
  y.fst.snd.objs.N = [] ∧ y.fst.snd.objs.T = [] ∧ y.fst.snd.objs.B = [] ∧ y.fst.snd.objs.O = [] ∧ y.snd.snd.snd = 0 ∧ y.fst.snd.q = [] ∧ True)) ∧ ∀ (y : Nat × Nat), TrimYes x_5 y →
  ((ar.lt 0 ((↑y.fst : Int).sub (↑y.snd : Int)) → False) → ∃ (x_6 : Cfg × Tree), x.fst.slots = x_6.1.slots ∧ x.fst.files = x_6.1.files ∧ x.fst.dirs = x_6.1.dirs ∧ x.fst.most =
  x_6.1.most ∧ x.fst.least = x_6.1.least ∧ x.fst.page = x_6.1.page ∧ x.fst.files = x_6.2.files ∧ x.fst.dirs = x_6.2.dirs ∧ ar.le 0 0 ∧ ar.le (ar.add 0 (nLive x.snd.l.flatten x.fst
  (nRows x.fst))) (ar.ilen (colK x.snd.l.flatten x.fst (nRows x.fst))) ∧ ar.le (ar.add 0 (nLive x.snd.l.flatten x.fst (nRows x.fst))) (ar.ilen (colN x.snd.l.flatten x.fst (nRows
  x.fst))) ∧ ar.le (ar.add 0 (nLive x.snd.l.flatten x.fst (nRows x.fst))) (ar.ilen (colP x.snd.l.flatten x.fst (nRows x.fst))) ∧ ar.le (ar.add 0 (nLive x.snd.l.flatten x.fst (nRows
  x.fst))) (ar.tlen (colS x.snd.l.flatten x.fst (nRows x.fst))) ∧ ar.le (ar.add 0 (nLive x.snd.l.flatten x.fst (nRows x.fst))) (ar.ilen (colZ x.snd.l.flatten x.fst (nRows x.fst)))
  ∧ ar.isub (colK x.snd.l.flatten x.fst (nRows x.fst)) 0 (nLive x.snd.l.flatten x.fst (nRows x.fst)) = x_6.snd.nods.K ∧ ar.isub (colN x.snd.l.flatten x.fst (nRows x.fst)) 0 (nLive
  x.snd.l.flatten x.fst (nRows x.fst)) = x_6.snd.nods.N ∧ ar.isub (colP x.snd.l.flatten x.fst (nRows x.fst)) 0 (nLive x.snd.l.flatten x.fst (nRows x.fst)) = x_6.snd.nods.P ∧
  ar.tsub (colS x.snd.l.flatten x.fst (nRows x.fst)) 0 (nLive x.snd.l.flatten x.fst (nRows x.fst)) = x_6.snd.nods.S ∧ ar.isub (colZ x.snd.l.flatten x.fst (nRows x.fst)) 0 (nLive
  x.snd.l.flatten x.fst (nRows x.fst)) = x_6.snd.nods.Z ∧ nLive x.snd.l.flatten x.fst (nRows x.fst) = x_6.snd.nods.len ∧ i.2.fst = x_6.snd.nods.cap ∧ TreeIn x_6 ∧ ∀ (y : Unit),
  True → ((¬TreeOK x_6.fst x_6.snd → False) → ∃ (x_7 : Cfg × Pool), x.fst.slots = x_7.1.slots ∧ x.fst.files = x_7.1.files ∧ x.fst.dirs = x_7.1.dirs ∧ x.fst.most = x_7.1.most ∧
  x.fst.least = x_7.1.least ∧ x.fst.page = x_7.1.page ∧ ar.le 0 0 ∧ ar.le (ar.add 0 (rowsC x.fst)) (ar.tlen (oN x.snd.l.flatten x.fst (rowsC x.fst).toNat)) ∧ ar.le (ar.add 0 (rowsC
  x.fst)) (ar.tlen (oT x.snd.l.flatten x.fst (rowsC x.fst).toNat)) ∧ ar.le (ar.add 0 (rowsC x.fst)) (ar.ilen (oB x.snd.l.flatten x.fst (rowsC x.fst).toNat)) ∧ ar.le (ar.add 0
  (rowsC x.fst)) (ar.ilen (oO x.snd.l.flatten x.fst (rowsC x.fst).toNat)) ∧ ar.tsub (oN x.snd.l.flatten x.fst (rowsC x.fst).toNat) 0 (rowsC x.fst) = x_7.snd.objs.N ∧ ar.tsub (oT
  x.snd.l.flatten x.fst (rowsC x.fst).toNat) 0 (rowsC x.fst) = x_7.snd.objs.T ∧ ar.isub (oB x.snd.l.flatten x.fst (rowsC x.fst).toNat) 0 (rowsC x.fst) = x_7.snd.objs.B ∧ ar.isub
  (oO x.snd.l.flatten x.fst (rowsC x.fst).toNat) 0 (rowsC x.fst) = x_7.snd.objs.O ∧ rowsC x.fst = x_7.snd.objs.len ∧ i.snd.snd.snd.fst = x_7.snd.objs.cap ∧ ar.le 0 0 ∧ ar.le
  (ar.add 0 (↑i.fst : Int)) (ar.ilen (qL x.snd.l.flatten x.fst i.fst)) ∧ ar.isub (qL x.snd.l.flatten x.fst i.fst) 0 (↑i.fst : Int) = x_7.2.q ∧ (↑i.fst : Int) = x_7.2.qlen ∧
  i.snd.snd.snd.snd = x_7.2.qcap ∧ PoolIn x_7 ∧ ∀ (y : Unit), True → (¬PoolOK x_7.fst x_7.snd → ∃ (y : (Tree × Pool) × Int × Int × Int), DcPost x y ∧ 0 = y.fst.fst.files ∧ 0 =
  y.fst.fst.dirs ∧ 0 = y.fst.fst.nods.len ∧ 0 = y.fst.fst.nods.cap ∧ 0 = y.fst.snd.objs.len ∧ 0 = y.fst.snd.objs.cap ∧ 0 = y.fst.snd.qlen ∧ 0 = y.fst.snd.qcap ∧ 141 = dcE x.fst
  x.snd.l ∧ y.2.fst = 0 ∧ y.fst.fst.nods.K = [] ∧ y.fst.fst.nods.N = [] ∧ y.fst.fst.nods.P = [] ∧ y.fst.fst.nods.S = [] ∧ y.fst.fst.nods.Z = [] ∧ y.snd.snd.fst = 0 ∧
  y.fst.snd.objs.N = [] ∧ y.fst.snd.objs.T = [] ∧ y.fst.snd.objs.B = [] ∧ y.fst.snd.objs.O = [] ∧ y.snd.snd.snd = 0 ∧ y.fst.snd.q = [] ∧ True) ∧ (¬¬PoolOK x_7.fst x_7.snd → ∃ (x_8
  : Nods × Int), nLive x.snd.l.flatten x.fst (nRows x.fst) = x_8.1.len ∧ i.2.fst = x_8.1.cap ∧ i.2.fst = x_8.snd ∧ colK x.snd.l.flatten x.fst (nRows x.fst) = x_8.1.K ∧ colN
  x.snd.l.flatten x.fst (nRows x.fst) = x_8.1.N ∧ colP x.snd.l.flatten x.fst (nRows x.fst) = x_8.1.P ∧ colS x.snd.l.flatten x.fst (nRows x.fst) = x_8.1.S ∧ colZ x.snd.l.flatten
  x.fst (nRows x.fst) = x_8.1.Z ∧ ClipN x_8 ∧ ∀ (y : Unit), True → ∃ (x_9 : Objs × Int), rowsC x.fst = x_9.1.len ∧ i.snd.snd.snd.fst = x_9.1.cap ∧ i.snd.snd.snd.fst = x_9.snd ∧ oN
  x.snd.l.flatten x.fst (rowsC x.fst).toNat = x_9.1.N ∧ oT x.snd.l.flatten x.fst (rowsC x.fst).toNat = x_9.1.T ∧ oB x.snd.l.flatten x.fst (rowsC x.fst).toNat = x_9.1.B ∧ oO
  x.snd.l.flatten x.fst (rowsC x.fst).toNat = x_9.1.O ∧ ClipO x_9 ∧ ∀ (y : Unit), True → ∃ (x_10 : List Int × Int × Int × Int), (↑i.fst : Int) = x_10.2.fst ∧ i.snd.snd.snd.snd =
  x_10.snd.snd.fst ∧ i.snd.snd.snd.snd = x_10.snd.snd.snd ∧ qL x.snd.l.flatten x.fst i.fst = x_10.fst ∧ ClipQ x_10 ∧ ∀ (y : Unit), True → ∃ (y : (Tree × Pool) × Int × Int × Int),
  DcPost x y ∧ x.fst.files = y.fst.fst.files ∧ x.fst.dirs = y.fst.fst.dirs ∧ x_8.1.len = y.fst.fst.nods.len ∧ x_8.1.len = y.fst.fst.nods.cap ∧ x_9.1.len = y.fst.snd.objs.len ∧
  x_9.1.len = y.fst.snd.objs.cap ∧ x_10.2.fst = y.fst.snd.qlen ∧ x_10.2.fst = y.fst.snd.qcap ∧ 0 = dcE x.fst x.snd.l ∧ x_8.snd = y.2.fst ∧ x_8.1.K = y.fst.fst.nods.K ∧ x_8.1.N =
  y.fst.fst.nods.N ∧ x_8.1.P = y.fst.fst.nods.P ∧ x_8.1.S = y.fst.fst.nods.S ∧ x_8.1.Z = y.fst.fst.nods.Z ∧ x_9.snd = y.snd.snd.fst ∧ x_9.1.N = y.fst.snd.objs.N ∧ x_9.1.T =
  y.fst.snd.objs.T ∧ x_9.1.B = y.fst.snd.objs.B ∧ x_9.1.O = y.fst.snd.objs.O ∧ x_10.snd.snd.snd = y.snd.snd.snd ∧ x_10.fst = y.fst.snd.q ∧ True)) ∧ (¬(¬TreeOK x_6.fst x_6.snd →
  False) → ∃ (y : (Tree × Pool) × Int × Int × Int), DcPost x y ∧ 0 = y.fst.fst.files ∧ 0 = y.fst.fst.dirs ∧ 0 = y.fst.fst.nods.len ∧ 0 = y.fst.fst.nods.cap ∧ 0 = y.fst.snd.objs.len
  ∧ 0 = y.fst.snd.objs.cap ∧ 0 = y.fst.snd.qlen ∧ 0 = y.fst.snd.qcap ∧ 141 = dcE x.fst x.snd.l ∧ y.2.fst = 0 ∧ y.fst.fst.nods.K = [] ∧ y.fst.fst.nods.N = [] ∧ y.fst.fst.nods.P = []
  ∧ y.fst.fst.nods.S = [] ∧ y.fst.fst.nods.Z = [] ∧ y.snd.snd.fst = 0 ∧ y.fst.snd.objs.N = [] ∧ y.fst.snd.objs.T = [] ∧ y.fst.snd.objs.B = [] ∧ y.fst.snd.objs.O = [] ∧
  y.snd.snd.snd = 0 ∧ y.fst.snd.q = [] ∧ True)) ∧ (¬(ar.lt 0 ((↑y.fst : Int).sub (↑y.snd : Int)) → False) → ∃ (y : (Tree × Pool) × Int × Int × Int), DcPost x y ∧ 0 =
  y.fst.fst.files ∧ 0 = y.fst.fst.dirs ∧ 0 = y.fst.fst.nods.len ∧ 0 = y.fst.fst.nods.cap ∧ 0 = y.fst.snd.objs.len ∧ 0 = y.fst.snd.objs.cap ∧ 0 = y.fst.snd.qlen ∧ 0 = y.fst.snd.qcap
  ∧ 141 = dcE x.fst x.snd.l ∧ y.2.fst = 0 ∧ y.fst.fst.nods.K = [] ∧ y.fst.fst.nods.N = [] ∧ y.fst.fst.nods.P = [] ∧ y.fst.fst.nods.S = [] ∧ y.fst.fst.nods.Z = [] ∧ y.snd.snd.fst =
  0 ∧ y.fst.snd.objs.N = [] ∧ y.fst.snd.objs.T = [] ∧ y.fst.snd.objs.B = [] ∧ y.fst.snd.objs.O = [] ∧ y.snd.snd.snd = 0 ∧ y.fst.snd.q = [] ∧ True)) ∧ (¬(BadTo x.snd.l.flatten x.fst
  (nRows x.fst) ∨ (rowsC x.fst).lt (cntQ x.snd.l.flatten x.fst) → False) → ∃ (y : (Tree × Pool) × Int × Int × Int), DcPost x y ∧ 0 = y.fst.fst.files ∧ 0 = y.fst.fst.dirs ∧ 0 =
  y.fst.fst.nods.len ∧ 0 = y.fst.fst.nods.cap ∧ 0 = y.fst.snd.objs.len ∧ 0 = y.fst.snd.objs.cap ∧ 0 = y.fst.snd.qlen ∧ 0 = y.fst.snd.qcap ∧ 141 = dcE x.fst x.snd.l ∧ y.2.fst = 0 ∧
  y.fst.fst.nods.K = [] ∧ y.fst.fst.nods.N = [] ∧ y.fst.fst.nods.P = [] ∧ y.fst.fst.nods.S = [] ∧ y.fst.fst.nods.Z = [] ∧ y.snd.snd.fst = 0 ∧ y.fst.snd.objs.N = [] ∧
  y.fst.snd.objs.T = [] ∧ y.fst.snd.objs.B = [] ∧ y.fst.snd.objs.O = [] ∧ y.snd.snd.snd = 0 ∧ y.fst.snd.q = [] ∧ True))) ∧ (¬ar.lt (↑i.fst : Int) (numB (dropk x_4.1.l x_4.1.k
  x_4.snd)) → (∃ (i_1 : Nat × Int × Int × Int × Int), Dp4 x i_1 ∧ x.fst.slots = x.fst.slots ∧ x.fst.files = x.fst.files ∧ x.fst.dirs = x.fst.dirs ∧ x.fst.most = x.fst.most ∧
  x.fst.least = x.fst.least ∧ x.fst.page = x.fst.page ∧ x.snd.l = x.snd.l ∧ x.snd.len = x.snd.len ∧ x.snd.cap = x.snd.cap ∧ chk x_1 = chk x_1 ∧ numB (dropk x_4.1.l x_4.1.k x_4.snd)
  = cntP x.snd.l.flatten x.fst ∧ numB (dropk x_4.1.l x_4.1.k x_4.snd) = cntP x.snd.l.flatten x.fst ∧ 0 = (↑i_1.fst : Int) ∧ x.fst.slots = x.fst.slots ∧ x.fst.files = x.fst.files ∧
  x.fst.dirs = x.fst.dirs ∧ x.fst.most = x.fst.most ∧ x.fst.least = x.fst.least ∧ x.fst.page = x.fst.page ∧ x_3.snd = x_3.snd ∧ (Nat.add 0 ((x_4.1.k.add x_4.snd).toNat.mul 1)).add
  0 = (Nat.add 0 ((((offQ x.fst).add 4).add (Int.mul 4 (↑i_1.fst : Int))).toNat.mul 1)).add 0 ∧ (↑x_4.1.l.length : Int).sub (x_4.1.k.add x_4.snd) = (↑x.snd.l.flatten.length :
  Int).sub (((offQ x.fst).add 4).add (Int.mul 4 (↑i_1.fst : Int))) ∧ x_4.1.cap.sub (x_4.1.k.add x_4.snd) = i_1.snd.snd.fst.sub (((offQ x.fst).add 4).add (Int.mul 4 (↑i_1.fst :
  Int))) ∧ (x_4.1.3 ↔ BadTo x.snd.l.flatten x.fst (nRows x.fst) ∨ (rowsC x.fst).lt (cntQ x.snd.l.flatten x.fst)) ∧ x_4.1.cap = i_1.snd.snd.fst ∧ ints x_4.1.l = ints x.snd.l.flatten
  ∧ x.fst.files = x.fst.files ∧ x.fst.dirs = x.fst.dirs ∧ nLive x.snd.l.flatten x.fst (nRows x.fst) = nLive x.snd.l.flatten x.fst (nRows x.fst) ∧ i.2.fst = i_1.2.fst ∧ i.2.fst =
  i_1.2.fst ∧ colK x.snd.l.flatten x.fst (nRows x.fst) = colK x.snd.l.flatten x.fst (nRows x.fst) ∧ colN x.snd.l.flatten x.fst (nRows x.fst) = colN x.snd.l.flatten x.fst (nRows
  x.fst) ∧ colP x.snd.l.flatten x.fst (nRows x.fst) = colP x.snd.l.flatten x.fst (nRows x.fst) ∧ colS x.snd.l.flatten x.fst (nRows x.fst) = colS x.snd.l.flatten x.fst (nRows x.fst)
  ∧ colZ x.snd.l.flatten x.fst (nRows x.fst) = colZ x.snd.l.flatten x.fst (nRows x.fst) ∧ (↑i.fst : Int) = rowsC x.fst ∧ i.snd.snd.snd = i_1.snd.snd.snd.fst ∧ 0 = (↑i_1.fst : Int)
  ∧ 0 = i_1.snd.snd.snd.snd ∧ i.snd.snd.snd = i_1.snd.snd.snd.fst ∧ oN x.snd.l.flatten x.fst i.fst = oN x.snd.l.flatten x.fst (rowsC x.fst).toNat ∧ oT x.snd.l.flatten x.fst i.fst =
  oT x.snd.l.flatten x.fst (rowsC x.fst).toNat ∧ oB x.snd.l.flatten x.fst i.fst = oB x.snd.l.flatten x.fst (rowsC x.fst).toNat ∧ oO x.snd.l.flatten x.fst i.fst = oO x.snd.l.flatten
  x.fst (rowsC x.fst).toNat ∧ i_1.snd.snd.snd.snd = 0 ∧ qL x.snd.l.flatten x.fst i_1.fst = [] ∧ True) ∧ ∀ (i : Nat × Int × Int × Int × Int), Dp4 x i → (ar.lt (↑i.fst : Int) (cntP
  x.snd.l.flatten x.fst) → ∃ (x_5 : RImg × Int), 4 = x_5.snd ∧ (Nat.add 0 ((((offQ x.fst).add 4).add (Int.mul 4 (↑i.fst : Int))).toNat.mul 1)).add 0 = (Nat.add 0 ((x_5.1.k.add
  0).toNat.mul 1)).add 0 ∧ (↑x.snd.l.flatten.length : Int).sub (((offQ x.fst).add 4).add (Int.mul 4 (↑i.fst : Int))) = (↑x_5.1.l.length : Int).sub (x_5.1.k.add 0) ∧
  i.snd.snd.fst.sub (((offQ x.fst).add 4).add (Int.mul 4 (↑i.fst : Int))) = x_5.1.cap.sub (x_5.1.k.add 0) ∧ (BadTo x.snd.l.flatten x.fst (nRows x.fst) ∨ (rowsC x.fst).lt (cntQ
  x.snd.l.flatten x.fst) ↔ x_5.1.3) ∧ i.snd.snd.fst = x_5.1.cap ∧ ints x.snd.l.flatten = ints x_5.1.l ∧ NumIn x_5 ∧ ∀ (y : Unit), True → ar.le (ar.add 0 (↑i.fst : Int)) (ar.ilen
  (qL x.snd.l.flatten x.fst i.fst)) ∧ i.snd.snd.snd.snd = i.snd.snd.snd.snd ∧ ar.le (ar.mul (ar.add (↑i.fst : Int) 1) 8) 140737488355328 ∧ ∀ (c : Int), ar.le (ar.add (↑i.fst : Int)
  1) c → ∀ (z : Int), z = ar.wrap IntKind.i64 (ar.add (↑i.fst : Int) 1) → ∃ (j : Nat × Int × Int × Int × Int), Dp4 x j ∧ ((cntP x.snd.l.flatten x.fst).toNat.sub j.fst).lt ((cntP
  x.snd.l.flatten x.fst).toNat.sub i.fst) ∧ x.fst.slots = x.fst.slots ∧ x.fst.files = x.fst.files ∧ x.fst.dirs = x.fst.dirs ∧ x.fst.most = x.fst.most ∧ x.fst.least = x.fst.least ∧
  x.fst.page = x.fst.page ∧ x.snd.l = x.snd.l ∧ x.snd.len = x.snd.len ∧ x.snd.cap = x.snd.cap ∧ chk x_1 = chk x_1 ∧ cntP x.snd.l.flatten x.fst = cntP x.snd.l.flatten x.fst ∧ cntP
  x.snd.l.flatten x.fst = cntP x.snd.l.flatten x.fst ∧ z = (↑j.fst : Int) ∧ x.fst.slots = x.fst.slots ∧ x.fst.files = x.fst.files ∧ x.fst.dirs = x.fst.dirs ∧ x.fst.most =
  x.fst.most ∧ x.fst.least = x.fst.least ∧ x.fst.page = x.fst.page ∧ x_3.snd = x_3.snd ∧ (Nat.add 0 ((x_5.1.k.add x_5.snd).toNat.mul 1)).add 0 = (Nat.add 0 ((((offQ x.fst).add
  4).add (Int.mul 4 (↑j.fst : Int))).toNat.mul 1)).add 0 ∧ (↑x_5.1.l.length : Int).sub (x_5.1.k.add x_5.snd) = (↑x.snd.l.flatten.length : Int).sub (((offQ x.fst).add 4).add
  (Int.mul 4 (↑j.fst : Int))) ∧ x_5.1.cap.sub (x_5.1.k.add x_5.snd) = j.snd.snd.fst.sub (((offQ x.fst).add 4).add (Int.mul 4 (↑j.fst : Int))) ∧ (x_5.1.3 ↔ BadTo x.snd.l.flatten
  x.fst (nRows x.fst) ∨ (rowsC x.fst).lt (cntQ x.snd.l.flatten x.fst)) ∧ x_5.1.cap = j.snd.snd.fst ∧ ints x_5.1.l = ints x.snd.l.flatten ∧ x.fst.files = x.fst.files ∧ x.fst.dirs =
  x.fst.dirs ∧ nLive x.snd.l.flatten x.fst (nRows x.fst) = nLive x.snd.l.flatten x.fst (nRows x.fst) ∧ i.2.fst = j.2.fst ∧ i.2.fst = j.2.fst ∧ colK x.snd.l.flatten x.fst (nRows
  x.fst) = colK x.snd.l.flatten x.fst (nRows x.fst) ∧ colN x.snd.l.flatten x.fst (nRows x.fst) = colN x.snd.l.flatten x.fst (nRows x.fst) ∧ colP x.snd.l.flatten x.fst (nRows x.fst)
  = colP x.snd.l.flatten x.fst (nRows x.fst) ∧ colS x.snd.l.flatten x.fst (nRows x.fst) = colS x.snd.l.flatten x.fst (nRows x.fst) ∧ colZ x.snd.l.flatten x.fst (nRows x.fst) = colZ
  x.snd.l.flatten x.fst (nRows x.fst) ∧ rowsC x.fst = rowsC x.fst ∧ i.snd.snd.snd.fst = j.snd.snd.snd.fst ∧ ar.add (↑i.fst : Int) 1 = (↑j.fst : Int) ∧ c = j.snd.snd.snd.snd ∧
  i.snd.snd.snd.fst = j.snd.snd.snd.fst ∧ oN x.snd.l.flatten x.fst (rowsC x.fst).toNat = oN x.snd.l.flatten x.fst (rowsC x.fst).toNat ∧ oT x.snd.l.flatten x.fst (rowsC x.fst).toNat
  = oT x.snd.l.flatten x.fst (rowsC x.fst).toNat ∧ oB x.snd.l.flatten x.fst (rowsC x.fst).toNat = oB x.snd.l.flatten x.fst (rowsC x.fst).toNat ∧ oO x.snd.l.flatten x.fst (rowsC
  x.fst).toNat = oO x.snd.l.flatten x.fst (rowsC x.fst).toNat ∧ c = j.snd.snd.snd.snd ∧ ar.iapp (ar.isub (qL x.snd.l.flatten x.fst i.fst) 0 (↑i.fst : Int)) [numB (dropk x_5.1.l
  x_5.1.k x_5.snd)] = qL x.snd.l.flatten x.fst j.fst ∧ True) ∧ (¬ar.lt (↑i.fst : Int) (cntP x.snd.l.flatten x.fst) → ((BadTo x.snd.l.flatten x.fst (nRows x.fst) ∨ (rowsC x.fst).lt
  (cntQ x.snd.l.flatten x.fst) → False) → ∃ (x_5 : RImg), (Nat.add 0 ((((offQ x.fst).add 4).add (Int.mul 4 (↑i.fst : Int))).toNat.mul 1)).add 0 = (Nat.add 0 (x_5.k.toNat.mul
  1)).add 0 ∧ (↑x.snd.l.flatten.length : Int).sub (((offQ x.fst).add 4).add (Int.mul 4 (↑i.fst : Int))) = (↑x_5.l.length : Int).sub x_5.k ∧ i.snd.snd.fst.sub (((offQ x.fst).add
  4).add (Int.mul 4 (↑i.fst : Int))) = x_5.cap.sub x_5.k ∧ [UInt8.ofNat 0] = [UInt8.ofNat 0] ∧ i.snd.snd.fst = x_5.cap ∧ ints x.snd.l.flatten = ints x_5.l ∧ TrimIn x_5 ∧ (∀ (y :
  Unit), TrimNo x_5 → ∃ (x_6 : Cfg × Tree), x.fst.slots = x_6.1.slots ∧ x.fst.files = x_6.1.files ∧ x.fst.dirs = x_6.1.dirs ∧ x.fst.most = x_6.1.most ∧ x.fst.least = x_6.1.least ∧
  x.fst.page = x_6.1.page ∧ x.fst.files = x_6.2.files ∧ x.fst.dirs = x_6.2.dirs ∧ ar.le 0 0 ∧ ar.le (ar.add 0 (nLive x.snd.l.flatten x.fst (nRows x.fst))) (ar.ilen (colK
  x.snd.l.flatten x.fst (nRows x.fst))) ∧ ar.le (ar.add 0 (nLive x.snd.l.flatten x.fst (nRows x.fst))) (ar.ilen (colN x.snd.l.flatten x.fst (nRows x.fst))) ∧ ar.le (ar.add 0 (nLive
  x.snd.l.flatten x.fst (nRows x.fst))) (ar.ilen (colP x.snd.l.flatten x.fst (nRows x.fst))) ∧ ar.le (ar.add 0 (nLive x.snd.l.flatten x.fst (nRows x.fst))) (ar.tlen (colS
  x.snd.l.flatten x.fst (nRows x.fst))) ∧ ar.le (ar.add 0 (nLive x.snd.l.flatten x.fst (nRows x.fst))) (ar.ilen (colZ x.snd.l.flatten x.fst (nRows x.fst))) ∧ ar.isub (colK
  x.snd.l.flatten x.fst (nRows x.fst)) 0 (nLive x.snd.l.flatten x.fst (nRows x.fst)) = x_6.snd.nods.K ∧ ar.isub (colN x.snd.l.flatten x.fst (nRows x.fst)) 0 (nLive x.snd.l.flatten
  x.fst (nRows x.fst)) = x_6.snd.nods.N ∧ ar.isub (colP x.snd.l.flatten x.fst (nRows x.fst)) 0 (nLive x.snd.l.flatten x.fst (nRows x.fst)) = x_6.snd.nods.P ∧ ar.tsub (colS
  x.snd.l.flatten x.fst (nRows x.fst)) 0 (nLive x.snd.l.flatten x.fst (nRows x.fst)) = x_6.snd.nods.S ∧ ar.isub (colZ x.snd.l.flatten x.fst (nRows x.fst)) 0 (nLive x.snd.l.flatten
  x.fst (nRows x.fst)) = x_6.snd.nods.Z ∧ nLive x.snd.l.flatten x.fst (nRows x.fst) = x_6.snd.nods.len ∧ i.2.fst = x_6.snd.nods.cap ∧ TreeIn x_6 ∧ ∀ (y : Unit), True → ((¬TreeOK
  x_6.fst x_6.snd → False) → ∃ (x_7 : Cfg × Pool), x.fst.slots = x_7.1.slots ∧ x.fst.files = x_7.1.files ∧ x.fst.dirs = x_7.1.dirs ∧ x.fst.most = x_7.1.most ∧ x.fst.least =
  x_7.1.least ∧ x.fst.page = x_7.1.page ∧ ar.le 0 0 ∧ ar.le (ar.add 0 (rowsC x.fst)) (ar.tlen (oN x.snd.l.flatten x.fst (rowsC x.fst).toNat)) ∧ ar.le (ar.add 0 (rowsC x.fst))
  (ar.tlen (oT x.snd.l.flatten x.fst (rowsC x.fst).toNat)) ∧ ar.le (ar.add 0 (rowsC x.fst)) (ar.ilen (oB x.snd.l.flatten x.fst (rowsC x.fst).toNat)) ∧ ar.le (ar.add 0 (rowsC
  x.fst)) (ar.ilen (oO x.snd.l.flatten x.fst (rowsC x.fst).toNat)) ∧ ar.tsub (oN x.snd.l.flatten x.fst (rowsC x.fst).toNat) 0 (rowsC x.fst) = x_7.snd.objs.N ∧ ar.tsub (oT
  x.snd.l.flatten x.fst (rowsC x.fst).toNat) 0 (rowsC x.fst) = x_7.snd.objs.T ∧ ar.isub (oB x.snd.l.flatten x.fst (rowsC x.fst).toNat) 0 (rowsC x.fst) = x_7.snd.objs.B ∧ ar.isub
  (oO x.snd.l.flatten x.fst (rowsC x.fst).toNat) 0 (rowsC x.fst) = x_7.snd.objs.O ∧ rowsC x.fst = x_7.snd.objs.len ∧ i.snd.snd.snd.fst = x_7.snd.objs.cap ∧ ar.le 0 0 ∧ ar.le
  (ar.add 0 (↑i.fst : Int)) (ar.ilen (qL x.snd.l.flatten x.fst i.fst)) ∧ ar.isub (qL x.snd.l.flatten x.fst i.fst) 0 (↑i.fst : Int) = x_7.2.q ∧ (↑i.fst : Int) = x_7.2.qlen ∧
  i.snd.snd.snd.snd = x_7.2.qcap ∧ PoolIn x_7 ∧ ∀ (y : Unit), True → (¬PoolOK x_7.fst x_7.snd → ∃ (y : (Tree × Pool) × Int × Int × Int), DcPost x y ∧ 0 = y.fst.fst.files ∧ 0 =
  y.fst.fst.dirs ∧ 0 = y.fst.fst.nods.len ∧ 0 = y.fst.fst.nods.cap ∧ 0 = y.fst.snd.objs.len ∧ 0 = y.fst.snd.objs.cap ∧ 0 = y.fst.snd.qlen ∧ 0 = y.fst.snd.qcap ∧ 141 = dcE x.fst
  x.snd.l ∧ y.2.fst = 0 ∧ y.fst.fst.nods.K = [] ∧ y.fst.fst.nods.N = [] ∧ y.fst.fst.nods.P = [] ∧ y.fst.fst.nods.S = [] ∧ y.fst.fst.nods.Z = [] ∧ y.snd.snd.fst = 0 ∧
  y.fst.snd.objs.N = [] ∧ y.fst.snd.objs.T = [] ∧ y.fst.snd.objs.B = [] ∧ y.fst.snd.objs.O = [] ∧ y.snd.snd.snd = 0 ∧ y.fst.snd.q = [] ∧ True) ∧ (¬¬PoolOK x_7.fst x_7.snd → ∃ (x_8
  : Nods × Int), nLive x.snd.l.flatten x.fst (nRows x.fst) = x_8.1.len ∧ i.2.fst = x_8.1.cap ∧ i.2.fst = x_8.snd ∧ colK x.snd.l.flatten x.fst (nRows x.fst) = x_8.1.K ∧ colN
  x.snd.l.flatten x.fst (nRows x.fst) = x_8.1.N ∧ colP x.snd.l.flatten x.fst (nRows x.fst) = x_8.1.P ∧ colS x.snd.l.flatten x.fst (nRows x.fst) = x_8.1.S ∧ colZ x.snd.l.flatten
  x.fst (nRows x.fst) = x_8.1.Z ∧ ClipN x_8 ∧ ∀ (y : Unit), True → ∃ (x_9 : Objs × Int), rowsC x.fst = x_9.1.len ∧ i.snd.snd.snd.fst = x_9.1.cap ∧ i.snd.snd.snd.fst = x_9.snd ∧ oN
  x.snd.l.flatten x.fst (rowsC x.fst).toNat = x_9.1.N ∧ oT x.snd.l.flatten x.fst (rowsC x.fst).toNat = x_9.1.T ∧ oB x.snd.l.flatten x.fst (rowsC x.fst).toNat = x_9.1.B ∧ oO
  x.snd.l.flatten x.fst (rowsC x.fst).toNat = x_9.1.O ∧ ClipO x_9 ∧ ∀ (y : Unit), True → ∃ (x_10 : List Int × Int × Int × Int), (↑i.fst : Int) = x_10.2.fst ∧ i.snd.snd.snd.snd =
  x_10.snd.snd.fst ∧ i.snd.snd.snd.snd = x_10.snd.snd.snd ∧ qL x.snd.l.flatten x.fst i.fst = x_10.fst ∧ ClipQ x_10 ∧ ∀ (y : Unit), True → ∃ (y : (Tree × Pool) × Int × Int × Int),
  DcPost x y ∧ x.fst.files = y.fst.fst.files ∧ x.fst.dirs = y.fst.fst.dirs ∧ x_8.1.len = y.fst.fst.nods.len ∧ x_8.1.len = y.fst.fst.nods.cap ∧ x_9.1.len = y.fst.snd.objs.len ∧
  x_9.1.len = y.fst.snd.objs.cap ∧ x_10.2.fst = y.fst.snd.qlen ∧ x_10.2.fst = y.fst.snd.qcap ∧ 0 = dcE x.fst x.snd.l ∧ x_8.snd = y.2.fst ∧ x_8.1.K = y.fst.fst.nods.K ∧ x_8.1.N =
  y.fst.fst.nods.N ∧ x_8.1.P = y.fst.fst.nods.P ∧ x_8.1.S = y.fst.fst.nods.S ∧ x_8.1.Z = y.fst.fst.nods.Z ∧ x_9.snd = y.snd.snd.fst ∧ x_9.1.N = y.fst.snd.objs.N ∧ x_9.1.T =
  y.fst.snd.objs.T ∧ x_9.1.B = y.fst.snd.objs.B ∧ x_9.1.O = y.fst.snd.objs.O ∧ x_10.snd.snd.snd = y.snd.snd.snd ∧ x_10.fst = y.fst.snd.q ∧ True)) ∧ (¬(¬TreeOK x_6.fst x_6.snd →
  False) → ∃ (y : (Tree × Pool) × Int × Int × Int), DcPost x y ∧ 0 = y.fst.fst.files ∧ 0 = y.fst.fst.dirs ∧ 0 = y.fst.fst.nods.len ∧ 0 = y.fst.fst.nods.cap ∧ 0 = y.fst.snd.objs.len
  ∧ 0 = y.fst.snd.objs.cap ∧ 0 = y.fst.snd.qlen ∧ 0 = y.fst.snd.qcap ∧ 141 = dcE x.fst x.snd.l ∧ y.2.fst = 0 ∧ y.fst.fst.nods.K = [] ∧ y.fst.fst.nods.N = [] ∧ y.fst.fst.nods.P = []
  ∧ y.fst.fst.nods.S = [] ∧ y.fst.fst.nods.Z = [] ∧ y.snd.snd.fst = 0 ∧ y.fst.snd.objs.N = [] ∧ y.fst.snd.objs.T = [] ∧ y.fst.snd.objs.B = [] ∧ y.fst.snd.objs.O = [] ∧
  y.snd.snd.snd = 0 ∧ y.fst.snd.q = [] ∧ True)) ∧ ∀ (y : Nat × Nat), TrimYes x_5 y → ((ar.lt 0 ((↑y.fst : Int).sub (↑y.snd : Int)) → False) → ∃ (x_6 : Cfg × Tree), x.fst.slots =
  x_6.1.slots ∧ x.fst.files = x_6.1.files ∧ x.fst.dirs = x_6.1.dirs ∧ x.fst.most = x_6.1.most ∧ x.fst.least = x_6.1.least ∧ x.fst.page = x_6.1.page ∧ x.fst.files = x_6.2.files ∧
  x.fst.dirs = x_6.2.dirs ∧ ar.le 0 0 ∧ ar.le (ar.add 0 (nLive x.snd.l.flatten x.fst (nRows x.fst))) (ar.ilen (colK x.snd.l.flatten x.fst (nRows x.fst))) ∧ ar.le (ar.add 0 (nLive
  x.snd.l.flatten x.fst (nRows x.fst))) (ar.ilen (colN x.snd.l.flatten x.fst (nRows x.fst))) ∧ ar.le (ar.add 0 (nLive x.snd.l.flatten x.fst (nRows x.fst))) (ar.ilen (colP
  x.snd.l.flatten x.fst (nRows x.fst))) ∧ ar.le (ar.add 0 (nLive x.snd.l.flatten x.fst (nRows x.fst))) (ar.tlen (colS x.snd.l.flatten x.fst (nRows x.fst))) ∧ ar.le (ar.add 0 (nLive
  x.snd.l.flatten x.fst (nRows x.fst))) (ar.ilen (colZ x.snd.l.flatten x.fst (nRows x.fst))) ∧ ar.isub (colK x.snd.l.flatten x.fst (nRows x.fst)) 0 (nLive x.snd.l.flatten x.fst
  (nRows x.fst)) = x_6.snd.nods.K ∧ ar.isub (colN x.snd.l.flatten x.fst (nRows x.fst)) 0 (nLive x.snd.l.flatten x.fst (nRows x.fst)) = x_6.snd.nods.N ∧ ar.isub (colP
  x.snd.l.flatten x.fst (nRows x.fst)) 0 (nLive x.snd.l.flatten x.fst (nRows x.fst)) = x_6.snd.nods.P ∧ ar.tsub (colS x.snd.l.flatten x.fst (nRows x.fst)) 0 (nLive x.snd.l.flatten
  x.fst (nRows x.fst)) = x_6.snd.nods.S ∧ ar.isub (colZ x.snd.l.flatten x.fst (nRows x.fst)) 0 (nLive x.snd.l.flatten x.fst (nRows x.fst)) = x_6.snd.nods.Z ∧ nLive x.snd.l.flatten
  x.fst (nRows x.fst) = x_6.snd.nods.len ∧ i.2.fst = x_6.snd.nods.cap ∧ TreeIn x_6 ∧ ∀ (y : Unit), True → ((¬TreeOK x_6.fst x_6.snd → False) → ∃ (x_7 : Cfg × Pool), x.fst.slots =
  x_7.1.slots ∧ x.fst.files = x_7.1.files ∧ x.fst.dirs = x_7.1.dirs ∧ x.fst.most = x_7.1.most ∧ x.fst.least = x_7.1.least ∧ x.fst.page = x_7.1.page ∧ ar.le 0 0 ∧ ar.le (ar.add 0
  (rowsC x.fst)) (ar.tlen (oN x.snd.l.flatten x.fst (rowsC x.fst).toNat)) ∧ ar.le (ar.add 0 (rowsC x.fst)) (ar.tlen (oT x.snd.l.flatten x.fst (rowsC x.fst).toNat)) ∧ ar.le (ar.add
  0 (rowsC x.fst)) (ar.ilen (oB x.snd.l.flatten x.fst (rowsC x.fst).toNat)) ∧ ar.le (ar.add 0 (rowsC x.fst)) (ar.ilen (oO x.snd.l.flatten x.fst (rowsC x.fst).toNat)) ∧ ar.tsub (oN
  x.snd.l.flatten x.fst (rowsC x.fst).toNat) 0 (rowsC x.fst) = x_7.snd.objs.N ∧ ar.tsub (oT x.snd.l.flatten x.fst (rowsC x.fst).toNat) 0 (rowsC x.fst) = x_7.snd.objs.T ∧ ar.isub
  (oB x.snd.l.flatten x.fst (rowsC x.fst).toNat) 0 (rowsC x.fst) = x_7.snd.objs.B ∧ ar.isub (oO x.snd.l.flatten x.fst (rowsC x.fst).toNat) 0 (rowsC x.fst) = x_7.snd.objs.O ∧ rowsC
  x.fst = x_7.snd.objs.len ∧ i.snd.snd.snd.fst = x_7.snd.objs.cap ∧ ar.le 0 0 ∧ ar.le (ar.add 0 (↑i.fst : Int)) (ar.ilen (qL x.snd.l.flatten x.fst i.fst)) ∧ ar.isub (qL
  x.snd.l.flatten x.fst i.fst) 0 (↑i.fst : Int) = x_7.2.q ∧ (↑i.fst : Int) = x_7.2.qlen ∧ i.snd.snd.snd.snd = x_7.2.qcap ∧ PoolIn x_7 ∧ ∀ (y : Unit), True → (¬PoolOK x_7.fst
  x_7.snd → ∃ (y : (Tree × Pool) × Int × Int × Int), DcPost x y ∧ 0 = y.fst.fst.files ∧ 0 = y.fst.fst.dirs ∧ 0 = y.fst.fst.nods.len ∧ 0 = y.fst.fst.nods.cap ∧ 0 =
  y.fst.snd.objs.len ∧ 0 = y.fst.snd.objs.cap ∧ 0 = y.fst.snd.qlen ∧ 0 = y.fst.snd.qcap ∧ 141 = dcE x.fst x.snd.l ∧ y.2.fst = 0 ∧ y.fst.fst.nods.K = [] ∧ y.fst.fst.nods.N = [] ∧
  y.fst.fst.nods.P = [] ∧ y.fst.fst.nods.S = [] ∧ y.fst.fst.nods.Z = [] ∧ y.snd.snd.fst = 0 ∧ y.fst.snd.objs.N = [] ∧ y.fst.snd.objs.T = [] ∧ y.fst.snd.objs.B = [] ∧
  y.fst.snd.objs.O = [] ∧ y.snd.snd.snd = 0 ∧ y.fst.snd.q = [] ∧ True) ∧ (¬¬PoolOK x_7.fst x_7.snd → ∃ (x_8 : Nods × Int), nLive x.snd.l.flatten x.fst (nRows x.fst) = x_8.1.len ∧
  i.2.fst = x_8.1.cap ∧ i.2.fst = x_8.snd ∧ colK x.snd.l.flatten x.fst (nRows x.fst) = x_8.1.K ∧ colN x.snd.l.flatten x.fst (nRows x.fst) = x_8.1.N ∧ colP x.snd.l.flatten x.fst
  (nRows x.fst) = x_8.1.P ∧ colS x.snd.l.flatten x.fst (nRows x.fst) = x_8.1.S ∧ colZ x.snd.l.flatten x.fst (nRows x.fst) = x_8.1.Z ∧ ClipN x_8 ∧ ∀ (y : Unit), True → ∃ (x_9 : Objs
  × Int), rowsC x.fst = x_9.1.len ∧ i.snd.snd.snd.fst = x_9.1.cap ∧ i.snd.snd.snd.fst = x_9.snd ∧ oN x.snd.l.flatten x.fst (rowsC x.fst).toNat = x_9.1.N ∧ oT x.snd.l.flatten x.fst
  (rowsC x.fst).toNat = x_9.1.T ∧ oB x.snd.l.flatten x.fst (rowsC x.fst).toNat = x_9.1.B ∧ oO x.snd.l.flatten x.fst (rowsC x.fst).toNat = x_9.1.O ∧ ClipO x_9 ∧ ∀ (y : Unit), True →
  ∃ (x_10 : List Int × Int × Int × Int), (↑i.fst : Int) = x_10.2.fst ∧ i.snd.snd.snd.snd = x_10.snd.snd.fst ∧ i.snd.snd.snd.snd = x_10.snd.snd.snd ∧ qL x.snd.l.flatten x.fst i.fst
  = x_10.fst ∧ ClipQ x_10 ∧ ∀ (y : Unit), True → ∃ (y : (Tree × Pool) × Int × Int × Int), DcPost x y ∧ x.fst.files = y.fst.fst.files ∧ x.fst.dirs = y.fst.fst.dirs ∧ x_8.1.len =
  y.fst.fst.nods.len ∧ x_8.1.len = y.fst.fst.nods.cap ∧ x_9.1.len = y.fst.snd.objs.len ∧ x_9.1.len = y.fst.snd.objs.cap ∧ x_10.2.fst = y.fst.snd.qlen ∧ x_10.2.fst = y.fst.snd.qcap
  ∧ 0 = dcE x.fst x.snd.l ∧ x_8.snd = y.2.fst ∧ x_8.1.K = y.fst.fst.nods.K ∧ x_8.1.N = y.fst.fst.nods.N ∧ x_8.1.P = y.fst.fst.nods.P ∧ x_8.1.S = y.fst.fst.nods.S ∧ x_8.1.Z =
  y.fst.fst.nods.Z ∧ x_9.snd = y.snd.snd.fst ∧ x_9.1.N = y.fst.snd.objs.N ∧ x_9.1.T = y.fst.snd.objs.T ∧ x_9.1.B = y.fst.snd.objs.B ∧ x_9.1.O = y.fst.snd.objs.O ∧ x_10.snd.snd.snd
  = y.snd.snd.snd ∧ x_10.fst = y.fst.snd.q ∧ True)) ∧ (¬(¬TreeOK x_6.fst x_6.snd → False) → ∃ (y : (Tree × Pool) × Int × Int × Int), DcPost x y ∧ 0 = y.fst.fst.files ∧ 0 =
  y.fst.fst.dirs ∧ 0 = y.fst.fst.nods.len ∧ 0 = y.fst.fst.nods.cap ∧ 0 = y.fst.snd.objs.len ∧ 0 = y.fst.snd.objs.cap ∧ 0 = y.fst.snd.qlen ∧ 0 = y.fst.snd.qcap ∧ 141 = dcE x.fst
  x.snd.l ∧ y.2.fst = 0 ∧ y.fst.fst.nods.K = [] ∧ y.fst.fst.nods.N = [] ∧ y.fst.fst.nods.P = [] ∧ y.fst.fst.nods.S = [] ∧ y.fst.fst.nods.Z = [] ∧ y.snd.snd.fst = 0 ∧
  y.fst.snd.objs.N = [] ∧ y.fst.snd.objs.T = [] ∧ y.fst.snd.objs.B = [] ∧ y.fst.snd.objs.O = [] ∧ y.snd.snd.snd = 0 ∧ y.fst.snd.q = [] ∧ True)) ∧ (¬(ar.lt 0 ((↑y.fst : Int).sub
  (↑y.snd : Int)) → False) → ∃ (y : (Tree × Pool) × Int × Int × Int), DcPost x y ∧ 0 = y.fst.fst.files ∧ 0 = y.fst.fst.dirs ∧ 0 = y.fst.fst.nods.len ∧ 0 = y.fst.fst.nods.cap ∧ 0 =
  y.fst.snd.objs.len ∧ 0 = y.fst.snd.objs.cap ∧ 0 = y.fst.snd.qlen ∧ 0 = y.fst.snd.qcap ∧ 141 = dcE x.fst x.snd.l ∧ y.2.fst = 0 ∧ y.fst.fst.nods.K = [] ∧ y.fst.fst.nods.N = [] ∧
  y.fst.fst.nods.P = [] ∧ y.fst.fst.nods.S = [] ∧ y.fst.fst.nods.Z = [] ∧ y.snd.snd.fst = 0 ∧ y.fst.snd.objs.N = [] ∧ y.fst.snd.objs.T = [] ∧ y.fst.snd.objs.B = [] ∧
  y.fst.snd.objs.O = [] ∧ y.snd.snd.snd = 0 ∧ y.fst.snd.q = [] ∧ True)) ∧ (¬(BadTo x.snd.l.flatten x.fst (nRows x.fst) ∨ (rowsC x.fst).lt (cntQ x.snd.l.flatten x.fst) → False) → ∃
  (y : (Tree × Pool) × Int × Int × Int), DcPost x y ∧ 0 = y.fst.fst.files ∧ 0 = y.fst.fst.dirs ∧ 0 = y.fst.fst.nods.len ∧ 0 = y.fst.fst.nods.cap ∧ 0 = y.fst.snd.objs.len ∧ 0 =
  y.fst.snd.objs.cap ∧ 0 = y.fst.snd.qlen ∧ 0 = y.fst.snd.qcap ∧ 141 = dcE x.fst x.snd.l ∧ y.2.fst = 0 ∧ y.fst.fst.nods.K = [] ∧ y.fst.fst.nods.N = [] ∧ y.fst.fst.nods.P = [] ∧
  y.fst.fst.nods.S = [] ∧ y.fst.fst.nods.Z = [] ∧ y.snd.snd.fst = 0 ∧ y.fst.snd.objs.N = [] ∧ y.fst.snd.objs.T = [] ∧ y.fst.snd.objs.B = [] ∧ y.fst.snd.objs.O = [] ∧ y.snd.snd.snd
  = 0 ∧ y.fst.snd.q = [] ∧ True))))))))) ∧ (¬(¬ar.eq x.snd.len (pagesI x_2) → False) → ∃ (y : (Tree × Pool) × Int × Int × Int), DcPost x y ∧ 0 = y.fst.fst.files ∧ 0 =
  y.fst.fst.dirs ∧ 0 = y.fst.fst.nods.len ∧ 0 = y.fst.fst.nods.cap ∧ 0 = y.fst.snd.objs.len ∧ 0 = y.fst.snd.objs.cap ∧ 0 = y.fst.snd.qlen ∧ 0 = y.fst.snd.qcap ∧ 141 = dcE x.fst
  x.snd.l ∧ y.2.fst = 0 ∧ y.fst.fst.nods.K = [] ∧ y.fst.fst.nods.N = [] ∧ y.fst.fst.nods.P = [] ∧ y.fst.fst.nods.S = [] ∧ y.fst.fst.nods.Z = [] ∧ y.snd.snd.fst = 0 ∧
  y.fst.snd.objs.N = [] ∧ y.fst.snd.objs.T = [] ∧ y.fst.snd.objs.B = [] ∧ y.fst.snd.objs.O = [] ∧ y.snd.snd.snd = 0 ∧ y.fst.snd.q = [] ∧ True))
theorem dc_eq (ar : AR) (x : dcSpec.X) : (run ar PP dpSpecs (dpInvs x) 1000 10 (dcSpec.H x).length (Tryd.f10.body.getD .skip) (dcSpec.A x ++ List.replicate (Tryd.f10.ntmps - (dcSpec.A x).length) .any) (dcSpec.H x) (endCall ar PP Tryd.f10.results.toList (dcSpec.fin x))) = dc_vc ar x := by
  kernel_rfl
theorem dc_of (h : ∀ x, dcSpec.pre x → dc_vc ar0 x) : dcSpec.OK PP 10 :=
  Spec.ok_of_run (fn := Tryd.f10) (c := Tryd.f10.body.getD .skip) (by kernel_rfl) (by kernel_rfl) (by kernel_rfl) dpSpecs_ok dpInvs 1000 (fun x hx => (dc_eq ar0 x).mpr (h x hx))
end Go.Eng
