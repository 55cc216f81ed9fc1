/- Index: the pieces of a text: the iterator of slices.Chunk, walked by hand. -/
import Derived.Test.YtfcjboomlfjanaaIndexEC
import Derived.RangeFuncBox
import Derived.RangeFuncLeaves
import Derived.Shelf.Abstract
import Derived.WalkKit
import Derived.OwnWalkIn
import Derived.TacticsInMore
import Derived.LoopNIn
import Derived.LoopIn
import Derived.Sort.QuietTacIn
import Derived.Lib.Hide
set_option linter.unusedVariables false
set_option linter.unusedSimpArgs false

/- Index: what is handed in. -/
namespace Go.PL
def Nods.marks (x : Nods) (cap : Int) : Nods := ⟨x.K ++ [71, 72], x.N ++ [0, 0], x.P ++ [0, 0], x.S ++ [[], []], x.Z ++ [0, 0], x.len + 2, cap⟩
def Objs.marks (x : Objs) (cap : Int) : Objs := ⟨x.N ++ [[], []], x.T ++ [[], []], x.B ++ [0, 0], x.O ++ [73, 74], x.len + 2, cap⟩
structure HandIn (x : Tree × Pool) : Prop where
  nods : NodsOK x.1.nods
  pool : PoolAny x.2
  n : (x.1.nods.len + 2) * 48 ≤ 140737488355328
  o : (x.2.objs.len + 2) * 48 ≤ 140737488355328
  q : (x.2.qlen + 2) * 8 ≤ 140737488355328
structure Caps (x : Tree × Pool) (y : Int × Int × Int) : Prop where
  n : x.1.nods.len + 2 ≤ y.1
  o : x.2.objs.len + 2 ≤ y.2.1
  q : x.2.qlen + 2 ≤ y.2.2
structure HdIn (x : Nods × Pool) : Prop where
  n : 2 ≤ x.1.len ∧ x.1.len ≤ x.1.cap ∧ x.1.len ≤ 140737488351232
  o : 2 ≤ x.2.objs.len ∧ x.2.objs.len ≤ x.2.objs.cap ∧ x.2.objs.len ≤ 140737488351232
  q : 2 ≤ x.2.qlen ∧ x.2.qlen ≤ x.2.qcap ∧ x.2.qlen ≤ 140737488351232
structure LeftIn (x : Tree × Pool × Int × Int × Int) : Prop where
  nods : NodsOK x.1.nods
  pool : PoolAny x.2.1
  n : x.1.nods.len + 2 ≤ x.2.2.1
  o : x.2.1.objs.len + 2 ≤ x.2.2.2.1
  q : x.2.1.qlen + 2 ≤ x.2.2.2.2
theorem sub_full {α : Type} {l : List α} {n : Int} (h : (l.length : Int) = n) : (l.drop (Int.toNat 0)).take n.toNat = l := by
  subst h
  simp
theorem sub_app {α : Type} {l m : List α} {n : Int} (h : (l.length : Int) = n) : ((l ++ m).drop (Int.toNat 0)).take n.toNat = l := by
  subst h
  simp
theorem mark0 {α : Type} {l : List α} {a b d : α} {n : Int} (h : (l.length : Int) = n) : (l ++ [a, b]).getD n.toNat d = a := by
  subst h
  simp [List.getD]
theorem mark1 {α : Type} {l : List α} {a b d : α} {n : Int} (h : (l.length : Int) = n) : (l ++ [a, b]).getD (n + 1).toNat d = b := by
  subst h
  rw [show ((l.length : Int) + 1).toNat = l.length + 1 by omega]
  simp [List.getD, List.getElem?_append_right]
structure HdTIn (x : (Nods × Pool) × Tree) : Prop where
  h : HdIn x.1
end Go.PL
set_option linter.unusedSectionVars false
set_option linter.unusedSimpArgs false
set_option linter.unusedVariables false
namespace Go.Eng
variable [CW : CWorld]
open Go.Proofs
open Go.PL (Cfg CfgIn CfgOK CfgBad Img RImg Refs Nod Nods Tree Objs Pool Txts)
set_option maxRecDepth 100000
attribute [local irreducible] run
theorem ex_tt {a b : Tree} {Q : Tree × Tree → Prop} :
    (∃ y : Tree × Tree, a.files = y.1.files ∧ a.dirs = y.1.dirs ∧ a.nods.K = y.1.nods.K ∧ a.nods.N = y.1.nods.N ∧ a.nods.P = y.1.nods.P ∧ a.nods.S = y.1.nods.S ∧ a.nods.Z = y.1.nods.Z ∧ a.nods.len = y.1.nods.len ∧ a.nods.cap = y.1.nods.cap ∧
      b.files = y.2.files ∧ b.dirs = y.2.dirs ∧ b.nods.K = y.2.nods.K ∧ b.nods.N = y.2.nods.N ∧ b.nods.P = y.2.nods.P ∧ b.nods.S = y.2.nods.S ∧ b.nods.Z = y.2.nods.Z ∧ b.nods.len = y.2.nods.len ∧ b.nods.cap = y.2.nods.cap ∧ Q y) ↔ Q (a, b) := by
  constructor
  · rintro ⟨⟨⟨t1, t2, ⟨n1, n2, n3, n4, n5, n6, n7⟩⟩, ⟨u1, u2, ⟨m1, m2, m3, m4, m5, m6, m7⟩⟩⟩, g1, g2, g3, g4, g5, g6, g7, g8, g9, h1, h2, h3, h4, h5, h6, h7, h8, h9, h⟩
    obtain ⟨a1, a2, ⟨a3, a4, a5, a6, a7, a8, a9⟩⟩ := a
    obtain ⟨b1, b2, ⟨b3, b4, b5, b6, b7, b8, b9⟩⟩ := b
    simp only at g1 g2 g3 g4 g5 g6 g7 g8 g9 h1 h2 h3 h4 h5 h6 h7 h8 h9
    subst g1 g2 g3 g4 g5 g6 g7 g8 g9 h1 h2 h3 h4 h5 h6 h7 h8 h9
    exact h
  · exact fun h => ⟨_, rfl, rfl, rfl, rfl, rfl, rfl, rfl, rfl, rfl, rfl, rfl, rfl, rfl, rfl, rfl, rfl, rfl, rfl, h⟩
theorem ex_pp {a b : Pool} {Q : Pool × Pool → Prop} :
    (∃ y : Pool × Pool, a.objs.N = y.1.objs.N ∧ a.objs.T = y.1.objs.T ∧ a.objs.B = y.1.objs.B ∧ a.objs.O = y.1.objs.O ∧ a.objs.len = y.1.objs.len ∧ a.objs.cap = y.1.objs.cap ∧ a.q = y.1.q ∧ a.qlen = y.1.qlen ∧ a.qcap = y.1.qcap ∧
      b.objs.N = y.2.objs.N ∧ b.objs.T = y.2.objs.T ∧ b.objs.B = y.2.objs.B ∧ b.objs.O = y.2.objs.O ∧ b.objs.len = y.2.objs.len ∧ b.objs.cap = y.2.objs.cap ∧ b.q = y.2.q ∧ b.qlen = y.2.qlen ∧ b.qcap = y.2.qcap ∧ Q y) ↔ Q (a, b) := by
  constructor
  · rintro ⟨⟨⟨⟨n1, n2, n3, n4, n5, n6⟩, t1, t2, t3⟩, ⟨⟨m1, m2, m3, m4, m5, m6⟩, u1, u2, u3⟩⟩, g1, g2, g3, g4, g5, g6, g7, g8, g9, h1, h2, h3, h4, h5, h6, h7, h8, h9, h⟩
    obtain ⟨⟨a1, a2, a3, a4, a5, a6⟩, a7, a8, a9⟩ := a
    obtain ⟨⟨b1, b2, b3, b4, b5, b6⟩, b7, b8, b9⟩ := b
    simp only at g1 g2 g3 g4 g5 g6 g7 g8 g9 h1 h2 h3 h4 h5 h6 h7 h8 h9
    subst g1 g2 g3 g4 g5 g6 g7 g8 g9 h1 h2 h3 h4 h5 h6 h7 h8 h9
    exact h
  · exact fun h => ⟨_, rfl, rfl, rfl, rfl, rfl, rfl, rfl, rfl, rfl, rfl, rfl, rfl, rfl, rfl, rfl, rfl, rfl, rfl, h⟩
def objsB (x : Objs) : Blk := .mk 94 [.arr (.x x.cap) [.strs x.N, .strs x.T, .ints .i64 x.B, .ints .i64 x.O]]
def intsB (l : List Int) (cap : Int) : Blk := .mk 3 [.arr (.x cap) [.ints .i64 l]]
def handB (n : Nods) (p : Pool) : Blk := .mk 90 [.one (.slc 1 (.l 0) (.x n.len) (.x n.cap)), .one (.slc 2 (.l 0) (.x p.objs.len) (.x p.objs.cap)), .one (.slc 3 (.l 0) (.x p.qlen) (.x p.qcap))]
def handH (n : Nods) (p : Pool) : List Blk := [handB n p, nodsB n, objsB p.objs, intsB p.q p.qcap]
def markP (p : Pool) (y : Int × Int × Int) : Pool := ⟨p.objs.marks y.2.1, p.q ++ [75, 76], p.qlen + 2, y.2.2⟩
def handSpec : Spec where
  X := Tree × Pool
  A x := [.agg (treeL x.1), .agg (poolL x.2)]
  H x := []
  pre x := PL.HandIn x
  outs := [{ Y _ := Int × Int × Int, post x y := PL.Caps x y, R _ _ := .ptr 0 (.l 0), H' x y := handH (x.1.nods.marks y.1) (markP x.2 y) }]
  frz := true
def hand_vc (ar : AR) (x : handSpec.X) : Prop :=
  ar.le (ar.add 0 x.fst.nods.len) (ar.ilen x.fst.nods.K) ∧ ar.le (ar.add 0 x.fst.nods.len) (ar.ilen x.fst.nods.N) ∧ ar.le (ar.add 0 x.fst.nods.len) (ar.ilen x.fst.nods.P) ∧ ar.le
  (ar.add 0 x.fst.nods.len) (ar.tlen x.fst.nods.S) ∧ ar.le (ar.add 0 x.fst.nods.len) (ar.ilen x.fst.nods.Z) ∧ ar.le (ar.mul x.fst.nods.len 48) 140737488355328 ∧ ∀ (c : Int), ar.le
  x.fst.nods.len c → ar.le (ar.add 0 x.fst.nods.len) (ar.ilen (ar.isub x.fst.nods.K 0 x.fst.nods.len)) ∧ ar.le (ar.add 0 x.fst.nods.len) (ar.ilen (ar.isub x.fst.nods.N 0
  x.fst.nods.len)) ∧ ar.le (ar.add 0 x.fst.nods.len) (ar.ilen (ar.isub x.fst.nods.P 0 x.fst.nods.len)) ∧ ar.le (ar.add 0 x.fst.nods.len) (ar.tlen (ar.tsub x.fst.nods.S 0
  x.fst.nods.len)) ∧ ar.le (ar.add 0 x.fst.nods.len) (ar.ilen (ar.isub x.fst.nods.Z 0 x.fst.nods.len)) ∧ c = c ∧ ar.le (ar.mul (ar.add x.fst.nods.len 2) 48) 140737488355328 ∧ ∀ (c
  : Int), ar.le (ar.add x.fst.nods.len 2) c → ar.le (ar.add 0 x.snd.objs.len) (ar.tlen x.snd.objs.N) ∧ ar.le (ar.add 0 x.snd.objs.len) (ar.tlen x.snd.objs.T) ∧ ar.le (ar.add 0
  x.snd.objs.len) (ar.ilen x.snd.objs.B) ∧ ar.le (ar.add 0 x.snd.objs.len) (ar.ilen x.snd.objs.O) ∧ ar.le (ar.mul x.snd.objs.len 48) 140737488355328 ∧ ∀ (c_1 : Int), ar.le
  x.snd.objs.len c_1 → ar.le (ar.add 0 x.snd.objs.len) (ar.tlen (ar.tsub x.snd.objs.N 0 x.snd.objs.len)) ∧ ar.le (ar.add 0 x.snd.objs.len) (ar.tlen (ar.tsub x.snd.objs.T 0
  x.snd.objs.len)) ∧ ar.le (ar.add 0 x.snd.objs.len) (ar.ilen (ar.isub x.snd.objs.B 0 x.snd.objs.len)) ∧ ar.le (ar.add 0 x.snd.objs.len) (ar.ilen (ar.isub x.snd.objs.O 0
  x.snd.objs.len)) ∧ c_1 = c_1 ∧ ar.le (ar.mul (ar.add x.snd.objs.len 2) 48) 140737488355328 ∧ ∀ (c_2 : Int), ar.le (ar.add x.snd.objs.len 2) c_2 → ar.le (ar.add 0 x.snd.qlen)
  (ar.ilen x.snd.q) ∧ ar.le (ar.mul x.snd.qlen 8) 140737488355328 ∧ ∀ (c_3 : Int), ar.le x.snd.qlen c_3 → ar.le (ar.add 0 x.snd.qlen) (ar.ilen (ar.isub x.snd.q 0 x.snd.qlen)) ∧ c_3
  = c_3 ∧ ar.le (ar.mul (ar.add x.snd.qlen 2) 8) 140737488355328 ∧ ∀ (c_4 : Int), ar.le (ar.add x.snd.qlen 2) c_4 → ∃ (y : Int × Int × Int), PL.Caps x y ∧ ar.add x.fst.nods.len 2 =
  x.fst.nods.len.add 2 ∧ c = y.fst ∧ ar.add x.snd.objs.len 2 = x.snd.objs.len.add 2 ∧ c_2 = y.2.fst ∧ ar.add x.snd.qlen 2 = x.snd.qlen.add 2 ∧ c_4 = y.2.snd ∧ c = y.fst ∧ ar.iapp
  (ar.isub (ar.isub x.fst.nods.K 0 x.fst.nods.len) 0 x.fst.nods.len) [71, 72] = x.fst.nods.K.append [71, 72] ∧ ar.iapp (ar.isub (ar.isub x.fst.nods.N 0 x.fst.nods.len) 0
  x.fst.nods.len) [0, 0] = x.fst.nods.N.append [0, 0] ∧ ar.iapp (ar.isub (ar.isub x.fst.nods.P 0 x.fst.nods.len) 0 x.fst.nods.len) [0, 0] = x.fst.nods.P.append [0, 0] ∧ ar.tapp
  (ar.tsub (ar.tsub x.fst.nods.S 0 x.fst.nods.len) 0 x.fst.nods.len) [[], []] = x.fst.nods.S.append [[], []] ∧ ar.iapp (ar.isub (ar.isub x.fst.nods.Z 0 x.fst.nods.len) 0
  x.fst.nods.len) [0, 0] = x.fst.nods.Z.append [0, 0] ∧ c_2 = y.2.fst ∧ ar.tapp (ar.tsub (ar.tsub x.snd.objs.N 0 x.snd.objs.len) 0 x.snd.objs.len) [[], []] = x.snd.objs.N.append
  [[], []] ∧ ar.tapp (ar.tsub (ar.tsub x.snd.objs.T 0 x.snd.objs.len) 0 x.snd.objs.len) [[], []] = x.snd.objs.T.append [[], []] ∧ ar.iapp (ar.isub (ar.isub x.snd.objs.B 0
  x.snd.objs.len) 0 x.snd.objs.len) [0, 0] = x.snd.objs.B.append [0, 0] ∧ ar.iapp (ar.isub (ar.isub x.snd.objs.O 0 x.snd.objs.len) 0 x.snd.objs.len) [73, 74] = x.snd.objs.O.append
  [73, 74] ∧ c_4 = y.2.snd ∧ ar.iapp (ar.isub (ar.isub x.snd.q 0 x.snd.qlen) 0 x.snd.qlen) [75, 76] = x.snd.q.append [75, 76] ∧ True
theorem hand_eq (ar : AR) (x : handSpec.X) : (run ar PP noSpec noInv 1000 21 (handSpec.H x).length (Try.f21.body.getD .skip) (handSpec.A x ++ List.replicate (Try.f21.ntmps - (handSpec.A x).length) .any) (handSpec.H x) (endCall ar PP Try.f21.results.toList (handSpec.fin x))) = hand_vc ar x := by
  kernel_rfl
theorem hand_of (h : ∀ x, handSpec.pre x → hand_vc ar0 x) : handSpec.OK PP 21 :=
  Spec.ok_of_run (fn := Try.f21) (c := Try.f21.body.getD .skip) (by kernel_rfl) (by kernel_rfl) (by kernel_rfl) noSpec_ok (fun _ => noInv) 1000 (fun x hx => (hand_eq ar0 x).mpr (h x hx))
theorem handSpec_ok : handSpec.OK PP 21 := by
  refine hand_of fun x hx => ?_
  obtain ⟨⟨tf, td, n⟩, ⟨o, q, ql, qc⟩⟩ := x
  obtain ⟨⟨n1, n2, n3, n4, n5, _⟩, ⟨⟨o1, o2, o3, o4, _⟩, q1, _⟩, hn, ho, hq⟩ : PL.HandIn (⟨tf, td, n⟩, ⟨o, q, ql, qc⟩) := hx
  simp only at n1 n2 n3 n4 n5 o1 o2 o3 o4 q1 hn ho hq
  unfold hand_vc
  simp only [ars, ars2, true_and, and_true, exists_const]
  simp only [PL.sub_full n1, PL.sub_full n2, PL.sub_full n3, PL.sub_full n4, PL.sub_full n5, PL.sub_full o1, PL.sub_full o2, PL.sub_full o3, PL.sub_full o4, PL.sub_full q1]
  simp only [n1, n2, n3, n4, n5, o1, o2, o3, o4, q1]
  have z1 : 0 ≤ n.len := by rw [← n1]; omega
  have z2 : 0 ≤ o.len := by rw [← o1]; omega
  have z3 : 0 ≤ ql := by rw [← q1]; omega
  clear n1 n2 n3 n4 n5 o1 o2 o3 o4 q1
  refine ⟨by omega, by omega, by omega, by omega, by omega, by omega, fun c hc => ⟨by omega, by omega, by omega, by omega, by omega, by omega, fun c1 hc1 => ⟨by omega, by omega, by omega, by omega, by omega, fun c2 hc2 => ⟨by omega, by omega, by omega, by omega, by omega, fun c3 hc3 => ⟨by omega, by omega, fun c4 hc4 => ⟨by omega, by omega, fun c5 hc5 => ?_⟩⟩⟩⟩⟩⟩
  refine ⟨(c1, c3, c5), ⟨hc1, hc3, hc5⟩, ?_⟩
  and_intros <;> first | rfl | trivial
def htreeSpec : Spec where
  X := (Nods × Pool) × Tree
  A x := [.ptr 0 (.l 0), .agg (treeL x.2)]
  H x := handH x.1.1 x.1.2
  pre x := PL.HdTIn x
  outs := [{ Y _ := Unit, post _ _ := True, R x _ := .agg [.int .i64 (.x x.2.files), .int .i64 (.x x.2.dirs), .slc 1 (.l 0) (.x (x.1.1.len - 2)) (.x x.1.1.cap)], H' x _ := handH x.1.1 x.1.2 }]
def htree_vc (ar : AR) (x : htreeSpec.X) : Prop :=
  ∀ (z : Int), z = ar.wrap IntKind.i64 (ar.sub x.fst.fst.len 2) → ar.le 0 z ∧ ar.le z x.fst.fst.cap ∧ ∃ (y : Unit), True ∧ x.snd.files = x.snd.files ∧ x.snd.dirs = x.snd.dirs ∧ z =
  x.fst.fst.len.sub 2 ∧ x.fst.fst.cap = x.fst.fst.cap ∧ x.fst.fst.len = x.fst.fst.len ∧ x.fst.fst.cap = x.fst.fst.cap ∧ x.fst.snd.objs.len = x.fst.snd.objs.len ∧ x.fst.snd.objs.cap
  = x.fst.snd.objs.cap ∧ x.fst.snd.qlen = x.fst.snd.qlen ∧ x.fst.snd.qcap = x.fst.snd.qcap ∧ x.fst.fst.cap = x.fst.fst.cap ∧ x.fst.fst.K = x.fst.fst.K ∧ x.fst.fst.N = x.fst.fst.N ∧
  x.fst.fst.P = x.fst.fst.P ∧ x.fst.fst.S = x.fst.fst.S ∧ x.fst.fst.Z = x.fst.fst.Z ∧ x.fst.snd.objs.cap = x.fst.snd.objs.cap ∧ x.fst.snd.objs.N = x.fst.snd.objs.N ∧
  x.fst.snd.objs.T = x.fst.snd.objs.T ∧ x.fst.snd.objs.B = x.fst.snd.objs.B ∧ x.fst.snd.objs.O = x.fst.snd.objs.O ∧ x.fst.snd.qcap = x.fst.snd.qcap ∧ x.fst.snd.q = x.fst.snd.q ∧
  True
theorem htree_eq (ar : AR) (x : htreeSpec.X) : (run ar PP noSpec noInv 1000 23 (htreeSpec.H x).length (Try.f23.body.getD .skip) (htreeSpec.A x ++ List.replicate (Try.f23.ntmps - (htreeSpec.A x).length) .any) (htreeSpec.H x) (endCall ar PP Try.f23.results.toList (htreeSpec.fin x))) = htree_vc ar x := by
  kernel_rfl
theorem htree_of (h : ∀ x, htreeSpec.pre x → htree_vc ar0 x) : htreeSpec.OK PP 23 :=
  Spec.ok_of_run (fn := Try.f23) (c := Try.f23.body.getD .skip) (by kernel_rfl) (by kernel_rfl) (by kernel_rfl) noSpec_ok (fun _ => noInv) 1000 (fun x hx => (htree_eq ar0 x).mpr (h x hx))
theorem htreeSpec_ok : htreeSpec.OK PP 23 := by
  refine htree_of fun x hx => ?_
  obtain ⟨⟨h1, h2, h3⟩⟩ : PL.HdTIn x := hx
  unfold htree_vc
  simp only [ars, ars2, true_and, and_true, exists_const]
  intro z hz
  rw [wrap_i64 (by omega) (by omega)] at hz
  refine ⟨by omega, by omega, ?_⟩
  and_intros <;> first | rfl | trivial | exact hz
def hpoolSpec : Spec where
  X := Nods × Pool
  A x := [.ptr 0 (.l 0)]
  H x := handH x.1 x.2
  pre x := PL.HdIn x
  outs := [{ Y _ := Unit, post _ _ := True, R x _ := .agg [.slc 2 (.l 0) (.x (x.2.objs.len - 2)) (.x x.2.objs.cap), .slc 3 (.l 0) (.x (x.2.qlen - 2)) (.x x.2.qcap)], H' x _ := handH x.1 x.2 }]
def hpool_vc (ar : AR) (x : hpoolSpec.X) : Prop :=
  ∀ (z : Int), z = ar.wrap IntKind.i64 (ar.sub x.snd.objs.len 2) → ar.le 0 z ∧ ar.le z x.snd.objs.cap ∧ ∀ (z_1 : Int), z_1 = ar.wrap IntKind.i64 (ar.sub x.snd.qlen 2) → ar.le 0 z_1
  ∧ ar.le z_1 x.snd.qcap ∧ ∃ (y : Unit), True ∧ z = x.snd.objs.len.sub 2 ∧ x.snd.objs.cap = x.snd.objs.cap ∧ z_1 = x.snd.qlen.sub 2 ∧ x.snd.qcap = x.snd.qcap ∧ x.fst.len =
  x.fst.len ∧ x.fst.cap = x.fst.cap ∧ x.snd.objs.len = x.snd.objs.len ∧ x.snd.objs.cap = x.snd.objs.cap ∧ x.snd.qlen = x.snd.qlen ∧ x.snd.qcap = x.snd.qcap ∧ x.fst.cap = x.fst.cap
  ∧ x.fst.K = x.fst.K ∧ x.fst.N = x.fst.N ∧ x.fst.P = x.fst.P ∧ x.fst.S = x.fst.S ∧ x.fst.Z = x.fst.Z ∧ x.snd.objs.cap = x.snd.objs.cap ∧ x.snd.objs.N = x.snd.objs.N ∧ x.snd.objs.T
  = x.snd.objs.T ∧ x.snd.objs.B = x.snd.objs.B ∧ x.snd.objs.O = x.snd.objs.O ∧ x.snd.qcap = x.snd.qcap ∧ x.snd.q = x.snd.q ∧ True
theorem hpool_eq (ar : AR) (x : hpoolSpec.X) : (run ar PP noSpec noInv 1000 24 (hpoolSpec.H x).length (Try.f24.body.getD .skip) (hpoolSpec.A x ++ List.replicate (Try.f24.ntmps - (hpoolSpec.A x).length) .any) (hpoolSpec.H x) (endCall ar PP Try.f24.results.toList (hpoolSpec.fin x))) = hpool_vc ar x := by
  kernel_rfl
theorem hpool_of (h : ∀ x, hpoolSpec.pre x → hpool_vc ar0 x) : hpoolSpec.OK PP 24 :=
  Spec.ok_of_run (fn := Try.f24) (c := Try.f24.body.getD .skip) (by kernel_rfl) (by kernel_rfl) (by kernel_rfl) noSpec_ok (fun _ => noInv) 1000 (fun x hx => (hpool_eq ar0 x).mpr (h x hx))
theorem hpoolSpec_ok : hpoolSpec.OK PP 24 := by
  refine hpool_of fun x hx => ?_
  obtain ⟨h1, h2, h3⟩ : PL.HdIn x := hx
  unfold hpool_vc
  simp only [ars, ars2, true_and, and_true, exists_const]
  intro z hz
  rw [wrap_i64 (by omega) (by omega)] at hz
  refine ⟨by omega, by omega, fun z1 hz1 => ?_⟩
  rw [wrap_i64 (by omega) (by omega)] at hz1
  refine ⟨by omega, by omega, ?_⟩
  and_intros <;> first | rfl | trivial | exact hz | exact hz1
def leftSpec : Spec where
  X := Tree × Pool × Int × Int × Int
  A x := [.cp [nodsS (x.1.nods.marks x.2.2.1), objsS (x.2.1.objs.marks x.2.2.2.1), .cs [.ints .i64 (x.2.1.q ++ [75, 76])] (.x (x.2.1.qlen + 2)) (.x x.2.2.2.2)], .agg (treeL x.1), .agg (poolL x.2.1)]
  H x := []
  pre x := PL.LeftIn x
  outs := [{ Y _ := Unit, post _ _ := True, R _ _ := .bool (.l true), H' _ _ := [] }]
  frz := true
def leftCut (x : Tree × Pool × Int × Int × Int) : Code → List SV → List Blk → List Inv := fun b fr hp => [
  { ι := Unit, fr := fun _ => only b fr 6 [7, 8, 9] [(31, .bool (.l false))], hp := fun _ => hp, μ := fun _ => 0, ok := fun _ => True }]
def leftInvs (x : Tree × Pool × Int × Int × Int) : Invs := fun f n => match f, n with
  | 27, 1000004 => some (leftCut x)
  | _, _ => none
noncomputable def leftSpecs : Specs := fun f xs hp => match f with
  | 57 => some stree
  | 58 => some spool
  | _ => noSpec f xs hp
theorem leftSpecs_ok : SpecsOK PP leftSpecs := by
  intro CW f xs hp S h
  unfold leftSpecs at h
  split at h
  · cases h; exact stree_ok
  · cases h; exact spool_ok
  · exact noSpec_ok CW f xs hp S h
def left_vc (ar : AR) (x : leftSpec.X) : Prop :=
  ((∀ (z : Int), z = ar.wrap IntKind.i64 (ar.sub (x.fst.nods.len.add 2) 2) → ar.le 0 z ∧ ar.le z x.snd.snd.fst ∧ ar.le z (x.fst.nods.len.add 2) ∧ ∃ (x_1 : Tree × Tree), x.fst.files
  = x_1.1.files ∧ x.fst.dirs = x_1.1.dirs ∧ ar.isub (x.fst.nods.K.append [71, 72]) 0 z = x_1.fst.nods.K ∧ ar.isub (x.fst.nods.N.append [0, 0]) 0 z = x_1.fst.nods.N ∧ ar.isub
  (x.fst.nods.P.append [0, 0]) 0 z = x_1.fst.nods.P ∧ ar.tsub (x.fst.nods.S.append [[], []]) 0 z = x_1.fst.nods.S ∧ ar.isub (x.fst.nods.Z.append [0, 0]) 0 z = x_1.fst.nods.Z ∧ z =
  x_1.fst.nods.len ∧ x.snd.snd.fst = x_1.fst.nods.cap ∧ x.fst.files = x_1.2.files ∧ x.fst.dirs = x_1.2.dirs ∧ x.fst.nods.K = x_1.snd.nods.K ∧ x.fst.nods.N = x_1.snd.nods.N ∧
  x.fst.nods.P = x_1.snd.nods.P ∧ x.fst.nods.S = x_1.snd.nods.S ∧ x.fst.nods.Z = x_1.snd.nods.Z ∧ x.fst.nods.len = x_1.snd.nods.len ∧ x.fst.nods.cap = x_1.snd.nods.cap ∧ PL.SameTIn
  x_1 ∧ ∀ (y : Unit), True → ((¬PL.SameT x_1.fst x_1.snd → False) → (∀ (z : Int), z = ar.wrap IntKind.i64 (ar.sub (x.snd.fst.objs.len.add 2) 2) → ar.le 0 z ∧ ar.le z
  x.snd.snd.snd.fst ∧ ar.le z (x.snd.fst.objs.len.add 2) ∧ ∀ (z_1 : Int), z_1 = ar.wrap IntKind.i64 (ar.sub (x.snd.fst.qlen.add 2) 2) → ar.le 0 z_1 ∧ ar.le z_1 x.snd.snd.snd.snd ∧
  ar.le z_1 (x.snd.fst.qlen.add 2) ∧ ∃ (x_2 : Pool × Pool), ar.tsub (x.snd.fst.objs.N.append [[], []]) 0 z = x_2.fst.objs.N ∧ ar.tsub (x.snd.fst.objs.T.append [[], []]) 0 z =
  x_2.fst.objs.T ∧ ar.isub (x.snd.fst.objs.B.append [0, 0]) 0 z = x_2.fst.objs.B ∧ ar.isub (x.snd.fst.objs.O.append [73, 74]) 0 z = x_2.fst.objs.O ∧ z = x_2.fst.objs.len ∧
  x.snd.snd.snd.fst = x_2.fst.objs.cap ∧ ar.isub (x.snd.fst.q.append [75, 76]) 0 z_1 = x_2.1.q ∧ z_1 = x_2.1.qlen ∧ x.snd.snd.snd.snd = x_2.1.qcap ∧ x.snd.fst.objs.N =
  x_2.snd.objs.N ∧ x.snd.fst.objs.T = x_2.snd.objs.T ∧ x.snd.fst.objs.B = x_2.snd.objs.B ∧ x.snd.fst.objs.O = x_2.snd.objs.O ∧ x.snd.fst.objs.len = x_2.snd.objs.len ∧
  x.snd.fst.objs.cap = x_2.snd.objs.cap ∧ x.snd.fst.q = x_2.2.q ∧ x.snd.fst.qlen = x_2.2.qlen ∧ x.snd.fst.qcap = x_2.2.qcap ∧ PL.SamePIn x_2 ∧ ∀ (y : Unit), True → ∃ (i : Unit),
  True ∧ x.fst.nods.K.append [71, 72] = x.fst.nods.K.append [71, 72] ∧ x.fst.nods.N.append [0, 0] = x.fst.nods.N.append [0, 0] ∧ x.fst.nods.P.append [0, 0] = x.fst.nods.P.append
  [0, 0] ∧ x.fst.nods.S.append [[], []] = x.fst.nods.S.append [[], []] ∧ x.fst.nods.Z.append [0, 0] = x.fst.nods.Z.append [0, 0] ∧ x.fst.nods.len.add 2 = x.fst.nods.len.add 2 ∧
  x.snd.snd.fst = x.snd.snd.fst ∧ x.snd.fst.objs.N.append [[], []] = x.snd.fst.objs.N.append [[], []] ∧ x.snd.fst.objs.T.append [[], []] = x.snd.fst.objs.T.append [[], []] ∧
  x.snd.fst.objs.B.append [0, 0] = x.snd.fst.objs.B.append [0, 0] ∧ x.snd.fst.objs.O.append [73, 74] = x.snd.fst.objs.O.append [73, 74] ∧ x.snd.fst.objs.len.add 2 =
  x.snd.fst.objs.len.add 2 ∧ x.snd.snd.snd.fst = x.snd.snd.snd.fst ∧ x.snd.fst.q.append [75, 76] = x.snd.fst.q.append [75, 76] ∧ x.snd.fst.qlen.add 2 = x.snd.fst.qlen.add 2 ∧
  x.snd.snd.snd.snd = x.snd.snd.snd.snd ∧ x.fst.files = x.fst.files ∧ x.fst.dirs = x.fst.dirs ∧ x.fst.nods.K = x.fst.nods.K ∧ x.fst.nods.N = x.fst.nods.N ∧ x.fst.nods.P =
  x.fst.nods.P ∧ x.fst.nods.S = x.fst.nods.S ∧ x.fst.nods.Z = x.fst.nods.Z ∧ x.fst.nods.len = x.fst.nods.len ∧ x.fst.nods.cap = x.fst.nods.cap ∧ x.snd.fst.objs.N = x.snd.fst.objs.N
  ∧ x.snd.fst.objs.T = x.snd.fst.objs.T ∧ x.snd.fst.objs.B = x.snd.fst.objs.B ∧ x.snd.fst.objs.O = x.snd.fst.objs.O ∧ x.snd.fst.objs.len = x.snd.fst.objs.len ∧ x.snd.fst.objs.cap =
  x.snd.fst.objs.cap ∧ x.snd.fst.q = x.snd.fst.q ∧ x.snd.fst.qlen = x.snd.fst.qlen ∧ x.snd.fst.qcap = x.snd.fst.qcap ∧ x.fst.nods.len = x.fst.nods.len ∧ x.snd.fst.objs.len =
  x.snd.fst.objs.len ∧ x.snd.fst.qlen = x.snd.fst.qlen ∧ (PL.SameP x_2.fst x_2.snd → False ↔ false = true) ∧ x.fst.files = x.fst.files ∧ x.fst.dirs = x.fst.dirs ∧ x.fst.nods.K =
  x.fst.nods.K ∧ x.fst.nods.N = x.fst.nods.N ∧ x.fst.nods.P = x.fst.nods.P ∧ x.fst.nods.S = x.fst.nods.S ∧ x.fst.nods.Z = x.fst.nods.Z ∧ x.fst.nods.len = x.fst.nods.len ∧
  x.fst.nods.cap = x.fst.nods.cap ∧ x.snd.fst.objs.N = x.snd.fst.objs.N ∧ x.snd.fst.objs.T = x.snd.fst.objs.T ∧ x.snd.fst.objs.B = x.snd.fst.objs.B ∧ x.snd.fst.objs.O =
  x.snd.fst.objs.O ∧ x.snd.fst.objs.len = x.snd.fst.objs.len ∧ x.snd.fst.objs.cap = x.snd.fst.objs.cap ∧ x.snd.fst.q = x.snd.fst.q ∧ x.snd.fst.qlen = x.snd.fst.qlen ∧
  x.snd.fst.qcap = x.snd.fst.qcap ∧ True) ∧ ∀ (z : Int), z = ar.wrap IntKind.i64 (ar.sub (x.snd.fst.objs.len.add 2) 2) → ar.le 0 z ∧ ar.le z x.snd.snd.snd.fst ∧ ar.le z
  (x.snd.fst.objs.len.add 2) ∧ ∀ (z_1 : Int), z_1 = ar.wrap IntKind.i64 (ar.sub (x.snd.fst.qlen.add 2) 2) → ar.le 0 z_1 ∧ ar.le z_1 x.snd.snd.snd.snd ∧ ar.le z_1
  (x.snd.fst.qlen.add 2) ∧ ∃ (x_2 : Pool × Pool), ar.tsub (x.snd.fst.objs.N.append [[], []]) 0 z = x_2.fst.objs.N ∧ ar.tsub (x.snd.fst.objs.T.append [[], []]) 0 z = x_2.fst.objs.T
  ∧ ar.isub (x.snd.fst.objs.B.append [0, 0]) 0 z = x_2.fst.objs.B ∧ ar.isub (x.snd.fst.objs.O.append [73, 74]) 0 z = x_2.fst.objs.O ∧ z = x_2.fst.objs.len ∧ x.snd.snd.snd.fst =
  x_2.fst.objs.cap ∧ ar.isub (x.snd.fst.q.append [75, 76]) 0 z_1 = x_2.1.q ∧ z_1 = x_2.1.qlen ∧ x.snd.snd.snd.snd = x_2.1.qcap ∧ x.snd.fst.objs.N = x_2.snd.objs.N ∧
  x.snd.fst.objs.T = x_2.snd.objs.T ∧ x.snd.fst.objs.B = x_2.snd.objs.B ∧ x.snd.fst.objs.O = x_2.snd.objs.O ∧ x.snd.fst.objs.len = x_2.snd.objs.len ∧ x.snd.fst.objs.cap =
  x_2.snd.objs.cap ∧ x.snd.fst.q = x_2.2.q ∧ x.snd.fst.qlen = x_2.2.qlen ∧ x.snd.fst.qcap = x_2.2.qcap ∧ PL.SamePIn x_2 ∧ ∀ (y : Unit), True → ∃ (i : Unit), True ∧
  x.fst.nods.K.append [71, 72] = x.fst.nods.K.append [71, 72] ∧ x.fst.nods.N.append [0, 0] = x.fst.nods.N.append [0, 0] ∧ x.fst.nods.P.append [0, 0] = x.fst.nods.P.append [0, 0] ∧
  x.fst.nods.S.append [[], []] = x.fst.nods.S.append [[], []] ∧ x.fst.nods.Z.append [0, 0] = x.fst.nods.Z.append [0, 0] ∧ x.fst.nods.len.add 2 = x.fst.nods.len.add 2 ∧
  x.snd.snd.fst = x.snd.snd.fst ∧ x.snd.fst.objs.N.append [[], []] = x.snd.fst.objs.N.append [[], []] ∧ x.snd.fst.objs.T.append [[], []] = x.snd.fst.objs.T.append [[], []] ∧
  x.snd.fst.objs.B.append [0, 0] = x.snd.fst.objs.B.append [0, 0] ∧ x.snd.fst.objs.O.append [73, 74] = x.snd.fst.objs.O.append [73, 74] ∧ x.snd.fst.objs.len.add 2 =
  x.snd.fst.objs.len.add 2 ∧ x.snd.snd.snd.fst = x.snd.snd.snd.fst ∧ x.snd.fst.q.append [75, 76] = x.snd.fst.q.append [75, 76] ∧ x.snd.fst.qlen.add 2 = x.snd.fst.qlen.add 2 ∧
  x.snd.snd.snd.snd = x.snd.snd.snd.snd ∧ x.fst.files = x.fst.files ∧ x.fst.dirs = x.fst.dirs ∧ x.fst.nods.K = x.fst.nods.K ∧ x.fst.nods.N = x.fst.nods.N ∧ x.fst.nods.P =
  x.fst.nods.P ∧ x.fst.nods.S = x.fst.nods.S ∧ x.fst.nods.Z = x.fst.nods.Z ∧ x.fst.nods.len = x.fst.nods.len ∧ x.fst.nods.cap = x.fst.nods.cap ∧ x.snd.fst.objs.N = x.snd.fst.objs.N
  ∧ x.snd.fst.objs.T = x.snd.fst.objs.T ∧ x.snd.fst.objs.B = x.snd.fst.objs.B ∧ x.snd.fst.objs.O = x.snd.fst.objs.O ∧ x.snd.fst.objs.len = x.snd.fst.objs.len ∧ x.snd.fst.objs.cap =
  x.snd.fst.objs.cap ∧ x.snd.fst.q = x.snd.fst.q ∧ x.snd.fst.qlen = x.snd.fst.qlen ∧ x.snd.fst.qcap = x.snd.fst.qcap ∧ x.fst.nods.len = x.fst.nods.len ∧ x.snd.fst.objs.len =
  x.snd.fst.objs.len ∧ x.snd.fst.qlen = x.snd.fst.qlen ∧ (PL.SameP x_2.fst x_2.snd → False ↔ false = true) ∧ x.fst.files = x.fst.files ∧ x.fst.dirs = x.fst.dirs ∧ x.fst.nods.K =
  x.fst.nods.K ∧ x.fst.nods.N = x.fst.nods.N ∧ x.fst.nods.P = x.fst.nods.P ∧ x.fst.nods.S = x.fst.nods.S ∧ x.fst.nods.Z = x.fst.nods.Z ∧ x.fst.nods.len = x.fst.nods.len ∧
  x.fst.nods.cap = x.fst.nods.cap ∧ x.snd.fst.objs.N = x.snd.fst.objs.N ∧ x.snd.fst.objs.T = x.snd.fst.objs.T ∧ x.snd.fst.objs.B = x.snd.fst.objs.B ∧ x.snd.fst.objs.O =
  x.snd.fst.objs.O ∧ x.snd.fst.objs.len = x.snd.fst.objs.len ∧ x.snd.fst.objs.cap = x.snd.fst.objs.cap ∧ x.snd.fst.q = x.snd.fst.q ∧ x.snd.fst.qlen = x.snd.fst.qlen ∧
  x.snd.fst.qcap = x.snd.fst.qcap ∧ True) ∧ (¬(¬PL.SameT x_1.fst x_1.snd → False) → ∃ (i : Unit), True ∧ False)) ∧ ∀ (z : Int), z = ar.wrap IntKind.i64 (ar.sub (x.fst.nods.len.add
  2) 2) → ar.le 0 z ∧ ar.le z x.snd.snd.fst ∧ ar.le z (x.fst.nods.len.add 2) ∧ ∃ (x_1 : Tree × Tree), x.fst.files = x_1.1.files ∧ x.fst.dirs = x_1.1.dirs ∧ ar.isub
  (x.fst.nods.K.append [71, 72]) 0 z = x_1.fst.nods.K ∧ ar.isub (x.fst.nods.N.append [0, 0]) 0 z = x_1.fst.nods.N ∧ ar.isub (x.fst.nods.P.append [0, 0]) 0 z = x_1.fst.nods.P ∧
  ar.tsub (x.fst.nods.S.append [[], []]) 0 z = x_1.fst.nods.S ∧ ar.isub (x.fst.nods.Z.append [0, 0]) 0 z = x_1.fst.nods.Z ∧ z = x_1.fst.nods.len ∧ x.snd.snd.fst = x_1.fst.nods.cap
  ∧ x.fst.files = x_1.2.files ∧ x.fst.dirs = x_1.2.dirs ∧ x.fst.nods.K = x_1.snd.nods.K ∧ x.fst.nods.N = x_1.snd.nods.N ∧ x.fst.nods.P = x_1.snd.nods.P ∧ x.fst.nods.S =
  x_1.snd.nods.S ∧ x.fst.nods.Z = x_1.snd.nods.Z ∧ x.fst.nods.len = x_1.snd.nods.len ∧ x.fst.nods.cap = x_1.snd.nods.cap ∧ PL.SameTIn x_1 ∧ ∀ (y : Unit), True → ((¬PL.SameT x_1.fst
  x_1.snd → False) → (∀ (z : Int), z = ar.wrap IntKind.i64 (ar.sub (x.snd.fst.objs.len.add 2) 2) → ar.le 0 z ∧ ar.le z x.snd.snd.snd.fst ∧ ar.le z (x.snd.fst.objs.len.add 2) ∧ ∀
  (z_1 : Int), z_1 = ar.wrap IntKind.i64 (ar.sub (x.snd.fst.qlen.add 2) 2) → ar.le 0 z_1 ∧ ar.le z_1 x.snd.snd.snd.snd ∧ ar.le z_1 (x.snd.fst.qlen.add 2) ∧ ∃ (x_2 : Pool × Pool),
  ar.tsub (x.snd.fst.objs.N.append [[], []]) 0 z = x_2.fst.objs.N ∧ ar.tsub (x.snd.fst.objs.T.append [[], []]) 0 z = x_2.fst.objs.T ∧ ar.isub (x.snd.fst.objs.B.append [0, 0]) 0 z =
  x_2.fst.objs.B ∧ ar.isub (x.snd.fst.objs.O.append [73, 74]) 0 z = x_2.fst.objs.O ∧ z = x_2.fst.objs.len ∧ x.snd.snd.snd.fst = x_2.fst.objs.cap ∧ ar.isub (x.snd.fst.q.append [75,
  76]) 0 z_1 = x_2.1.q ∧ z_1 = x_2.1.qlen ∧ x.snd.snd.snd.snd = x_2.1.qcap ∧ x.snd.fst.objs.N = x_2.snd.objs.N ∧ x.snd.fst.objs.T = x_2.snd.objs.T ∧ x.snd.fst.objs.B =
  x_2.snd.objs.B ∧ x.snd.fst.objs.O = x_2.snd.objs.O ∧ x.snd.fst.objs.len = x_2.snd.objs.len ∧ x.snd.fst.objs.cap = x_2.snd.objs.cap ∧ x.snd.fst.q = x_2.2.q ∧ x.snd.fst.qlen =
  x_2.2.qlen ∧ x.snd.fst.qcap = x_2.2.qcap ∧ PL.SamePIn x_2 ∧ ∀ (y : Unit), True → ∃ (i : Unit), True ∧ x.fst.nods.K.append [71, 72] = x.fst.nods.K.append [71, 72] ∧
  x.fst.nods.N.append [0, 0] = x.fst.nods.N.append [0, 0] ∧ x.fst.nods.P.append [0, 0] = x.fst.nods.P.append [0, 0] ∧ x.fst.nods.S.append [[], []] = x.fst.nods.S.append [[], []] ∧
  x.fst.nods.Z.append [0, 0] = x.fst.nods.Z.append [0, 0] ∧ x.fst.nods.len.add 2 = x.fst.nods.len.add 2 ∧ x.snd.snd.fst = x.snd.snd.fst ∧ x.snd.fst.objs.N.append [[], []] =
  x.snd.fst.objs.N.append [[], []] ∧ x.snd.fst.objs.T.append [[], []] = x.snd.fst.objs.T.append [[], []] ∧ x.snd.fst.objs.B.append [0, 0] = x.snd.fst.objs.B.append [0, 0] ∧
  x.snd.fst.objs.O.append [73, 74] = x.snd.fst.objs.O.append [73, 74] ∧ x.snd.fst.objs.len.add 2 = x.snd.fst.objs.len.add 2 ∧ x.snd.snd.snd.fst = x.snd.snd.snd.fst ∧
  x.snd.fst.q.append [75, 76] = x.snd.fst.q.append [75, 76] ∧ x.snd.fst.qlen.add 2 = x.snd.fst.qlen.add 2 ∧ x.snd.snd.snd.snd = x.snd.snd.snd.snd ∧ x.fst.files = x.fst.files ∧
  x.fst.dirs = x.fst.dirs ∧ x.fst.nods.K = x.fst.nods.K ∧ x.fst.nods.N = x.fst.nods.N ∧ x.fst.nods.P = x.fst.nods.P ∧ x.fst.nods.S = x.fst.nods.S ∧ x.fst.nods.Z = x.fst.nods.Z ∧
  x.fst.nods.len = x.fst.nods.len ∧ x.fst.nods.cap = x.fst.nods.cap ∧ x.snd.fst.objs.N = x.snd.fst.objs.N ∧ x.snd.fst.objs.T = x.snd.fst.objs.T ∧ x.snd.fst.objs.B =
  x.snd.fst.objs.B ∧ x.snd.fst.objs.O = x.snd.fst.objs.O ∧ x.snd.fst.objs.len = x.snd.fst.objs.len ∧ x.snd.fst.objs.cap = x.snd.fst.objs.cap ∧ x.snd.fst.q = x.snd.fst.q ∧
  x.snd.fst.qlen = x.snd.fst.qlen ∧ x.snd.fst.qcap = x.snd.fst.qcap ∧ x.fst.nods.len = x.fst.nods.len ∧ x.snd.fst.objs.len = x.snd.fst.objs.len ∧ x.snd.fst.qlen = x.snd.fst.qlen ∧
  (PL.SameP x_2.fst x_2.snd → False ↔ false = true) ∧ x.fst.files = x.fst.files ∧ x.fst.dirs = x.fst.dirs ∧ x.fst.nods.K = x.fst.nods.K ∧ x.fst.nods.N = x.fst.nods.N ∧ x.fst.nods.P
  = x.fst.nods.P ∧ x.fst.nods.S = x.fst.nods.S ∧ x.fst.nods.Z = x.fst.nods.Z ∧ x.fst.nods.len = x.fst.nods.len ∧ x.fst.nods.cap = x.fst.nods.cap ∧ x.snd.fst.objs.N =
  x.snd.fst.objs.N ∧ x.snd.fst.objs.T = x.snd.fst.objs.T ∧ x.snd.fst.objs.B = x.snd.fst.objs.B ∧ x.snd.fst.objs.O = x.snd.fst.objs.O ∧ x.snd.fst.objs.len = x.snd.fst.objs.len ∧
  x.snd.fst.objs.cap = x.snd.fst.objs.cap ∧ x.snd.fst.q = x.snd.fst.q ∧ x.snd.fst.qlen = x.snd.fst.qlen ∧ x.snd.fst.qcap = x.snd.fst.qcap ∧ True) ∧ ∀ (z : Int), z = ar.wrap
  IntKind.i64 (ar.sub (x.snd.fst.objs.len.add 2) 2) → ar.le 0 z ∧ ar.le z x.snd.snd.snd.fst ∧ ar.le z (x.snd.fst.objs.len.add 2) ∧ ∀ (z_1 : Int), z_1 = ar.wrap IntKind.i64 (ar.sub
  (x.snd.fst.qlen.add 2) 2) → ar.le 0 z_1 ∧ ar.le z_1 x.snd.snd.snd.snd ∧ ar.le z_1 (x.snd.fst.qlen.add 2) ∧ ∃ (x_2 : Pool × Pool), ar.tsub (x.snd.fst.objs.N.append [[], []]) 0 z =
  x_2.fst.objs.N ∧ ar.tsub (x.snd.fst.objs.T.append [[], []]) 0 z = x_2.fst.objs.T ∧ ar.isub (x.snd.fst.objs.B.append [0, 0]) 0 z = x_2.fst.objs.B ∧ ar.isub
  (x.snd.fst.objs.O.append [73, 74]) 0 z = x_2.fst.objs.O ∧ z = x_2.fst.objs.len ∧ x.snd.snd.snd.fst = x_2.fst.objs.cap ∧ ar.isub (x.snd.fst.q.append [75, 76]) 0 z_1 = x_2.1.q ∧
  z_1 = x_2.1.qlen ∧ x.snd.snd.snd.snd = x_2.1.qcap ∧ x.snd.fst.objs.N = x_2.snd.objs.N ∧ x.snd.fst.objs.T = x_2.snd.objs.T ∧ x.snd.fst.objs.B = x_2.snd.objs.B ∧ x.snd.fst.objs.O =
  x_2.snd.objs.O ∧ x.snd.fst.objs.len = x_2.snd.objs.len ∧ x.snd.fst.objs.cap = x_2.snd.objs.cap ∧ x.snd.fst.q = x_2.2.q ∧ x.snd.fst.qlen = x_2.2.qlen ∧ x.snd.fst.qcap = x_2.2.qcap
  ∧ PL.SamePIn x_2 ∧ ∀ (y : Unit), True → ∃ (i : Unit), True ∧ x.fst.nods.K.append [71, 72] = x.fst.nods.K.append [71, 72] ∧ x.fst.nods.N.append [0, 0] = x.fst.nods.N.append [0, 0]
  ∧ x.fst.nods.P.append [0, 0] = x.fst.nods.P.append [0, 0] ∧ x.fst.nods.S.append [[], []] = x.fst.nods.S.append [[], []] ∧ x.fst.nods.Z.append [0, 0] = x.fst.nods.Z.append [0, 0]
  ∧ x.fst.nods.len.add 2 = x.fst.nods.len.add 2 ∧ x.snd.snd.fst = x.snd.snd.fst ∧ x.snd.fst.objs.N.append [[], []] = x.snd.fst.objs.N.append [[], []] ∧ x.snd.fst.objs.T.append [[],
  []] = x.snd.fst.objs.T.append [[], []] ∧ x.snd.fst.objs.B.append [0, 0] = x.snd.fst.objs.B.append [0, 0] ∧ x.snd.fst.objs.O.append [73, 74] = x.snd.fst.objs.O.append [73, 74] ∧
  x.snd.fst.objs.len.add 2 = x.snd.fst.objs.len.add 2 ∧ x.snd.snd.snd.fst = x.snd.snd.snd.fst ∧ x.snd.fst.q.append [75, 76] = x.snd.fst.q.append [75, 76] ∧ x.snd.fst.qlen.add 2 =
  x.snd.fst.qlen.add 2 ∧ x.snd.snd.snd.snd = x.snd.snd.snd.snd ∧ x.fst.files = x.fst.files ∧ x.fst.dirs = x.fst.dirs ∧ x.fst.nods.K = x.fst.nods.K ∧ x.fst.nods.N = x.fst.nods.N ∧
  x.fst.nods.P = x.fst.nods.P ∧ x.fst.nods.S = x.fst.nods.S ∧ x.fst.nods.Z = x.fst.nods.Z ∧ x.fst.nods.len = x.fst.nods.len ∧ x.fst.nods.cap = x.fst.nods.cap ∧ x.snd.fst.objs.N =
  x.snd.fst.objs.N ∧ x.snd.fst.objs.T = x.snd.fst.objs.T ∧ x.snd.fst.objs.B = x.snd.fst.objs.B ∧ x.snd.fst.objs.O = x.snd.fst.objs.O ∧ x.snd.fst.objs.len = x.snd.fst.objs.len ∧
  x.snd.fst.objs.cap = x.snd.fst.objs.cap ∧ x.snd.fst.q = x.snd.fst.q ∧ x.snd.fst.qlen = x.snd.fst.qlen ∧ x.snd.fst.qcap = x.snd.fst.qcap ∧ x.fst.nods.len = x.fst.nods.len ∧
  x.snd.fst.objs.len = x.snd.fst.objs.len ∧ x.snd.fst.qlen = x.snd.fst.qlen ∧ (PL.SameP x_2.fst x_2.snd → False ↔ false = true) ∧ x.fst.files = x.fst.files ∧ x.fst.dirs =
  x.fst.dirs ∧ x.fst.nods.K = x.fst.nods.K ∧ x.fst.nods.N = x.fst.nods.N ∧ x.fst.nods.P = x.fst.nods.P ∧ x.fst.nods.S = x.fst.nods.S ∧ x.fst.nods.Z = x.fst.nods.Z ∧ x.fst.nods.len
  = x.fst.nods.len ∧ x.fst.nods.cap = x.fst.nods.cap ∧ x.snd.fst.objs.N = x.snd.fst.objs.N ∧ x.snd.fst.objs.T = x.snd.fst.objs.T ∧ x.snd.fst.objs.B = x.snd.fst.objs.B ∧
  x.snd.fst.objs.O = x.snd.fst.objs.O ∧ x.snd.fst.objs.len = x.snd.fst.objs.len ∧ x.snd.fst.objs.cap = x.snd.fst.objs.cap ∧ x.snd.fst.q = x.snd.fst.q ∧ x.snd.fst.qlen =
  x.snd.fst.qlen ∧ x.snd.fst.qcap = x.snd.fst.qcap ∧ True) ∧ (¬(¬PL.SameT x_1.fst x_1.snd → False) → ∃ (i : Unit), True ∧ False)) ∧ ∀ (i : Unit), True → ar.le 0 x.fst.nods.len ∧
  ar.lt x.fst.nods.len (x.fst.nods.len.add 2) ∧ (ar.eq (ar.iget (x.fst.nods.K.append [71, 72]) x.fst.nods.len) 71 ∧ ar.eq (ar.iget (x.fst.nods.N.append [0, 0]) x.fst.nods.len) 0 ∧
  ar.eq (ar.iget (x.fst.nods.P.append [0, 0]) x.fst.nods.len) 0 ∧ ar.seq (ar.tget (x.fst.nods.S.append [[], []]) x.fst.nods.len) [] ∧ ar.eq (ar.iget (x.fst.nods.Z.append [0, 0])
  x.fst.nods.len) 0 → ∀ (z : Int), z = ar.wrap IntKind.i64 (ar.add x.fst.nods.len 1) → ar.le 0 z ∧ ar.lt z (x.fst.nods.len.add 2) ∧ (ar.eq (ar.iget (x.fst.nods.K.append [71, 72])
  z) 72 ∧ ar.eq (ar.iget (x.fst.nods.N.append [0, 0]) z) 0 ∧ ar.eq (ar.iget (x.fst.nods.P.append [0, 0]) z) 0 ∧ ar.seq (ar.tget (x.fst.nods.S.append [[], []]) z) [] ∧ ar.eq
  (ar.iget (x.fst.nods.Z.append [0, 0]) z) 0 → ar.le 0 x.snd.fst.objs.len ∧ ar.lt x.snd.fst.objs.len (x.snd.fst.objs.len.add 2) ∧ (ar.seq (ar.tget (x.snd.fst.objs.N.append [[],
  []]) x.snd.fst.objs.len) [] ∧ ar.seq (ar.tget (x.snd.fst.objs.T.append [[], []]) x.snd.fst.objs.len) [] ∧ ar.eq (ar.iget (x.snd.fst.objs.B.append [0, 0]) x.snd.fst.objs.len) 0 ∧
  ar.eq (ar.iget (x.snd.fst.objs.O.append [73, 74]) x.snd.fst.objs.len) 73 → ∀ (z : Int), z = ar.wrap IntKind.i64 (ar.add x.snd.fst.objs.len 1) → ar.le 0 z ∧ ar.lt z
  (x.snd.fst.objs.len.add 2) ∧ (ar.seq (ar.tget (x.snd.fst.objs.N.append [[], []]) z) [] ∧ ar.seq (ar.tget (x.snd.fst.objs.T.append [[], []]) z) [] ∧ ar.eq (ar.iget
  (x.snd.fst.objs.B.append [0, 0]) z) 0 ∧ ar.eq (ar.iget (x.snd.fst.objs.O.append [73, 74]) z) 74 → ar.le 0 x.snd.fst.qlen ∧ ar.lt x.snd.fst.qlen (x.snd.fst.qlen.add 2) ∧ (ar.eq
  (ar.iget (x.snd.fst.q.append [75, 76]) x.snd.fst.qlen) 75 → ∀ (z : Int), z = ar.wrap IntKind.i64 (ar.add x.snd.fst.qlen 1) → ar.le 0 z ∧ ar.lt z (x.snd.fst.qlen.add 2) ∧ ∃ (y :
  Unit), True ∧ (ar.eq (ar.iget (x.snd.fst.q.append [75, 76]) z) 76 ↔ true = true) ∧ True) ∧ (¬ar.eq (ar.iget (x.snd.fst.q.append [75, 76]) x.snd.fst.qlen) 75 → ∃ (y : Unit), True
  ∧ False)) ∧ (¬(ar.seq (ar.tget (x.snd.fst.objs.N.append [[], []]) z) [] ∧ ar.seq (ar.tget (x.snd.fst.objs.T.append [[], []]) z) [] ∧ ar.eq (ar.iget (x.snd.fst.objs.B.append [0,
  0]) z) 0 ∧ ar.eq (ar.iget (x.snd.fst.objs.O.append [73, 74]) z) 74) → ∃ (y : Unit), True ∧ False)) ∧ (¬(ar.seq (ar.tget (x.snd.fst.objs.N.append [[], []]) x.snd.fst.objs.len) []
  ∧ ar.seq (ar.tget (x.snd.fst.objs.T.append [[], []]) x.snd.fst.objs.len) [] ∧ ar.eq (ar.iget (x.snd.fst.objs.B.append [0, 0]) x.snd.fst.objs.len) 0 ∧ ar.eq (ar.iget
  (x.snd.fst.objs.O.append [73, 74]) x.snd.fst.objs.len) 73) → ∃ (y : Unit), True ∧ False)) ∧ (¬(ar.eq (ar.iget (x.fst.nods.K.append [71, 72]) z) 72 ∧ ar.eq (ar.iget
  (x.fst.nods.N.append [0, 0]) z) 0 ∧ ar.eq (ar.iget (x.fst.nods.P.append [0, 0]) z) 0 ∧ ar.seq (ar.tget (x.fst.nods.S.append [[], []]) z) [] ∧ ar.eq (ar.iget (x.fst.nods.Z.append
  [0, 0]) z) 0) → ∃ (y : Unit), True ∧ False)) ∧ (¬(ar.eq (ar.iget (x.fst.nods.K.append [71, 72]) x.fst.nods.len) 71 ∧ ar.eq (ar.iget (x.fst.nods.N.append [0, 0]) x.fst.nods.len) 0
  ∧ ar.eq (ar.iget (x.fst.nods.P.append [0, 0]) x.fst.nods.len) 0 ∧ ar.seq (ar.tget (x.fst.nods.S.append [[], []]) x.fst.nods.len) [] ∧ ar.eq (ar.iget (x.fst.nods.Z.append [0, 0])
  x.fst.nods.len) 0) → ∃ (y : Unit), True ∧ False)
theorem left_eq (ar : AR) (x : leftSpec.X) : (run ar PP leftSpecs (leftInvs x) 1000 27 (leftSpec.H x).length (Try.f27.body.getD .skip) (leftSpec.A x ++ List.replicate (Try.f27.ntmps - (leftSpec.A x).length) .any) (leftSpec.H x) (endCall ar PP Try.f27.results.toList (leftSpec.fin x))) = left_vc ar x := by
  kernel_rfl
theorem left_of (h : ∀ x, leftSpec.pre x → left_vc ar0 x) : leftSpec.OK PP 27 :=
  Spec.ok_of_run (fn := Try.f27) (c := Try.f27.body.getD .skip) (by kernel_rfl) (by kernel_rfl) (by kernel_rfl) leftSpecs_ok leftInvs 1000 (fun x hx => (left_eq ar0 x).mpr (h x hx))
theorem leftSpec_ok : leftSpec.OK PP 27 := by
  refine left_of fun x hx => ?_
  obtain ⟨⟨tf, td, ⟨K, N, P, S, Z, len, cap⟩⟩, ⟨⟨oN, oT, oB, oO, ol, oc⟩, q, ql, qc⟩, k1, k2, k3⟩ := x
  obtain ⟨hn, hp, h1, h2, h3⟩ : PL.LeftIn (⟨tf, td, ⟨K, N, P, S, Z, len, cap⟩⟩, ⟨⟨oN, oT, oB, oO, ol, oc⟩, q, ql, qc⟩, k1, k2, k3) := hx
  have tI : PL.SameTIn (⟨tf, td, ⟨K, N, P, S, Z, len, k1⟩⟩, ⟨tf, td, ⟨K, N, P, S, Z, len, cap⟩⟩) := ⟨⟨hn.k, hn.n, hn.p, hn.s, hn.z, hn.cap⟩, hn⟩
  have tT : PL.SameT ⟨tf, td, ⟨K, N, P, S, Z, len, k1⟩⟩ ⟨tf, td, ⟨K, N, P, S, Z, len, cap⟩⟩ := ⟨rfl, rfl, ⟨rfl, rfl, rfl, rfl, rfl⟩⟩
  have pI : PL.SamePIn (⟨⟨oN, oT, oB, oO, ol, k2⟩, q, ql, k3⟩, ⟨⟨oN, oT, oB, oO, ol, oc⟩, q, ql, qc⟩) := ⟨⟨⟨hp.objs.n, hp.objs.t, hp.objs.b, hp.objs.o, hp.objs.le⟩, hp.q, hp.le⟩, hp⟩
  have pP : PL.SameP ⟨⟨oN, oT, oB, oO, ol, k2⟩, q, ql, k3⟩ ⟨⟨oN, oT, oB, oO, ol, oc⟩, q, ql, qc⟩ := ⟨rfl, rfl, rfl, rfl, rfl⟩
  obtain ⟨n1, n2, n3, n4, n5, n6⟩ := hn
  obtain ⟨⟨o1, o2, o3, o4, o5⟩, q1, q2⟩ := hp
  simp only at n1 n2 n3 n4 n5 n6 o1 o2 o3 o4 o5 q1 q2 h1 h2 h3
  have z1 : 0 ≤ len := by rw [← n1]; omega
  have z2 : 0 ≤ ol := by rw [← o1]; omega
  have z3 : 0 ≤ ql := by rw [← q1]; omega
  have w1 : IntKind.i64.wrap (len + 2 - 2) = len := by rw [wrap_i64 (by omega) (by omega)]; omega
  have w2 : IntKind.i64.wrap (ol + 2 - 2) = ol := by rw [wrap_i64 (by omega) (by omega)]; omega
  have w3 : IntKind.i64.wrap (ql + 2 - 2) = ql := by rw [wrap_i64 (by omega) (by omega)]; omega
  have v1 : IntKind.i64.wrap (len + 1) = len + 1 := wrap_i64 (by omega) (by omega)
  have v2 : IntKind.i64.wrap (ol + 1) = ol + 1 := wrap_i64 (by omega) (by omega)
  have v3 : IntKind.i64.wrap (ql + 1) = ql + 1 := wrap_i64 (by omega) (by omega)
  have A : ∀ (l m : List Int), l.append m = l ++ m := fun _ _ => rfl
  have B : ∀ (l m : List (List UInt8)), l.append m = l ++ m := fun _ _ => rfl
  have tt := fun (Q : Tree × Tree → Prop) => ex_tt (a := ⟨tf, td, ⟨K, N, P, S, Z, len, k1⟩⟩) (b := ⟨tf, td, ⟨K, N, P, S, Z, len, cap⟩⟩) (Q := Q)
  have pp := fun (Q : Pool × Pool → Prop) => ex_pp (a := ⟨⟨oN, oT, oB, oO, ol, k2⟩, q, ql, k3⟩) (b := ⟨⟨oN, oT, oB, oO, ol, oc⟩, q, ql, qc⟩) (Q := Q)
  simp only at tt pp
  have r1 : len ≤ k1 := by omega
  have r2 : ol ≤ k2 := by omega
  have r3 : ql ≤ k3 := by omega
  have r4 : len ≤ len + 2 := by omega
  have r5 : ol ≤ ol + 2 := by omega
  have r6 : ql ≤ ql + 2 := by omega
  have r7 : len < len + 2 ∧ len + 1 < len + 2 ∧ 0 ≤ len + 1 := by omega
  have r8 : ol < ol + 2 ∧ ol + 1 < ol + 2 ∧ 0 ≤ ol + 1 := by omega
  have r9 : ql < ql + 2 ∧ ql + 1 < ql + 2 ∧ 0 ≤ ql + 1 := by omega
  unfold left_vc
  simp only [ars, ars2, A, B, forall_eq, w1, w2, w3, v1, v2, v3, PL.sub_app n1, PL.sub_app n2, PL.sub_app n3, PL.sub_app n4, PL.sub_app n5, PL.sub_app o1, PL.sub_app o2, PL.sub_app o3, PL.sub_app o4, PL.sub_app q1,
    PL.mark0 n1, PL.mark0 n2, PL.mark0 n3, PL.mark0 n4, PL.mark0 n5, PL.mark0 o1, PL.mark0 o2, PL.mark0 o3, PL.mark0 o4, PL.mark0 q1, PL.mark1 n1, PL.mark1 n2, PL.mark1 n3, PL.mark1 n4, PL.mark1 n5, PL.mark1 o1, PL.mark1 o2, PL.mark1 o3, PL.mark1 o4, PL.mark1 q1,
    tt, pp, tI, tT, pI, pP, z1, z2, z3, r1, r2, r3, r4, r5, r6, r7, r8, r9, true_and, and_true, exists_const, forall_const, imp_false, not_true_eq_false, not_false_eq_true, Classical.not_not, false_iff, Bool.false_eq_true, implies_true, and_self, false_implies, iff_self]
end Go.Eng

set_option linter.unusedVariables false
set_option linter.unusedSimpArgs false
namespace Go.Eng
open Go.Proofs Go.RowKit Go.Shelf
attribute [local go_sem] Oper.semAt_some
/-- What an iterator over pieces wants kept: its two boxes. -/
def KeepC (Bs Bn : Nat) (A B : World) : Prop := B.cell? ⟨Bs, 0, none⟩ = A.cell? ⟨Bs, 0, none⟩ ∧ B.cell? ⟨Bn, 0, none⟩ = A.cell? ⟨Bn, 0, none⟩
set_option maxRecDepth 100000 in
set_option maxHeartbeats 2000000 in
theorem chunk_in (n : Nat) (hn : 1 ≤ n) (l Bs Bn b K β T cap : Nat) (h1 : 1 ≤ β) (hTe : T = K * β) (hT : T ≤ 100000000) (hcap : T ≤ cap) (J Jx : List Nat → World → Prop)
    (hY : ∀ pre x W, J pre W → pre.length < K → YieldAt Fence.wide (n - 1) Try.prog l #[.slice (some ⟨b, (x % K) * β, none⟩) β β] W fun e W' =>
      (e = .returned (.bool true) ∧ J (pre ++ [x]) W' ∧ KeepC Bs Bn W W') ∨ (e = .returned (.bool false) ∧ Jx (pre ++ [x]) W'))
    (W : World) (hBs : W.cell? ⟨Bs, 0, none⟩ = some (.slice (some ⟨b, 0, none⟩) T cap)) (hBn : W.cell? ⟨Bn, 0, none⟩ = some (.int .i64 β)) (h0 : J [] W) (hd : ∀ s W' m, J s W' → J s (W'.drewN m)) :
    CallsIn Fence.wide n Try.prog 66 #[.func (.yield l) #[] #[], .pointer (some ⟨Bs, 0, none⟩), .pointer (some ⟨Bn, 0, none⟩)] W fun e W' => (∃ v, e = .returned v) ∧ ((∃ xs, xs = List.range K ∧ J xs W') ∨ (∃ pre, True ∧ Jx pre W')) := by
  refine callsIn_of_wp Try.func66 rfl trivial ?_ rfl
  simp only [Try.ntmps66, List.size_toArray, List.length_cons, List.length_nil, Nat.reduceAdd, Nat.reduceSub, Array.replicate_succ, Array.replicate_zero, List.push_toArray, List.append_toArray, List.nil_append, List.cons_append]
  have HT := Lib.hid hTe
  have HD := Lib.hid hd
  have HY := Lib.hid hY
  clear hTe hd hY
  gi_wp2
  gi_loopw [4] (fun i wr => ∃ k m : Nat, Hid (m = k * β) ∧ k ≤ K ∧ i = .int .i64 (m : Int) ∧ J (List.range k) wr ∧ Hid (KeepC Bs Bn W wr))
    (fun i _ => T - (intOf i).toNat)
  case atStart => exact ⟨0, 0, Lib.hid (by simp), Nat.zero_le _, rfl, h0, Lib.hid ⟨rfl, rfl⟩⟩
  case round =>
    obtain ⟨k, m, hm, hk, rfl, hJs, hkc⟩ := hrel
    have c1 : wr.cell? ⟨Bs, 0, none⟩ = some (.slice (some ⟨b, 0, none⟩) T cap) := hkc.out.1.trans hBs
    have c2 : wr.cell? ⟨Bn, 0, none⟩ = some (.int .i64 β) := hkc.out.2.trans hBn
    by_cases hlt : k < K
    · have hle : m + β ≤ T := by
        have := Nat.mul_le_mul_right β hlt
        rw [Nat.succ_mul] at this
        rw [HT.out, hm.out]
        exact this
      have l1 : (m : Int) < (T : Int) := by omega
      have l3 : (β : Int) ≤ (T : Int) - (m : Int) := by omega
      have l4 : m + β ≤ cap := by omega
      have l5 : (m : Int) ≤ (T : Int) := by omega
      have l6 : (0 : Int) ≤ (m : Int) := by omega
      have l7 : ¬ cap = m := by omega
      have l8 : ¬ cap - m = 0 := by omega
      have l9 : ¬ m = cap := by omega
      gi_wp2
      gi_quiet_th (fail)
      obtain ⟨fn, tmps, assign, body, hy, hR⟩ := HY.out _ k _ (HD.out _ wr nq hJs) (by rw [List.length_range]; exact hlt)
      rw [Nat.mod_eq_of_lt hlt, ← hm.out] at hy
      gi_wp2
      refine hR.mono ?_
      rintro e W3 (⟨rfl, hJ3, hk3⟩ | ⟨rfl, hJx3⟩)
      · have c3 : W3.cell? ⟨Bn, 0, none⟩ = some (.int .i64 β) := hk3.2.trans c2
        have hw : IntKind.i64.wrap ((m : Int) + (β : Int)) = (m : Int) + (β : Int) := IntWalk.i64_in _ (by omega)
        gi_wp2
        go_roundw
        case rel => exact ⟨k + 1, m + β, Lib.hid (by rw [hm.out, Nat.succ_mul]), hlt, by simp, by rw [List.range_succ]; exact hJ3, Lib.hid ⟨hk3.1.trans hkc.out.1, hk3.2.trans hkc.out.2⟩⟩
        case measure => simp [intOf]; omega
      · gi_wp2
        refine bodyPost_ret (results_none rfl _ _ _) rfl ?_
        first | exact ⟨⟨_, rfl⟩, .inr ⟨_, hJx3⟩⟩ | exact ⟨⟨_, rfl⟩, .inr ⟨_, trivial, hJx3⟩⟩
    · obtain rfl : k = K := by omega
      have l1 : ¬ (m : Int) < (T : Int) := by have := hm.out; have := HT.out; omega
      gi_wp2
      go_end0
      first | exact ⟨⟨_, rfl⟩, .inl hJs⟩ | exact ⟨⟨_, rfl⟩, .inl ⟨_, rfl, hJs⟩⟩
theorem abides_drewN {J : List Nat → World → Prop} {B : Nat} (h : AbidesFrom B J) (s : List Nat) (W : World) (m : Nat) (hs : J s W) : J s (W.drewN m) :=
  h s W _ none hs ⟨rfl, rfl, rfl, Nat.le_refl _, fun _ _ _ => rfl⟩ (fun _ h => by cases h)
/-- The iterator's contract. -/
theorem chunk_stops (n : Nat) (hn : 1 ≤ n) (Bs Bn b K β T cap : Nat) (h1 : 1 ≤ β) (hTe : T = K * β) (hT : T ≤ 100000000) (hcap : T ≤ cap) (w : World) (hs : Bs < w.heap.size) (hn' : Bn < w.heap.size)
    (hBs : w.cell? ⟨Bs, 0, none⟩ = some (.slice (some ⟨b, 0, none⟩) T cap)) (hBn : w.cell? ⟨Bn, 0, none⟩ = some (.int .i64 β)) :
    SeqStopsK Fence.wide n Try.prog 66 #[.pointer (some ⟨Bs, 0, none⟩), .pointer (some ⟨Bn, 0, none⟩)] (fun x : Nat => #[Value.slice (some ⟨b, (x % K) * β, none⟩) β β]) (KeepC Bs Bn)
      (fun xs => xs = List.range K) (fun _ => True) K w := by
  intro l J Jx W hW hJ hJx hY h0
  exact chunk_in n hn l Bs Bn b K β T cap h1 hTe hT hcap J Jx hY W ((hW.cell (p := ⟨Bs, 0, none⟩) hs).trans hBs) ((hW.cell (p := ⟨Bn, 0, none⟩) hn').trans hBn) h0 (fun s W' m => abides_drewN hJ s W' m)
end Go.Eng
