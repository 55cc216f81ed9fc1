/- slices.Clip of the lists of a state. -/
import Derived.Test.YtfcjboomlfjanaaDoorIxF
set_option linter.unusedVariables false
set_option linter.unusedSimpArgs false
/- Index, the reference: Decode. -/
namespace Go.PL
structure DcIn (x : Cfg × Txts) : Prop where
  len : (x.2.l.length : Int) = x.2.len
  le : x.2.len ≤ 140737488351232
structure DcOK (c : Cfg) (l : List (List UInt8)) : Prop where
  cfg : CfgOK c
  n : (l.length : Int) = pagesI c
  all : AllLen l (c.page - 5)
  good : GoodS l.flatten c
  tree : TreeOK c (treeP l.flatten c 0)
  pool : PoolOK c (poolP l.flatten c 0 0)
noncomputable def dcE (c : Cfg) (l : List (List UInt8)) : Int := @ite _ (CfgOK c) (Classical.propDecidable _) (@ite _ (DcOK c l) (Classical.propDecidable _) 0 141) 140
def noTree : Tree := ⟨0, 0, ⟨[], [], [], [], [], 0, 0⟩⟩
def noPool : Pool := ⟨⟨[], [], [], [], 0, 0⟩, [], 0, 0⟩
structure DcPost (x : Cfg × Txts) (y : (Tree × Pool) × Int × Int × Int) : Prop where
  ex : (DcOK x.1 x.2.l ∧ ∃ a b d, nLive x.2.l.flatten x.1 (nRows x.1) ≤ a ∧ a ≤ y.2.1 ∧ rowsC x.1 ≤ b ∧ b ≤ y.2.2.1 ∧ cntQ x.2.l.flatten x.1 ≤ d ∧ d ≤ y.2.2.2 ∧ y.1 = (treeP x.2.l.flatten x.1 a, poolP x.2.l.flatten x.1 b d)) ∨ (¬ DcOK x.1 x.2.l ∧ y = ((noTree, noPool), 0, 0, 0))
theorem dcE_ok {c : Cfg} {l : List (List UInt8)} (h : DcOK c l) : dcE c l = 0 := by unfold dcE; rw [if_pos h.cfg, if_pos h]
theorem dcE_c {c : Cfg} {l : List (List UInt8)} (h : ¬ CfgOK c) : dcE c l = 140 := by unfold dcE; rw [if_neg h]
theorem dcE_i {c : Cfg} {l : List (List UInt8)} (h : CfgOK c) (h2 : ¬ DcOK c l) : dcE c l = 141 := by unfold dcE; rw [if_pos h, if_neg h2]
structure DcAt (x : Cfg × Txts) (i : Nat × Int) : Prop where
  le : i.1 ≤ x.2.l.length
  all : ∀ j, j < i.1 → ((x.2.l.getD j []).length : Int) = x.1.page - 5
  cap : ((x.2.l.take i.1).flatten.length : Int) ≤ i.2
theorem treeP_cap {s : List UInt8} {c : Cfg} {a b : Int} (h : TreeOK c (treeP s c a)) : TreeOK c (treeP s c b) := ⟨h.files, h.dirs, ⟨h.up.le, h.up.all, h.up.up⟩⟩
theorem poolP_cap {s : List UInt8} {c : Cfg} {a b a' b' : Int} (h : PoolOK c (poolP s c a b)) : PoolOK c (poolP s c a' b') :=
  ⟨h.len, h.qlen, ⟨h.objs.le, fun j hj => ⟨(h.objs.all j hj).n, (h.objs.all j hj).t, (h.objs.all j hj).b, (h.objs.all j hj).o⟩⟩, ⟨h.q.le, h.q.all⟩⟩
theorem rowsC_range {c : Cfg} (hc : CfgIn c) : 2 ≤ rowsC c ∧ rowsC c ≤ 65600 := by
  obtain ⟨c1, c2, c3, c4, c5, c6⟩ := hc
  simp only [rowsC]; omega
theorem nodsR_ok {s : List UInt8} {c : Cfg} {cap : Int} (hc : CfgIn c) : NodsOK (nodsR s c (nRows c) cap) := by
  have := live_le s c (nRows c)
  obtain ⟨c1, c2, c3, c4, c5, c6⟩ := hc
  constructor <;> first | (simp [nodsR, colK, colN, colP, colR, colZ, nLive]; done) | (simp only [nodsR, nLive, nRows] at this ⊢; omega)
theorem poolR_in {s : List UInt8} {c : Cfg} {b d : Int} (hc : CfgIn c) : PoolIn (c, poolR s c b d) := by
  have h1 := rowsC_range hc
  have h2 := cntR_range (s := s) hc
  refine ⟨hc, ?_, ?_, ?_, ?_, ?_, ?_, ?_⟩ <;> simp only [poolR, objsX, oN, oT, oB, oO, qL, List.length_map, List.length_range] <;> omega
theorem take_flat {l : List (List UInt8)} {i : Nat} (h : i < l.length) : (l.take (i + 1)).flatten = (l.take i).flatten ++ l.getD i [] := by
  rw [List.getD_eq_getElem?_getD, List.getElem?_eq_getElem h, take_snoc h, List.flatten_append]
  simp
theorem take_flat_len {l : List (List UInt8)} {n : Int} (h0 : 0 ≤ n) : ∀ {i : Nat}, i ≤ l.length → (∀ j, j < i → ((l.getD j []).length : Int) = n) → ((l.take i).flatten.length : Int) = i * n
  | 0, _, _ => by simp
  | i + 1, hi, h => by
    have ih := take_flat_len h0 (i := i) (by omega) (fun j hj => h j (by omega))
    have h1 := h i (by omega)
    rw [take_flat (by omega), List.length_append]
    have : ((i + 1 : Nat) : Int) * n = i * n + n := by rw [Int.natCast_add, Int.add_mul]; simp
    omega
end Go.PL
set_option linter.unusedSectionVars false
set_option linter.unusedSimpArgs false
set_option linter.unusedVariables false
namespace Go.Eng
variable [CW : CWorld]
open Go.Proofs Go.PL
set_option maxRecDepth 100000
attribute [local irreducible] run
def nodsC (x : Nods) (cap : Int) : Blk := nodsB { x with cap := cap }
def objsC (x : Objs) (cap : Int) : Blk := objsB { x with cap := cap }
theorem dropz {α : Type} {l : List α} {n : Int} (h : (l.length : Int) = n) : (l.drop (Int.toNat 0)).take n.toNat = l := by
  subst h
  rw [show Int.toNat 0 = 0 from rfl, List.drop_zero, Int.toNat_natCast, List.take_length]
end Go.Eng
namespace Go.PL
structure ClipN (x : Nods × Int) : Prop where
  len : 0 ≤ x.1.len ∧ x.1.len ≤ x.1.cap
structure ClipO (x : Objs × Int) : Prop where
  len : 0 ≤ x.1.len ∧ x.1.len ≤ x.1.cap
structure ClipQ (x : List Int × Int × Int × Int) : Prop where
  len : 0 ≤ x.2.1 ∧ x.2.1 ≤ x.2.2.1
end Go.PL
set_option linter.unusedSectionVars false
set_option linter.unusedSimpArgs false
set_option linter.unusedVariables false
namespace Go.Eng
variable [CW : CWorld]
open Go.Proofs Go.PL
set_option maxRecDepth 100000
attribute [local irreducible] run
def clipN : Spec where
  X := Nods × Int
  A x := [.slc 0 (.l 0) (.x x.1.len) (.x x.1.cap)]
  H x := [nodsC x.1 x.2]
  pre x := PL.ClipN x
  outs := [{ Y _ := Unit, post _ _ := True, R x _ := .slc 0 (.l 0) (.x x.1.len) (.x x.1.len), H' x _ := [nodsC x.1 x.2] }]
def clipO : Spec where
  X := Objs × Int
  A x := [.slc 0 (.l 0) (.x x.1.len) (.x x.1.cap)]
  H x := [objsC x.1 x.2]
  pre x := PL.ClipO x
  outs := [{ Y _ := Unit, post _ _ := True, R x _ := .slc 0 (.l 0) (.x x.1.len) (.x x.1.len), H' x _ := [objsC x.1 x.2] }]
def clipQ : Spec where
  X := List Int × Int × Int × Int
  A x := [.slc 0 (.l 0) (.x x.2.1) (.x x.2.2.1)]
  H x := [qB x.1 x.2.2.2]
  pre x := PL.ClipQ x
  outs := [{ Y _ := Unit, post _ _ := True, R x _ := .slc 0 (.l 0) (.x x.2.1) (.x x.2.1), H' x _ := [qB x.1 x.2.2.2] }]
def clipn_vc (ar : AR) (x : clipN.X) : Prop :=
  ar.le 0 x.fst.len ∧ ar.le x.fst.len x.fst.len ∧ ar.le x.fst.len x.fst.cap ∧ ∃ (y : Unit), True ∧ x.fst.len = x.fst.len ∧ x.fst.len = x.fst.len ∧ x.snd = x.snd ∧ x.fst.K = x.fst.K
  ∧ x.fst.N = x.fst.N ∧ x.fst.P = x.fst.P ∧ x.fst.S = x.fst.S ∧ x.fst.Z = x.fst.Z ∧ True
theorem clipn_eq (ar : AR) (x : clipN.X) : (run ar PP noSpec noInv 1000 37 (clipN.H x).length (Tryd.f37.body.getD .skip) (clipN.A x ++ List.replicate (Tryd.f37.ntmps - (clipN.A x).length) .any) (clipN.H x) (endCall ar PP Tryd.f37.results.toList (clipN.fin x))) = clipn_vc ar x := by
  kernel_rfl
theorem clipn_of (h : ∀ x, clipN.pre x → clipn_vc ar0 x) : clipN.OK PP 37 :=
  Spec.ok_of_run (fn := Tryd.f37) (c := Tryd.f37.body.getD .skip) (by kernel_rfl) (by kernel_rfl) (by kernel_rfl) noSpec_ok (fun _ => noInv) 1000 (fun x hx => (clipn_eq ar0 x).mpr (h x hx))
def clipo_vc (ar : AR) (x : clipO.X) : Prop :=
  ar.le 0 x.fst.len ∧ ar.le x.fst.len x.fst.len ∧ ar.le x.fst.len x.fst.cap ∧ ∃ (y : Unit), True ∧ x.fst.len = x.fst.len ∧ x.fst.len = x.fst.len ∧ x.snd = x.snd ∧ x.fst.N = x.fst.N
  ∧ x.fst.T = x.fst.T ∧ x.fst.B = x.fst.B ∧ x.fst.O = x.fst.O ∧ True
theorem clipo_eq (ar : AR) (x : clipO.X) : (run ar PP noSpec noInv 1000 38 (clipO.H x).length (Tryd.f38.body.getD .skip) (clipO.A x ++ List.replicate (Tryd.f38.ntmps - (clipO.A x).length) .any) (clipO.H x) (endCall ar PP Tryd.f38.results.toList (clipO.fin x))) = clipo_vc ar x := by
  kernel_rfl
theorem clipo_of (h : ∀ x, clipO.pre x → clipo_vc ar0 x) : clipO.OK PP 38 :=
  Spec.ok_of_run (fn := Tryd.f38) (c := Tryd.f38.body.getD .skip) (by kernel_rfl) (by kernel_rfl) (by kernel_rfl) noSpec_ok (fun _ => noInv) 1000 (fun x hx => (clipo_eq ar0 x).mpr (h x hx))
def clipq_vc (ar : AR) (x : clipQ.X) : Prop :=
  ar.le 0 x.snd.fst ∧ ar.le x.snd.fst x.snd.fst ∧ ar.le x.snd.fst x.snd.snd.fst ∧ ∃ (y : Unit), True ∧ x.snd.fst = x.snd.fst ∧ x.snd.fst = x.snd.fst ∧ x.snd.snd.snd = x.snd.snd.snd
  ∧ x.fst = x.fst ∧ True
theorem clipq_eq (ar : AR) (x : clipQ.X) : (run ar PP noSpec noInv 1000 39 (clipQ.H x).length (Tryd.f39.body.getD .skip) (clipQ.A x ++ List.replicate (Tryd.f39.ntmps - (clipQ.A x).length) .any) (clipQ.H x) (endCall ar PP Tryd.f39.results.toList (clipQ.fin x))) = clipq_vc ar x := by
  kernel_rfl
theorem clipq_of (h : ∀ x, clipQ.pre x → clipq_vc ar0 x) : clipQ.OK PP 39 :=
  Spec.ok_of_run (fn := Tryd.f39) (c := Tryd.f39.body.getD .skip) (by kernel_rfl) (by kernel_rfl) (by kernel_rfl) noSpec_ok (fun _ => noInv) 1000 (fun x hx => (clipq_eq ar0 x).mpr (h x hx))
theorem clipN_ok : clipN.OK PP 37 := by
  refine clipn_of fun x hx => ?_
  obtain ⟨h1, h2⟩ := hx.len
  unfold clipn_vc
  simp only [ars, ars2, true_and, and_true, exists_const]
  and_intros <;> first | rfl | trivial | omega
theorem clipO_ok : clipO.OK PP 38 := by
  refine clipo_of fun x hx => ?_
  obtain ⟨h1, h2⟩ := hx.len
  unfold clipo_vc
  simp only [ars, ars2, true_and, and_true, exists_const]
  and_intros <;> first | rfl | trivial | omega
theorem clipQ_ok : clipQ.OK PP 39 := by
  refine clipq_of fun x hx => ?_
  obtain ⟨h1, h2⟩ := hx.len
  unfold clipq_vc
  simp only [ars, ars2, true_and, and_true, exists_const]
  and_intros <;> first | rfl | trivial | omega
end Go.Eng

