/- slices.Clip of the lists of a state. -/
import Derived.Test.YtfcjboomlfjanaaDoorIxF
set_option linter.unusedVariables false
set_option linter.unusedSimpArgs false

/- Index, the reference: Decode. -/
namespace Go.PL
structure DcIn (x : Cfg × Txts) : Prop where
  len : (x.2.l.length : Int) = x.2.len
  le : x.2.len ≤ 140737488351232
/-- Pages that are taken. -/
structure DcOK (c : Cfg) (l : List (List UInt8)) : Prop where
  cfg : CfgOK c
  n : (l.length : Int) = pagesI c
  all : AllLen l (c.page - 5)
  good : GoodS l.flatten c
  tree : TreeOK c (treeP l.flatten c 0)
  pool : PoolOK c (poolP l.flatten c 0 0)
noncomputable def dcE (c : Cfg) (l : List (List UInt8)) : Int := @ite _ (CfgOK c) (Classical.propDecidable _) (@ite _ (DcOK c l) (Classical.propDecidable _) 0 141) 140
def noTree : Tree := ⟨0, 0, ⟨[], [], [], [], [], 0, 0⟩⟩
def noPool : Pool := ⟨⟨[], [], [], [], 0, 0⟩, [], 0, 0⟩
/-- Of the answer: y.1 what it says, y.2 how long the blocks are. -/
structure DcPost (x : Cfg × Txts) (y : (Tree × Pool) × Int × Int × Int) : Prop where
  ex : (DcOK x.1 x.2.l ∧ ∃ a b d, nLive x.2.l.flatten x.1 (nRows x.1) ≤ a ∧ a ≤ y.2.1 ∧ rowsC x.1 ≤ b ∧ b ≤ y.2.2.1 ∧ cntQ x.2.l.flatten x.1 ≤ d ∧ d ≤ y.2.2.2 ∧ y.1 = (treeP x.2.l.flatten x.1 a, poolP x.2.l.flatten x.1 b d)) ∨ (¬ DcOK x.1 x.2.l ∧ y = ((noTree, noPool), 0, 0, 0))
theorem dcE_ok {c : Cfg} {l : List (List UInt8)} (h : DcOK c l) : dcE c l = 0 := by unfold dcE; rw [if_pos h.cfg, if_pos h]
theorem dcE_c {c : Cfg} {l : List (List UInt8)} (h : ¬ CfgOK c) : dcE c l = 140 := by unfold dcE; rw [if_neg h]
theorem dcE_i {c : Cfg} {l : List (List UInt8)} (h : CfgOK c) (h2 : ¬ DcOK c l) : dcE c l = 141 := by unfold dcE; rw [if_pos h, if_neg h2]
structure DcAt (x : Cfg × Txts) (i : Nat × Int) : Prop where
  le : i.1 ≤ x.2.l.length
  all : ∀ j, j < i.1 → ((x.2.l.getD j []).length : Int) = x.1.page - 5
  cap : ((x.2.l.take i.1).flatten.length : Int) ≤ i.2
theorem treeP_cap {s : List UInt8} {c : Cfg} {a b : Int} (h : TreeOK c (treeP s c a)) : TreeOK c (treeP s c b) := ⟨h.files, h.dirs, ⟨h.up.le, h.up.all, h.up.up⟩⟩
theorem poolP_cap {s : List UInt8} {c : Cfg} {a b a' b' : Int} (h : PoolOK c (poolP s c a b)) : PoolOK c (poolP s c a' b') :=
  ⟨h.len, h.qlen, ⟨h.objs.le, fun j hj => ⟨(h.objs.all j hj).n, (h.objs.all j hj).t, (h.objs.all j hj).b, (h.objs.all j hj).o⟩⟩, ⟨h.q.le, h.q.all⟩⟩
theorem allLen_mem {l : List (List UInt8)} {n : Nat} (h : AllLen l (n : Int)) : ∀ t ∈ l, t.length = n := by
  intro t ht
  obtain ⟨i, hi, rfl⟩ := List.getElem_of_mem ht
  have := h.all i hi
  rw [List.getD_eq_getElem?_getD, List.getElem?_eq_getElem hi] at this
  exact Int.ofNat.inj this
theorem rowsC_range {c : Cfg} (hc : CfgIn c) : 2 ≤ rowsC c ∧ rowsC c ≤ 65600 := by
  obtain ⟨c1, c2, c3, c4, c5, c6⟩ := hc
  simp only [rowsC]; omega
theorem nodsR_ok {s : List UInt8} {c : Cfg} {cap : Int} (hc : CfgIn c) : NodsOK (nodsR s c (nRows c) cap) := by
  have := live_le s c (nRows c)
  obtain ⟨c1, c2, c3, c4, c5, c6⟩ := hc
  constructor <;> first | (simp [nodsR, colK, colN, colP, colR, colZ, nLive]; done) | (simp only [nodsR, nLive, nRows] at this ⊢; omega)
theorem poolR_in {s : List UInt8} {c : Cfg} {b d : Int} (hc : CfgIn c) : PoolIn (c, poolR s c b d) := by
  have h1 := rowsC_range hc
  have h2 := cntR_range (s := s) hc
  refine ⟨hc, ?_, ?_, ?_, ?_, ?_, ?_, ?_⟩ <;> simp only [poolR, objsX, oN, oT, oB, oO, qL, List.length_map, List.length_range] <;> omega
/-- What the reference takes. -/
theorem ref_iff {c : Cfg} {l : List (List UInt8)} {a b d : Int} (hc : CfgOK c) (hn : (l.length : Int) = pagesI c) (hl : AllLen l (c.page - 5)) :
    (EOK (c, treeR l.flatten c a, poolR l.flatten c b d) ∧ encL (c, treeR l.flatten c a, poolR l.flatten c b d) = l) ↔ DcOK c l := by
  obtain ⟨c1, c2, c3, c4, c5, c6⟩ := id hc.ok
  obtain ⟨n, hb⟩ : ∃ n : Nat, c.page - 5 = (n : Int) := ⟨(c.page - 5).toNat, by omega⟩
  have hm := allLen_mem (hb ▸ hl)
  have hfl := flat_len hm
  have hs : (l.flatten.length : Int) = pagesI c * (c.page - 5) := by rw [hfl, ← hn, hb, Int.natCast_mul]
  have hnP : (pagesI c).toNat = l.length := by omega
  have key : EOK (c, treeR l.flatten c a, poolR l.flatten c b d) → (encL (c, treeR l.flatten c a, poolR l.flatten c b d) = l ↔ GoodS l.flatten c) := fun h => by
    have hI : ImgIn (c, treeR l.flatten c a, poolR l.flatten c b d) := ⟨hc.ok, nodsR_ok hc.ok, poolR_in hc.ok, h.tree, h.pool⟩
    have hi := imgS_len hI
    obtain ⟨f1, f2, f3⟩ := full_fits hc
    simp only at hi
    rw [← full_iff hc hs h.tree hI, encL_ok h]
    simp only
    rw [hb, Int.toNat_natCast, hnP, pieces_iff hm]
    have : ((fullS c (treeR l.flatten c a) (poolR l.flatten c b d)).length : Int) = pagesI c * (c.page - 5) := by
      simp only [fullS, List.length_append, zs, List.length_replicate]; omega
    rw [← hs, hfl] at this
    exact Int.ofNat.inj this
  constructor
  · rintro ⟨h, he⟩
    have hg := (key h).1 he
    have ht := h.tree
    have hp := h.pool
    simp only [tree_same hg, pool_same hg] at ht hp
    exact ⟨hc, hn, hl, hg, treeP_cap ht, poolP_cap hp⟩
  · intro h
    have hE : EOK (c, treeR l.flatten c a, poolR l.flatten c b d) := ⟨hc, by simp only [tree_same h.good]; exact treeP_cap h.tree, by simp only [pool_same h.good]; exact poolP_cap h.pool⟩
    exact ⟨hE, (key hE).2 h.good⟩
theorem encErr_zero {x : Cfg × Tree × Pool} : encErr x = 0 ↔ EOK x := by
  constructor
  · intro h
    unfold encErr at h
    split at h
    · rename_i h1
      split at h
      · rename_i h2
        split at h
        · rename_i h3; exact ⟨h1, h2, h3⟩
        · omega
      · omega
    · omega
  · exact encErr_ok
theorem take_flat {l : List (List UInt8)} {i : Nat} (h : i < l.length) : (l.take (i + 1)).flatten = (l.take i).flatten ++ l.getD i [] := by
  rw [List.getD_eq_getElem?_getD, List.getElem?_eq_getElem h, take_snoc h, List.flatten_append]
  simp
theorem take_flat_len {l : List (List UInt8)} {n : Int} (h0 : 0 ≤ n) : ∀ {i : Nat}, i ≤ l.length → (∀ j, j < i → ((l.getD j []).length : Int) = n) → ((l.take i).flatten.length : Int) = i * n
  | 0, _, _ => by simp
  | i + 1, hi, h => by
    have ih := take_flat_len h0 (i := i) (by omega) (fun j hj => h j (by omega))
    have h1 := h i (by omega)
    rw [take_flat (by omega), List.length_append]
    have : ((i + 1 : Nat) : Int) * n = i * n + n := by rw [Int.natCast_add, Int.add_mul]; simp
    omega
end Go.PL
set_option linter.unusedSectionVars false
set_option linter.unusedSimpArgs false
set_option linter.unusedVariables false
namespace Go.Eng
variable [CW : CWorld]
open Go.Proofs Go.PL
set_option maxRecDepth 100000
attribute [local irreducible] run
def nodsC (x : Nods) (cap : Int) : Blk := nodsB { x with cap := cap }
def objsC (x : Objs) (cap : Int) : Blk := objsB { x with cap := cap }
def treeSl (n : Nat) (t : Tree) : SV := .agg [.int .i64 (.x t.files), .int .i64 (.x t.dirs), .slc n (.l 0) (.x t.nods.len) (.x t.nods.cap)]
def poolSl (n m : Nat) (p : Pool) : SV := .agg [.slc n (.l 0) (.x p.objs.len) (.x p.objs.cap), .slc m (.l 0) (.x p.qlen) (.x p.qcap)]
noncomputable def dcSpec : Spec where
  X := Cfg × Txts
  A x := [.agg (cfgL x.1), .cs [.strs x.2.l] (.x x.2.len) (.x x.2.cap)]
  H x := []
  pre x := PL.DcIn x
  outs := [{ Y _ := (Tree × Pool) × Int × Int × Int, post x y := PL.DcPost x y, R x y := .tup [treeSl 0 y.1.1, poolSl 1 2 y.1.2, .int .i64 (.x (PL.dcE x.1 x.2.l))], H' x y := [nodsC y.1.1.nods y.2.1, objsC y.1.2.objs y.2.2.1, qB y.1.2.q y.2.2.2] }]
  frz := true
noncomputable def rdc1 (x : Cfg × Txts) : Code → List SV → List Blk → List Inv := fun b fr hp => [
  { ι := Nat × Int, fr := fun i => only b fr 7 [] [(7, .slc 3 (.l 0) (.x (((x.2.l.take i.1).flatten).length : Int)) (.x i.2)), (8, .int .i64 (.x (i.1 : Int)))],
    hp := fun i => [hp.getD 0 .gone, hp.getD 1 .gone, hp.getD 2 .gone, bytesB (x.2.l.take i.1).flatten i.2], μ := fun i => x.2.l.length - i.1, ok := fun i => PL.DcAt x i }]
noncomputable def rdcInvs (x : Cfg × Txts) : Invs := fun f n => match f, n with
  | 11, 7 => some (rdc1 x)
  | _, _ => none
noncomputable def rdcSpecs : Specs := fun f a h => match f with
  | 41 => some rreadSpec
  | 42 => some enc4Spec
  | 43 => some stSpec
  | _ => eSpecs f a h
theorem rdcSpecs_ok : SpecsOK PP rdcSpecs := by
  intro CW f xs _ S h
  unfold rdcSpecs at h
  split at h
  · cases h; exact rreadSpec_ok
  · cases h; exact renc4_ok
  · cases h; exact rstSpec_ok
  · exact eSpecs_ok CW _ _ _ _ h
def rdc_vc (ar : AR) (x : dcSpec.X) : Prop :=
  ∃ (x_1 : Cfg), x.fst.slots = x_1.slots ∧ x.fst.files = x_1.files ∧ x.fst.dirs = x_1.dirs ∧ x.fst.most = x_1.most ∧ x.fst.least = x_1.least ∧ x.fst.page = x_1.page ∧ CfgAny x_1 ∧
  ∀ (y : Unit), True → (¬ar.eq (chk x_1) 0 → ∃ (y : (Tree × Pool) × Int × Int × Int), DcPost x y ∧ 0 = y.fst.fst.files ∧ 0 = y.fst.fst.dirs ∧ 0 = y.fst.fst.nods.len ∧ 0 =
  y.fst.fst.nods.cap ∧ 0 = y.fst.snd.objs.len ∧ 0 = y.fst.snd.objs.cap ∧ 0 = y.fst.snd.qlen ∧ 0 = y.fst.snd.qcap ∧ 140 = dcE x.fst x.snd.l ∧ y.2.fst = 0 ∧ y.fst.fst.nods.K = [] ∧
  y.fst.fst.nods.N = [] ∧ y.fst.fst.nods.P = [] ∧ y.fst.fst.nods.S = [] ∧ y.fst.fst.nods.Z = [] ∧ y.snd.snd.fst = 0 ∧ y.fst.snd.objs.N = [] ∧ y.fst.snd.objs.T = [] ∧
  y.fst.snd.objs.B = [] ∧ y.fst.snd.objs.O = [] ∧ y.snd.snd.snd = 0 ∧ y.fst.snd.q = [] ∧ True) ∧ (¬¬ar.eq (chk x_1) 0 → ∃ (x_2 : Cfg), x.fst.slots = x_2.slots ∧ x.fst.files =
  x_2.files ∧ x.fst.dirs = x_2.dirs ∧ x.fst.most = x_2.most ∧ x.fst.least = x_2.least ∧ x.fst.page = x_2.page ∧ CfgIn x_2 ∧ ∀ (y : Unit), True → (¬ar.eq x.snd.len (pagesI x_2) → ∃
  (y : (Tree × Pool) × Int × Int × Int), DcPost x y ∧ 0 = y.fst.fst.files ∧ 0 = y.fst.fst.dirs ∧ 0 = y.fst.fst.nods.len ∧ 0 = y.fst.fst.nods.cap ∧ 0 = y.fst.snd.objs.len ∧ 0 =
  y.fst.snd.objs.cap ∧ 0 = y.fst.snd.qlen ∧ 0 = y.fst.snd.qcap ∧ 141 = dcE x.fst x.snd.l ∧ y.2.fst = 0 ∧ y.fst.fst.nods.K = [] ∧ y.fst.fst.nods.N = [] ∧ y.fst.fst.nods.P = [] ∧
  y.fst.fst.nods.S = [] ∧ y.fst.fst.nods.Z = [] ∧ y.snd.snd.fst = 0 ∧ y.fst.snd.objs.N = [] ∧ y.fst.snd.objs.T = [] ∧ y.fst.snd.objs.B = [] ∧ y.fst.snd.objs.O = [] ∧ y.snd.snd.snd
  = 0 ∧ y.fst.snd.q = [] ∧ True) ∧ (¬¬ar.eq x.snd.len (pagesI x_2) → (∃ (i : Nat × Int), DcAt x i ∧ x.fst.slots = x.fst.slots ∧ x.fst.files = x.fst.files ∧ x.fst.dirs = x.fst.dirs
  ∧ x.fst.most = x.fst.most ∧ x.fst.least = x.fst.least ∧ x.fst.page = x.fst.page ∧ x.snd.l = x.snd.l ∧ x.snd.len = x.snd.len ∧ x.snd.cap = x.snd.cap ∧ 0 = (↑(List.take i.fst
  x.snd.l).flatten.length : Int) ∧ 0 = i.snd ∧ 0 = (↑i.fst : Int) ∧ x.fst.slots = x.fst.slots ∧ x.fst.files = x.fst.files ∧ x.fst.dirs = x.fst.dirs ∧ x.fst.most = x.fst.most ∧
  x.fst.least = x.fst.least ∧ x.fst.page = x.fst.page ∧ i.snd = 0 ∧ ints (List.take i.fst x.snd.l).flatten = [] ∧ True) ∧ ∀ (i : Nat × Int), DcAt x i → (ar.lt (↑i.fst : Int)
  x.snd.len → ar.le 0 (↑i.fst : Int) ∧ ar.lt (↑i.fst : Int) x.snd.len ∧ ∀ (z : Int), z = ar.wrap IntKind.i64 (ar.sub x.fst.page 5) → (¬ar.eq (ar.slen (ar.tget x.snd.l (↑i.fst :
  Int))) z → ∃ (y : (Tree × Pool) × Int × Int × Int), DcPost x y ∧ 0 = y.fst.fst.files ∧ 0 = y.fst.fst.dirs ∧ 0 = y.fst.fst.nods.len ∧ 0 = y.fst.fst.nods.cap ∧ 0 =
  y.fst.snd.objs.len ∧ 0 = y.fst.snd.objs.cap ∧ 0 = y.fst.snd.qlen ∧ 0 = y.fst.snd.qcap ∧ 141 = dcE x.fst x.snd.l ∧ y.2.fst = 0 ∧ y.fst.fst.nods.K = [] ∧ y.fst.fst.nods.N = [] ∧
  y.fst.fst.nods.P = [] ∧ y.fst.fst.nods.S = [] ∧ y.fst.fst.nods.Z = [] ∧ y.snd.snd.fst = 0 ∧ y.fst.snd.objs.N = [] ∧ y.fst.snd.objs.T = [] ∧ y.fst.snd.objs.B = [] ∧
  y.fst.snd.objs.O = [] ∧ y.snd.snd.snd = 0 ∧ y.fst.snd.q = [] ∧ True) ∧ (¬¬ar.eq (ar.slen (ar.tget x.snd.l (↑i.fst : Int))) z → ar.le 0 (↑i.fst : Int) ∧ ar.lt (↑i.fst : Int)
  x.snd.len ∧ ar.le (ar.add 0 (↑(List.take i.fst x.snd.l).flatten.length : Int)) (ar.ilen (ints (List.take i.fst x.snd.l).flatten)) ∧ i.snd = i.snd ∧ ar.le (ar.mul (ar.add
  (↑(List.take i.fst x.snd.l).flatten.length : Int) (ar.slen (ar.tget x.snd.l (↑i.fst : Int)))) 1) 140737488355328 ∧ ∀ (c : Int), ar.le (ar.add (↑(List.take i.fst
  x.snd.l).flatten.length : Int) (ar.slen (ar.tget x.snd.l (↑i.fst : Int)))) c → ∀ (z : Int), z = ar.wrap IntKind.i64 (ar.add (↑i.fst : Int) 1) → ∃ (j : Nat × Int), DcAt x j ∧
  (x.snd.l.length.sub j.fst).lt (x.snd.l.length.sub i.fst) ∧ x.fst.slots = x.fst.slots ∧ x.fst.files = x.fst.files ∧ x.fst.dirs = x.fst.dirs ∧ x.fst.most = x.fst.most ∧ x.fst.least
  = x.fst.least ∧ x.fst.page = x.fst.page ∧ x.snd.l = x.snd.l ∧ x.snd.len = x.snd.len ∧ x.snd.cap = x.snd.cap ∧ ar.add (↑(List.take i.fst x.snd.l).flatten.length : Int) (ar.slen
  (ar.tget x.snd.l (↑i.fst : Int))) = (↑(List.take j.fst x.snd.l).flatten.length : Int) ∧ c = j.snd ∧ z = (↑j.fst : Int) ∧ x.fst.slots = x.fst.slots ∧ x.fst.files = x.fst.files ∧
  x.fst.dirs = x.fst.dirs ∧ x.fst.most = x.fst.most ∧ x.fst.least = x.fst.least ∧ x.fst.page = x.fst.page ∧ c = j.snd ∧ ar.iapp (ar.isub (ints (List.take i.fst x.snd.l).flatten) 0
  (↑(List.take i.fst x.snd.l).flatten.length : Int)) (ar.isub (ar.ints (ar.tget x.snd.l (↑i.fst : Int))) 0 (ar.slen (ar.tget x.snd.l (↑i.fst : Int)))) = ints (List.take j.fst
  x.snd.l).flatten ∧ True)) ∧ (¬ar.lt (↑i.fst : Int) x.snd.len → ar.le 0 0 ∧ ar.le (ar.add 0 (↑(List.take i.fst x.snd.l).flatten.length : Int)) (ar.ilen (ints (List.take i.fst
  x.snd.l).flatten)) ∧ ∀ (t : List UInt8), t = ar.bytes (ar.isub (ints (List.take i.fst x.snd.l).flatten) 0 (↑(List.take i.fst x.snd.l).flatten.length : Int)) → ∃ (x_3 : Cfg × List
  UInt8), x.fst.slots = x_3.1.slots ∧ x.fst.files = x_3.1.files ∧ x.fst.dirs = x_3.1.dirs ∧ x.fst.most = x_3.1.most ∧ x.fst.least = x_3.1.least ∧ x.fst.page = x_3.1.page ∧ t =
  x_3.snd ∧ ReadIn x_3 ∧ ∀ (y : Int × Int × Int), ReadCap x_3 y → ∃ (x_4 : Cfg × Tree × Pool), x.fst.slots = x_4.1.slots ∧ x.fst.files = x_4.1.files ∧ x.fst.dirs = x_4.1.dirs ∧
  x.fst.most = x_4.1.most ∧ x.fst.least = x_4.1.least ∧ x.fst.page = x_4.1.page ∧ x_3.1.files = x_4.snd.fst.files ∧ x_3.1.dirs = x_4.snd.fst.dirs ∧ ar.le 0 0 ∧ ar.le (ar.add 0
  (nLive x_3.snd x_3.fst (nRows x_3.fst))) (ar.ilen (colK x_3.snd x_3.fst (nRows x_3.fst))) ∧ ar.le (ar.add 0 (nLive x_3.snd x_3.fst (nRows x_3.fst))) (ar.ilen (colN x_3.snd
  x_3.fst (nRows x_3.fst))) ∧ ar.le (ar.add 0 (nLive x_3.snd x_3.fst (nRows x_3.fst))) (ar.ilen (colP x_3.snd x_3.fst (nRows x_3.fst))) ∧ ar.le (ar.add 0 (nLive x_3.snd x_3.fst
  (nRows x_3.fst))) (ar.tlen (colR x_3.snd x_3.fst (nRows x_3.fst))) ∧ ar.le (ar.add 0 (nLive x_3.snd x_3.fst (nRows x_3.fst))) (ar.ilen (colZ x_3.snd x_3.fst (nRows x_3.fst))) ∧
  ar.isub (colK x_3.snd x_3.fst (nRows x_3.fst)) 0 (nLive x_3.snd x_3.fst (nRows x_3.fst)) = x_4.snd.fst.nods.K ∧ ar.isub (colN x_3.snd x_3.fst (nRows x_3.fst)) 0 (nLive x_3.snd
  x_3.fst (nRows x_3.fst)) = x_4.snd.fst.nods.N ∧ ar.isub (colP x_3.snd x_3.fst (nRows x_3.fst)) 0 (nLive x_3.snd x_3.fst (nRows x_3.fst)) = x_4.snd.fst.nods.P ∧ ar.tsub (colR
  x_3.snd x_3.fst (nRows x_3.fst)) 0 (nLive x_3.snd x_3.fst (nRows x_3.fst)) = x_4.snd.fst.nods.S ∧ ar.isub (colZ x_3.snd x_3.fst (nRows x_3.fst)) 0 (nLive x_3.snd x_3.fst (nRows
  x_3.fst)) = x_4.snd.fst.nods.Z ∧ nLive x_3.snd x_3.fst (nRows x_3.fst) = x_4.snd.fst.nods.len ∧ y.fst = x_4.snd.fst.nods.cap ∧ ar.le 0 0 ∧ ar.le (ar.add 0 (rowsC x_3.fst))
  (ar.tlen (oN x_3.snd x_3.fst (rowsC x_3.fst).toNat)) ∧ ar.le (ar.add 0 (rowsC x_3.fst)) (ar.tlen (oT x_3.snd x_3.fst (rowsC x_3.fst).toNat)) ∧ ar.le (ar.add 0 (rowsC x_3.fst))
  (ar.ilen (oB x_3.snd x_3.fst (rowsC x_3.fst).toNat)) ∧ ar.le (ar.add 0 (rowsC x_3.fst)) (ar.ilen (oO x_3.snd x_3.fst (rowsC x_3.fst).toNat)) ∧ ar.tsub (oN x_3.snd x_3.fst (rowsC
  x_3.fst).toNat) 0 (rowsC x_3.fst) = x_4.snd.snd.objs.N ∧ ar.tsub (oT x_3.snd x_3.fst (rowsC x_3.fst).toNat) 0 (rowsC x_3.fst) = x_4.snd.snd.objs.T ∧ ar.isub (oB x_3.snd x_3.fst
  (rowsC x_3.fst).toNat) 0 (rowsC x_3.fst) = x_4.snd.snd.objs.B ∧ ar.isub (oO x_3.snd x_3.fst (rowsC x_3.fst).toNat) 0 (rowsC x_3.fst) = x_4.snd.snd.objs.O ∧ rowsC x_3.fst =
  x_4.snd.snd.objs.len ∧ y.2.fst = x_4.snd.snd.objs.cap ∧ ar.le 0 0 ∧ ar.le (ar.add 0 (cntR x_3.snd x_3.fst)) (ar.ilen (qL x_3.snd x_3.fst (cntR x_3.snd x_3.fst).toNat)) ∧ ar.isub
  (qL x_3.snd x_3.fst (cntR x_3.snd x_3.fst).toNat) 0 (cntR x_3.snd x_3.fst) = x_4.snd.snd.q ∧ cntR x_3.snd x_3.fst = x_4.snd.snd.qlen ∧ y.2.snd = x_4.snd.snd.qcap ∧ EIn x_4 ∧ ∀
  (y_1 : Int), Enc4Post x_4 y_1 → ((¬ar.eq (encErr x_4) 0 → False) → ∃ (x_5 : Txts × Txts), ar.le 0 0 ∧ ar.le (ar.add 0 (↑(encL x_4).length : Int)) (ar.tlen (encL x_4)) ∧ ar.tsub
  (encL x_4) 0 (↑(encL x_4).length : Int) = x_5.1.l ∧ (↑(encL x_4).length : Int) = x_5.1.len ∧ y_1 = x_5.1.cap ∧ x.snd.l = x_5.2.l ∧ x.snd.len = x_5.2.len ∧ x.snd.cap = x_5.2.cap ∧
  TxtsIn x_5 ∧ ∀ (y_2 : Unit), True → (¬x_5.1.l = x_5.2.l → ∃ (y : (Tree × Pool) × Int × Int × Int), DcPost x y ∧ 0 = y.fst.fst.files ∧ 0 = y.fst.fst.dirs ∧ 0 = y.fst.fst.nods.len
  ∧ 0 = y.fst.fst.nods.cap ∧ 0 = y.fst.snd.objs.len ∧ 0 = y.fst.snd.objs.cap ∧ 0 = y.fst.snd.qlen ∧ 0 = y.fst.snd.qcap ∧ 141 = dcE x.fst x.snd.l ∧ y.2.fst = 0 ∧ y.fst.fst.nods.K =
  [] ∧ y.fst.fst.nods.N = [] ∧ y.fst.fst.nods.P = [] ∧ y.fst.fst.nods.S = [] ∧ y.fst.fst.nods.Z = [] ∧ y.snd.snd.fst = 0 ∧ y.fst.snd.objs.N = [] ∧ y.fst.snd.objs.T = [] ∧
  y.fst.snd.objs.B = [] ∧ y.fst.snd.objs.O = [] ∧ y.snd.snd.snd = 0 ∧ y.fst.snd.q = [] ∧ True) ∧ (¬¬x_5.1.l = x_5.2.l → ∃ (y_3 : (Tree × Pool) × Int × Int × Int), DcPost x y_3 ∧
  x_3.1.files = y_3.fst.fst.files ∧ x_3.1.dirs = y_3.fst.fst.dirs ∧ nLive x_3.snd x_3.fst (nRows x_3.fst) = y_3.fst.fst.nods.len ∧ y.fst = y_3.fst.fst.nods.cap ∧ rowsC x_3.fst =
  y_3.fst.snd.objs.len ∧ y.2.fst = y_3.fst.snd.objs.cap ∧ cntR x_3.snd x_3.fst = y_3.fst.snd.qlen ∧ y.2.snd = y_3.fst.snd.qcap ∧ 0 = dcE x.fst x.snd.l ∧ y.fst = y_3.2.fst ∧ colK
  x_3.snd x_3.fst (nRows x_3.fst) = y_3.fst.fst.nods.K ∧ colN x_3.snd x_3.fst (nRows x_3.fst) = y_3.fst.fst.nods.N ∧ colP x_3.snd x_3.fst (nRows x_3.fst) = y_3.fst.fst.nods.P ∧
  colR x_3.snd x_3.fst (nRows x_3.fst) = y_3.fst.fst.nods.S ∧ colZ x_3.snd x_3.fst (nRows x_3.fst) = y_3.fst.fst.nods.Z ∧ y.2.fst = y_3.snd.snd.fst ∧ oN x_3.snd x_3.fst (rowsC
  x_3.fst).toNat = y_3.fst.snd.objs.N ∧ oT x_3.snd x_3.fst (rowsC x_3.fst).toNat = y_3.fst.snd.objs.T ∧ oB x_3.snd x_3.fst (rowsC x_3.fst).toNat = y_3.fst.snd.objs.B ∧ oO x_3.snd
  x_3.fst (rowsC x_3.fst).toNat = y_3.fst.snd.objs.O ∧ y.2.snd = y_3.snd.snd.snd ∧ qL x_3.snd x_3.fst (cntR x_3.snd x_3.fst).toNat = y_3.fst.snd.q ∧ True)) ∧ (¬(¬ar.eq (encErr x_4)
  0 → False) → ∃ (y : (Tree × Pool) × Int × Int × Int), DcPost x y ∧ 0 = y.fst.fst.files ∧ 0 = y.fst.fst.dirs ∧ 0 = y.fst.fst.nods.len ∧ 0 = y.fst.fst.nods.cap ∧ 0 =
  y.fst.snd.objs.len ∧ 0 = y.fst.snd.objs.cap ∧ 0 = y.fst.snd.qlen ∧ 0 = y.fst.snd.qcap ∧ 141 = dcE x.fst x.snd.l ∧ y.2.fst = 0 ∧ y.fst.fst.nods.K = [] ∧ y.fst.fst.nods.N = [] ∧
  y.fst.fst.nods.P = [] ∧ y.fst.fst.nods.S = [] ∧ y.fst.fst.nods.Z = [] ∧ y.snd.snd.fst = 0 ∧ y.fst.snd.objs.N = [] ∧ y.fst.snd.objs.T = [] ∧ y.fst.snd.objs.B = [] ∧
  y.fst.snd.objs.O = [] ∧ y.snd.snd.snd = 0 ∧ y.fst.snd.q = [] ∧ True))))
theorem rdc_eq (ar : AR) (x : dcSpec.X) : (run ar PP rdcSpecs (rdcInvs x) 1000 11 (dcSpec.H x).length (Tryd.f11.body.getD .skip) (dcSpec.A x ++ List.replicate (Tryd.f11.ntmps - (dcSpec.A x).length) .any) (dcSpec.H x) (endCall ar PP Tryd.f11.results.toList (dcSpec.fin x))) = rdc_vc ar x := by
  kernel_rfl
theorem rdc_of (h : ∀ x, dcSpec.pre x → rdc_vc ar0 x) : dcSpec.OK PP 11 :=
  Spec.ok_of_run (fn := Tryd.f11) (c := Tryd.f11.body.getD .skip) (by kernel_rfl) (by kernel_rfl) (by kernel_rfl) rdcSpecs_ok rdcInvs 1000 (fun x hx => (rdc_eq ar0 x).mpr (h x hx))
theorem ex_cs {c : Cfg} {s : List UInt8} {Q : Cfg × List UInt8 → Prop} : (∃ y : Cfg × List UInt8, c.slots = y.1.slots ∧ c.files = y.1.files ∧ c.dirs = y.1.dirs ∧ c.most = y.1.most ∧ c.least = y.1.least ∧ c.page = y.1.page ∧ s = y.2 ∧ Q y) ↔ Q (c, s) := by
  constructor
  · rintro ⟨⟨⟨a1, a2, a3, a4, a5, a6⟩, t⟩, h1, h2, h3, h4, h5, h6, h7, h⟩
    obtain ⟨d1, d2, d3, d4, d5, d6⟩ := c
    simp only at h1 h2 h3 h4 h5 h6 h7
    subst h1 h2 h3 h4 h5 h6 h7
    exact h
  · exact fun h => ⟨_, rfl, rfl, rfl, rfl, rfl, rfl, rfl, h⟩
theorem dropz {α : Type} {l : List α} {n : Int} (h : (l.length : Int) = n) : (l.drop (Int.toNat 0)).take n.toNat = l := by
  subst h
  rw [show Int.toNat 0 = 0 from rfl, List.drop_zero, Int.toNat_natCast, List.take_length]
theorem rdc_ok : dcSpec.OK PP 11 := by
  refine rdc_of fun x hx => ?_
  obtain ⟨c, ⟨l, n, cp⟩⟩ := x
  obtain ⟨hln, hle⟩ : PL.DcIn (c, ⟨l, n, cp⟩) := hx
  simp only at hln hle
  subst hln
  have bad : ∀ e : Int, ¬ DcOK c l → dcE c l = e → ∃ y : (Tree × Pool) × Int × Int × Int, DcPost (c, ⟨l, l.length, cp⟩) y ∧ 0 = y.1.1.files ∧ 0 = y.1.1.dirs ∧ 0 = y.1.1.nods.len ∧ 0 = y.1.1.nods.cap ∧ 0 = y.1.2.objs.len ∧ 0 = y.1.2.objs.cap ∧ 0 = y.1.2.qlen ∧ 0 = y.1.2.qcap ∧ e = dcE c l ∧ y.2.1 = 0 ∧ y.1.1.nods.K = [] ∧ y.1.1.nods.N = [] ∧ y.1.1.nods.P = [] ∧ y.1.1.nods.S = [] ∧ y.1.1.nods.Z = [] ∧
      y.2.2.1 = 0 ∧ y.1.2.objs.N = [] ∧ y.1.2.objs.T = [] ∧ y.1.2.objs.B = [] ∧ y.1.2.objs.O = [] ∧ y.2.2.2 = 0 ∧ y.1.2.q = [] := fun e h he =>
    ⟨((noTree, noPool), 0, 0, 0), ⟨.inr ⟨h, rfl⟩⟩, rfl, rfl, rfl, rfl, rfl, rfl, rfl, rfl, he.symm, rfl, rfl, rfl, rfl, rfl, rfl, rfl, rfl, rfl, rfl, rfl, rfl, rfl⟩
  unfold rdc_vc
  simp only [ars, ars2, ex_cfg, ex_cs, cfgAny, true_and, and_true, exists_const, forall_const, forall_eq, imp_false, Classical.not_not, Int.toNat_natCast, Int.zero_add, PL.ints_length, PL.chk_zero, PL.encErr_zero, Int.le_refl]
  refine ⟨fun hc => bad _ (fun h => hc h.cfg) (dcE_c hc), fun hC => ?_⟩
  have hci := hC.ok
  obtain ⟨c1, c2, c3, c4, c5, c6⟩ := id hci
  obtain ⟨f1, f2, f3⟩ := full_fits hC
  have hp := hC.pages
  have w0 : IntKind.i64.wrap (c.page - 5) = c.page - 5 := wrap_i64 (by omega) (by omega)
  have no : ¬ DcOK c l → _ := fun h => bad 141 h (dcE_i hC h)
  simp only [w0]
  refine ⟨hci, fun hn => no fun h => hn h.n, fun hn => ⟨⟨(0, 0), ⟨Nat.zero_le _, fun j hj => absurd hj (Nat.not_lt_zero j), by simp⟩, by simp, rfl, rfl, rfl, by simp [PL.ints]⟩, ?_⟩⟩
  rintro ⟨i, cap⟩ ⟨hi, hall, hcap⟩
  simp only at hi hall hcap ⊢
  have hfl := take_flat_len (by omega : 0 ≤ c.page - 5) hi hall
  have hmul : (i : Int) * (c.page - 5) ≤ pagesI c * (c.page - 5) := Int.mul_le_mul_of_nonneg_right (by omega) (by omega)
  refine ⟨fun hlt => ⟨by omega, hlt, fun hne => no fun h => ?_, fun he => ?_⟩, fun hge => ?_⟩
  · exact hne (h.all.all i (by omega))
  · have w1 : IntKind.i64.wrap ((i : Int) + 1) = i + 1 := wrap_i64 (by omega) (by omega)
    have e1 := take_flat (l := l) (i := i) (by omega)
    refine ⟨by omega, hlt, by omega, fun c' hc' => ⟨(i + 1, c'), ⟨by simp only; omega, fun j hj => ?_, by simp only [e1, List.length_append]; omega⟩, by simp only; omega, by simp only [e1, List.length_append]; omega, rfl, by rw [w1]; rfl, rfl, app_ints rfl e1⟩⟩
    by_cases e : j = i
    · subst e; exact he
    · exact hall j (by simp only at hj; omega)
  · obtain rfl : i = l.length := by omega
    simp only [List.take_length] at hfl hcap ⊢
    have hA : AllLen l (c.page - 5) := ⟨hall⟩
    have hs : List.map (fun n : Int => UInt8.ofNat n.toNat) (List.take l.flatten.length (List.drop (Int.toNat 0) (PL.ints l.flatten))) = l.flatten := by
      rw [show Int.toNat 0 = 0 from rfl, List.drop_zero, ← PL.ints_take, List.take_length, PL.bytes_ints]
    have hmn : pagesI c * (c.page - 5) = l.length * (c.page - 5) := by rw [hn]
    simp only [hs]
    refine ⟨⟨hci, by simp only; omega, by simp only; omega⟩, ?_⟩
    rintro ⟨a, b, d⟩ ⟨ha, hb, hd⟩
    simp only at ha hb hd
    obtain ⟨lK, lN, lP, lR, lS, lZ⟩ := col_lens l.flatten c (nRows c)
    obtain ⟨mN, mT, mB, mO, _⟩ := obj_lens l.flatten c (rowsC c).toNat
    obtain ⟨_, _, _, _, mQ⟩ := obj_lens l.flatten c (cntR l.flatten c).toNat
    have hr := rowsC_range hci
    have hq := cntR_range (s := l.flatten) hci
    have iff := ref_iff (a := a) (b := b) (d := d) hC hn hA
    simp only at lK lN lP lR lZ ⊢
    refine ⟨(c, treeR l.flatten c a, poolR l.flatten c b d), rfl, rfl, rfl, rfl, rfl, rfl, rfl, rfl, ?_⟩
    have q0 : ((cntR l.flatten c).toNat : Int) = cntR l.flatten c := by omega
    have r0 : ((rowsC c).toNat : Int) = rowsC c := by omega
    simp only [lK, lN, lP, lR, lZ, mN, mT, mB, mO, mQ, q0, r0, dropz lK, dropz lN, dropz lP, dropz lR, dropz lZ, dropz (by rw [mN, r0]), dropz (by rw [mT, r0]), dropz (by rw [mB, r0]), dropz (by rw [mO, r0]), dropz (by rw [mQ, q0]), Int.le_refl, true_and]
    have hq2 : DcOK c l → cntQ l.flatten c ≤ d := fun h => by have := (cnt_same h.good).1; omega
    refine ⟨rfl, rfl, rfl, rfl, rfl, rfl, rfl, rfl, rfl, rfl, rfl, rfl, rfl, rfl, rfl, rfl, ⟨nodsR_ok hci, fun _ => poolR_in hci⟩, fun y1 hy1 => ⟨fun hE => ?_, fun hE => no fun h => hE (iff.2 h).1⟩⟩
    refine ⟨(⟨encL (c, treeR l.flatten c a, poolR l.flatten c b d), (encL (c, treeR l.flatten c a, poolR l.flatten c b d)).length, y1⟩, ⟨l, l.length, cp⟩), by rw [show Int.toNat 0 = 0 from rfl, List.drop_zero, List.take_length], rfl, rfl, rfl, rfl, rfl, ⟨rfl, rfl, ?_⟩, fun hne => no fun h => hne (iff.2 h).2, fun he => ?_⟩
    · simp only [encL_ok hE, pieces_len]
      omega
    · have hD := iff.1 ⟨hE, he⟩
      exact ⟨((treeR l.flatten c a, poolR l.flatten c b d), a, b, d), ⟨.inl ⟨hD, a, b, d, ha, Int.le_refl _, hb, Int.le_refl _, hq2 hD, Int.le_refl _, by rw [tree_same hD.good, pool_same hD.good]⟩⟩, rfl, rfl, rfl, rfl, rfl, rfl, rfl, rfl, (dcE_ok hD).symm, rfl, rfl, rfl, rfl, rfl, rfl, rfl, rfl, rfl, rfl, rfl, rfl, rfl⟩
end Go.Eng

namespace Go.PL
structure ClipN (x : Nods × Int) : Prop where
  len : 0 ≤ x.1.len ∧ x.1.len ≤ x.1.cap
structure ClipO (x : Objs × Int) : Prop where
  len : 0 ≤ x.1.len ∧ x.1.len ≤ x.1.cap
structure ClipQ (x : List Int × Int × Int × Int) : Prop where
  len : 0 ≤ x.2.1 ∧ x.2.1 ≤ x.2.2.1
end Go.PL
set_option linter.unusedSectionVars false
set_option linter.unusedSimpArgs false
set_option linter.unusedVariables false
namespace Go.Eng
variable [CW : CWorld]
open Go.Proofs Go.PL
set_option maxRecDepth 100000
attribute [local irreducible] run
def clipN : Spec where
  X := Nods × Int
  A x := [.slc 0 (.l 0) (.x x.1.len) (.x x.1.cap)]
  H x := [nodsC x.1 x.2]
  pre x := PL.ClipN x
  outs := [{ Y _ := Unit, post _ _ := True, R x _ := .slc 0 (.l 0) (.x x.1.len) (.x x.1.len), H' x _ := [nodsC x.1 x.2] }]
def clipO : Spec where
  X := Objs × Int
  A x := [.slc 0 (.l 0) (.x x.1.len) (.x x.1.cap)]
  H x := [objsC x.1 x.2]
  pre x := PL.ClipO x
  outs := [{ Y _ := Unit, post _ _ := True, R x _ := .slc 0 (.l 0) (.x x.1.len) (.x x.1.len), H' x _ := [objsC x.1 x.2] }]
def clipQ : Spec where
  X := List Int × Int × Int × Int
  A x := [.slc 0 (.l 0) (.x x.2.1) (.x x.2.2.1)]
  H x := [qB x.1 x.2.2.2]
  pre x := PL.ClipQ x
  outs := [{ Y _ := Unit, post _ _ := True, R x _ := .slc 0 (.l 0) (.x x.2.1) (.x x.2.1), H' x _ := [qB x.1 x.2.2.2] }]
def clipn_vc (ar : AR) (x : clipN.X) : Prop :=
  ar.le 0 x.fst.len ∧ ar.le x.fst.len x.fst.len ∧ ar.le x.fst.len x.fst.cap ∧ ∃ (y : Unit), True ∧ x.fst.len = x.fst.len ∧ x.fst.len = x.fst.len ∧ x.snd = x.snd ∧ x.fst.K = x.fst.K
  ∧ x.fst.N = x.fst.N ∧ x.fst.P = x.fst.P ∧ x.fst.S = x.fst.S ∧ x.fst.Z = x.fst.Z ∧ True
theorem clipn_eq (ar : AR) (x : clipN.X) : (run ar PP noSpec noInv 1000 37 (clipN.H x).length (Tryd.f37.body.getD .skip) (clipN.A x ++ List.replicate (Tryd.f37.ntmps - (clipN.A x).length) .any) (clipN.H x) (endCall ar PP Tryd.f37.results.toList (clipN.fin x))) = clipn_vc ar x := by
  kernel_rfl
theorem clipn_of (h : ∀ x, clipN.pre x → clipn_vc ar0 x) : clipN.OK PP 37 :=
  Spec.ok_of_run (fn := Tryd.f37) (c := Tryd.f37.body.getD .skip) (by kernel_rfl) (by kernel_rfl) (by kernel_rfl) noSpec_ok (fun _ => noInv) 1000 (fun x hx => (clipn_eq ar0 x).mpr (h x hx))
def clipo_vc (ar : AR) (x : clipO.X) : Prop :=
  ar.le 0 x.fst.len ∧ ar.le x.fst.len x.fst.len ∧ ar.le x.fst.len x.fst.cap ∧ ∃ (y : Unit), True ∧ x.fst.len = x.fst.len ∧ x.fst.len = x.fst.len ∧ x.snd = x.snd ∧ x.fst.N = x.fst.N
  ∧ x.fst.T = x.fst.T ∧ x.fst.B = x.fst.B ∧ x.fst.O = x.fst.O ∧ True
theorem clipo_eq (ar : AR) (x : clipO.X) : (run ar PP noSpec noInv 1000 38 (clipO.H x).length (Tryd.f38.body.getD .skip) (clipO.A x ++ List.replicate (Tryd.f38.ntmps - (clipO.A x).length) .any) (clipO.H x) (endCall ar PP Tryd.f38.results.toList (clipO.fin x))) = clipo_vc ar x := by
  kernel_rfl
theorem clipo_of (h : ∀ x, clipO.pre x → clipo_vc ar0 x) : clipO.OK PP 38 :=
  Spec.ok_of_run (fn := Tryd.f38) (c := Tryd.f38.body.getD .skip) (by kernel_rfl) (by kernel_rfl) (by kernel_rfl) noSpec_ok (fun _ => noInv) 1000 (fun x hx => (clipo_eq ar0 x).mpr (h x hx))
def clipq_vc (ar : AR) (x : clipQ.X) : Prop :=
  ar.le 0 x.snd.fst ∧ ar.le x.snd.fst x.snd.fst ∧ ar.le x.snd.fst x.snd.snd.fst ∧ ∃ (y : Unit), True ∧ x.snd.fst = x.snd.fst ∧ x.snd.fst = x.snd.fst ∧ x.snd.snd.snd = x.snd.snd.snd
  ∧ x.fst = x.fst ∧ True
theorem clipq_eq (ar : AR) (x : clipQ.X) : (run ar PP noSpec noInv 1000 39 (clipQ.H x).length (Tryd.f39.body.getD .skip) (clipQ.A x ++ List.replicate (Tryd.f39.ntmps - (clipQ.A x).length) .any) (clipQ.H x) (endCall ar PP Tryd.f39.results.toList (clipQ.fin x))) = clipq_vc ar x := by
  kernel_rfl
theorem clipq_of (h : ∀ x, clipQ.pre x → clipq_vc ar0 x) : clipQ.OK PP 39 :=
  Spec.ok_of_run (fn := Tryd.f39) (c := Tryd.f39.body.getD .skip) (by kernel_rfl) (by kernel_rfl) (by kernel_rfl) noSpec_ok (fun _ => noInv) 1000 (fun x hx => (clipq_eq ar0 x).mpr (h x hx))
theorem clipN_ok : clipN.OK PP 37 := by
  refine clipn_of fun x hx => ?_
  obtain ⟨h1, h2⟩ := hx.len
  unfold clipn_vc
  simp only [ars, ars2, true_and, and_true, exists_const]
  and_intros <;> first | rfl | trivial | omega
theorem clipO_ok : clipO.OK PP 38 := by
  refine clipo_of fun x hx => ?_
  obtain ⟨h1, h2⟩ := hx.len
  unfold clipo_vc
  simp only [ars, ars2, true_and, and_true, exists_const]
  and_intros <;> first | rfl | trivial | omega
theorem clipQ_ok : clipQ.OK PP 39 := by
  refine clipq_of fun x hx => ?_
  obtain ⟨h1, h2⟩ := hx.len
  unfold clipq_vc
  simp only [ars, ars2, true_and, and_true, exists_const]
  and_intros <;> first | rfl | trivial | omega
end Go.Eng
