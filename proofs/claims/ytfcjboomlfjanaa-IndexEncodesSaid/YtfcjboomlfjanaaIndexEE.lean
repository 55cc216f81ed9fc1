/- Index: the law IndexEncodes. -/
import Derived.Test.YtfcjboomlfjanaaIndexED
import Derived.Test.YtfcjboomlfjanaaEngC
set_option linter.unusedVariables false
set_option linter.unusedSimpArgs false

/- Index: Encode. -/
namespace Go.PL
structure EncCap (x : Cfg × Tree × Pool) (c : Int) (L : List (List UInt8)) (d : Int) : Prop where
  le : ((fullS x.1 x.2.1 x.2.2).length : Int) ≤ c
  ok : EOK x
  k0 : L = []
  d0 : d = 0
theorem sprV_at (x : Nods × Int × Int × Int × Int) (i k : Nat) : (sprV x i).at k = (sprU x i).at k := rfl
theorem sprV_rows (x : Nods × Int × Int × Int × Int) (h : 0 ≤ x.2.2.2.1) (i : Nat) : NRows (sprV x i) x.2.2.2.1.toNat := by
  obtain ⟨h1, h2, h3, h4, h5, _, _⟩ := sprU_rows x i
  exact ⟨h1, h2, h3, h4, h5, (Int.toNat_of_nonneg h).symm, (Int.toNat_of_nonneg h).symm⟩
theorem sp_dirs {c : Cfg} {t : Tree} (hc : CfgIn c) (hn : NodsOK t.nods) (h : TreeOK c t) : SpIn (t.nods, 1, 1, c.dirs, 36) := by
  obtain ⟨c1, c2, c3, c4, c5, c6⟩ := hc
  refine ⟨hn, hn.cap, by simp only; omega, by simp only; omega, fun i hi hk => ?_⟩
  simp only at hi hk ⊢
  obtain ⟨_, _, hr⟩ := h.up.all i hi
  simp only [Nods.at] at hr
  omega
theorem sp_files {c : Cfg} {t : Tree} (hc : CfgIn c) (hn : NodsOK t.nods) (h : TreeOK c t) : SpIn (t.nods, 2, 0, c.files, 40) := by
  obtain ⟨c1, c2, c3, c4, c5, c6⟩ := hc
  refine ⟨hn, hn.cap, by simp only; omega, by simp only; omega, fun i hi hk => ?_⟩
  simp only at hi hk ⊢
  obtain ⟨_, _, hr⟩ := h.up.all i hi
  simp only [Nods.at] at hr
  omega
theorem row_dirs {c : Cfg} {t : Tree} (hc : CfgIn c) (hn : NodsOK t.nods) (h : TreeOK c t) {k : Nat} (hk : k < c.dirs.toNat) :
    nodeS ((sprV (t.nods, 1, 1, c.dirs, 36) t.nods.len.toNat).at k) = slot t.nods (1000001 + (k : Int)) 36 ∧ NodeRow ((sprV (t.nods, 1, 1, c.dirs, 36) t.nods.len.toNat).at k) := by
  have hsp := sp_dirs hc hn h
  have hs := tree_sorted hc h
  obtain ⟨c1, c2, c3, c4, c5, c6⟩ := id hc
  rcases sprU_at _ hsp k hk t.nods.len.toNat (Nat.le_refl _) with ⟨j, hj, e1, e2, e3⟩ | ⟨e1, e2⟩
  · rw [sprV_at, e3]
    simp only at e1 e2
    have hkind : (t.nods.at j).kind = 1 := e1
    have hnum : (t.nods.at j).number = (k : Int) + 1 := by have : (t.nods.at j).number = t.nods.N.getD j 0 := rfl; omega
    have hrow := (node_key hc (h.up.all j hj)).2
    have hS : nodeS (t.nods.at j) = rowS (t.nods.at j) := if_neg (by omega)
    refine ⟨by rw [hS, slot_at hs hj (by simp only [key]; omega)], fun _ => hrow, fun h0 => absurd ((hkind.symm.trans h0 : (1 : Int) = 0)) (by decide), ?_⟩
    rw [hS, rowS_len1 hrow hkind]
    omega
  · rw [sprV_at, e2]
    have hS : nodeS ⟨0, 0, 0, [], 36⟩ = zs 36 := rfl
    refine ⟨?_, fun h0 => absurd rfl h0, fun _ => by simp only; omega, by simp only [hS, zs, List.length_replicate]; omega⟩
    show nodeS ⟨0, 0, 0, [], 36⟩ = _
    rw [hS, slot_no fun i hi he => ?_]
    refine e1 i hi ?_
    obtain ⟨k1, _⟩ := node_key hc (h.up.all i hi)
    simp only [key] at he
    have a1 : (t.nods.at i).kind = t.nods.K.getD i 0 := rfl
    have a2 : (t.nods.at i).number = t.nods.N.getD i 0 := rfl
    simp only
    omega
theorem row_files {c : Cfg} {t : Tree} (hc : CfgIn c) (hn : NodsOK t.nods) (h : TreeOK c t) {k : Nat} (hk : k < c.files.toNat) :
    nodeS ((sprV (t.nods, 2, 0, c.files, 40) t.nods.len.toNat).at k) = slot t.nods (2000000 + (k : Int)) 40 ∧ NodeRow ((sprV (t.nods, 2, 0, c.files, 40) t.nods.len.toNat).at k) := by
  have hsp := sp_files hc hn h
  have hs := tree_sorted hc h
  obtain ⟨c1, c2, c3, c4, c5, c6⟩ := id hc
  rcases sprU_at _ hsp k hk t.nods.len.toNat (Nat.le_refl _) with ⟨j, hj, e1, e2, e3⟩ | ⟨e1, e2⟩
  · rw [sprV_at, e3]
    simp only at e1 e2
    have hkind : (t.nods.at j).kind = 2 := e1
    have hnum : (t.nods.at j).number = (k : Int) := by have : (t.nods.at j).number = t.nods.N.getD j 0 := rfl; omega
    have hrow := (node_key hc (h.up.all j hj)).2
    have hS : nodeS (t.nods.at j) = rowS (t.nods.at j) := if_neg (by omega)
    refine ⟨by rw [hS, slot_at hs hj (by simp only [key]; omega)], fun _ => hrow, fun h0 => absurd ((hkind.symm.trans h0 : (2 : Int) = 0)) (by decide), ?_⟩
    rw [hS, rowS_len2 hrow hkind]
    omega
  · rw [sprV_at, e2]
    have hS : nodeS ⟨0, 0, 0, [], 40⟩ = zs 40 := rfl
    refine ⟨?_, fun h0 => absurd rfl h0, fun _ => by simp only; omega, by simp only [hS, zs, List.length_replicate]; omega⟩
    show nodeS ⟨0, 0, 0, [], 40⟩ = _
    rw [hS, slot_no fun i hi he => ?_]
    refine e1 i hi ?_
    obtain ⟨k1, _⟩ := node_key hc (h.up.all i hi)
    simp only [key] at he
    have a1 : (t.nods.at i).kind = t.nods.K.getD i 0 := rfl
    have a2 : (t.nods.at i).number = t.nods.N.getD i 0 := rfl
    simp only
    omega
theorem nods_dirs {c : Cfg} {t : Tree} (hc : CfgIn c) (hn : NodsOK t.nods) (h : TreeOK c t) : ∀ k, k ≤ c.dirs.toNat → nodsL (sprV (t.nods, 1, 1, c.dirs, 36) t.nods.len.toNat) k = dirsS t.nods k
  | 0, _ => rfl
  | k + 1, hk => by rw [nodsL, dirsS, nods_dirs hc hn h k (by omega), (row_dirs hc hn h (k := k) (by omega)).1]
theorem nods_files {c : Cfg} {t : Tree} (hc : CfgIn c) (hn : NodsOK t.nods) (h : TreeOK c t) : ∀ k, k ≤ c.files.toNat → nodsL (sprV (t.nods, 2, 0, c.files, 40) t.nods.len.toNat) k = filesS t.nods k
  | 0, _ => rfl
  | k + 1, hk => by rw [nodsL, filesS, nods_files hc hn h k (by omega), (row_files hc hn h (k := k) (by omega)).1]
theorem big0 : ∀ k, big 0 k = zs k
  | 0 => rfl
  | k + 1 => by
    rw [big, show (0 : Int) / 256 = 0 from rfl, big0 k, show b8 0 = 0 from rfl, zs, zs, ← List.replicate_succ']
theorem zs_add (a b : Nat) : zs a ++ zs b = zs (a + b) := by simp [zs]
theorem qS_more (q : List Int) : ∀ d, qS q (q.length + d) = qS q q.length ++ zs (4 * d)
  | 0 => by simp [zs]
  | d + 1 => by
    rw [show q.length + (d + 1) = (q.length + d) + 1 by omega, qS, qS_more q d, List.append_assoc]
    have : q.getD (q.length + d) 0 = 0 := by simp [List.getD]
    rw [this, big0, zs_add, show 4 * d + 4 = 4 * (d + 1) by omega]
end Go.PL
set_option linter.unusedSectionVars false
set_option linter.unusedSimpArgs false
set_option linter.unusedVariables false
namespace Go.Eng
variable [CW : CWorld]
open Go.Proofs
open Go.PL (Cfg CfgIn CfgOK CfgBad Img RImg Refs Nod Nods Tree Objs Pool Txts)
set_option maxRecDepth 100000
attribute [local irreducible] run
noncomputable def xSpecs : Specs := fun f a h => match f with
  | 41 => some treeSpec
  | 42 => some poolSpec
  | 44 => some spSpec
  | 43 => some enodeSpec
  | 46 => some eobjSpec
  | 48 => some equeSpec
  | 33 => some putSpec
  | 50 => some zerosSpec
  | _ => eSpecs f a h
theorem xSpecs_ok : SpecsOK PP xSpecs := by
  intro CW f xs _ S h
  unfold xSpecs at h
  split at h
  · cases h; exact itree_ok
  · cases h; exact ipool_ok
  · cases h; exact spSpec_ok
  · cases h; exact enodeSpec_ok
  · cases h; exact eobjSpec_ok
  · cases h; exact equeSpec_ok
  · cases h; exact putSpec_ok
  · cases h; exact zerosSpec_ok
  · exact eSpecs_ok CW _ _ _ _ h
/-- The program's Encode: its list is cut to its length. -/
noncomputable def encI : Spec where
  X := Cfg × Tree × Pool
  A x := [.agg (cfgL x.1), .agg (treeL x.2.1), .agg (poolL x.2.2)]
  H x := []
  pre x := PL.EIn x
  outs := [{ Y _ := Int, post x c := PL.Enc4Post x c, R x c := .tup [.slc 0 (.l 0) (.x ((PL.encL x).length : Int)) (.x ((PL.encL x).length : Int)), .int .i64 (.x (PL.encErr x))], H' x c := [strsB (PL.encL x) c] }]
  frz := true
/-- What is kept where the pieces are taken. -/
noncomputable def encFr (x : Cfg × Tree × Pool) (c : Int) : List SV := frame 89 [(11, .ptr 0 (.l 0)), (78, .slc 3 (.l 0) (.x ((PL.fullS x.1 x.2.1 x.2.2).length : Int)) (.x c)), (80, .fn 66 [.ptr 1 (.l 0), .ptr 2 (.l 0)])]
noncomputable def encHp (x : Cfg × Tree × Pool) (c : Int) (L : List (List UInt8)) (d : Int) : List Blk :=
  [.mk 62 [.one (.slc 4 (.l 0) (.x (L.length : Int)) (.x d))], .mk 52 [.one (.slc 3 (.l 0) (.x ((PL.fullS x.1 x.2.1 x.2.2).length : Int)) (.x c))], .mk 3 [.one (.int .i64 (.x (x.1.page - 5)))],
    bytesB (PL.fullS x.1 x.2.1 x.2.2) c, strsB L d]
def encKt (x : Cfg × Tree × Pool) (fr : List SV) (hp : List Blk) : Prop := ∃ (c : Int) (L : List (List UInt8)) (d : Int), PL.EncCap x c L d ∧ entails 0 fr hp (encFr x c) (encHp x c L d)
def enct_vc (ar : AR) (x : encI.X) : Prop :=
  ∃ (x_1 : Cfg), x.fst.slots = x_1.slots ∧ x.fst.files = x_1.files ∧ x.fst.dirs = x_1.dirs ∧ x.fst.most = x_1.most ∧ x.fst.least = x_1.least ∧ x.fst.page = x_1.page ∧ PL.CfgAny x_1
  ∧ ∀ (y : Unit), True → (¬ar.eq (PL.chk x_1) 0 → ∃ (y : Int), PL.Enc4Post x y ∧ 0 = (↑(PL.encL x).length : Int) ∧ 0 = (↑(PL.encL x).length : Int) ∧ PL.chk x_1 = PL.encErr x ∧ y =
  0 ∧ PL.encL x = [] ∧ True) ∧ (¬¬ar.eq (PL.chk x_1) 0 → ∃ (x_2 : Cfg × Tree), x.fst.slots = x_2.1.slots ∧ x.fst.files = x_2.1.files ∧ x.fst.dirs = x_2.1.dirs ∧ x.fst.most =
  x_2.1.most ∧ x.fst.least = x_2.1.least ∧ x.fst.page = x_2.1.page ∧ x.snd.fst.files = x_2.2.files ∧ x.snd.fst.dirs = x_2.2.dirs ∧ x.snd.fst.nods.K = x_2.snd.nods.K ∧
  x.snd.fst.nods.N = x_2.snd.nods.N ∧ x.snd.fst.nods.P = x_2.snd.nods.P ∧ x.snd.fst.nods.S = x_2.snd.nods.S ∧ x.snd.fst.nods.Z = x_2.snd.nods.Z ∧ x.snd.fst.nods.len =
  x_2.snd.nods.len ∧ x.snd.fst.nods.cap = x_2.snd.nods.cap ∧ PL.TreeIn x_2 ∧ ∀ (y : Unit), True → (¬PL.TreeOK x_2.fst x_2.snd → ∃ (y : Int), PL.Enc4Post x y ∧ 0 = (↑(PL.encL
  x).length : Int) ∧ 0 = (↑(PL.encL x).length : Int) ∧ 128 = PL.encErr x ∧ y = 0 ∧ PL.encL x = [] ∧ True) ∧ (¬¬PL.TreeOK x_2.fst x_2.snd → ∃ (x_3 : Cfg × Pool), x.fst.slots =
  x_3.1.slots ∧ x.fst.files = x_3.1.files ∧ x.fst.dirs = x_3.1.dirs ∧ x.fst.most = x_3.1.most ∧ x.fst.least = x_3.1.least ∧ x.fst.page = x_3.1.page ∧ x.snd.snd.objs.N =
  x_3.snd.objs.N ∧ x.snd.snd.objs.T = x_3.snd.objs.T ∧ x.snd.snd.objs.B = x_3.snd.objs.B ∧ x.snd.snd.objs.O = x_3.snd.objs.O ∧ x.snd.snd.objs.len = x_3.snd.objs.len ∧
  x.snd.snd.objs.cap = x_3.snd.objs.cap ∧ x.snd.snd.q = x_3.2.q ∧ x.snd.snd.qlen = x_3.2.qlen ∧ x.snd.snd.qcap = x_3.2.qcap ∧ PL.PoolIn x_3 ∧ ∀ (y : Unit), True → (¬PL.PoolOK
  x_3.fst x_3.snd → ∃ (y : Int), PL.Enc4Post x y ∧ 0 = (↑(PL.encL x).length : Int) ∧ 0 = (↑(PL.encL x).length : Int) ∧ 130 = PL.encErr x ∧ y = 0 ∧ PL.encL x = [] ∧ True) ∧
  (¬¬PL.PoolOK x_3.fst x_3.snd → ∀ (z : Int), z = ar.wrap IntKind.i64 (ar.sub x.fst.page 5) → ∃ (x_4 : Cfg), x.fst.slots = x_4.slots ∧ x.fst.files = x_4.files ∧ x.fst.dirs =
  x_4.dirs ∧ x.fst.most = x_4.most ∧ x.fst.least = x_4.least ∧ x.fst.page = x_4.page ∧ CfgIn x_4 ∧ ∀ (y : Unit), True → ∀ (z_1 : Int), z_1 = ar.wrap IntKind.i64 (ar.mul (PL.pagesI
  x_4) z) → ar.le 0 z_1 ∧ ar.le (ar.mul z_1 1) 140737488355328 ∧ ∃ (x_5 : Nods × Int × Int × Int × Int), x.snd.fst.nods.K = x_5.1.K ∧ x.snd.fst.nods.N = x_5.1.N ∧ x.snd.fst.nods.P
  = x_5.1.P ∧ x.snd.fst.nods.S = x_5.1.S ∧ x.snd.fst.nods.Z = x_5.1.Z ∧ x.snd.fst.nods.len = x_5.1.len ∧ x.snd.fst.nods.cap = x_5.1.cap ∧ 1 = x_5.2.fst ∧ 1 = x_5.snd.snd.fst ∧
  x.fst.dirs = x_5.snd.snd.snd.fst ∧ 36 = x_5.snd.snd.snd.snd ∧ PL.SpIn x_5 ∧ ∀ (y : Unit), True → ∃ (x_6 : Img × Nods), x_5.snd.snd.snd.fst = x_6.2.len ∧ x_5.snd.snd.snd.fst =
  x_6.2.cap ∧ 0 = (↑x_6.1.l.length : Int) ∧ z_1 = x_6.1.cap ∧ (false = true ↔ x_6.1.3) ∧ z_1 = x_6.1.cap ∧ [] = PL.ints x_6.1.l ∧ x_5.snd.snd.snd.fst = x_6.2.cap ∧ PL.sprK x_5
  x_5.1.len.toNat = x_6.2.K ∧ PL.sprN x_5 x_5.1.len.toNat = x_6.2.N ∧ PL.sprP x_5 x_5.1.len.toNat = x_6.2.P ∧ PL.sprS x_5 x_5.1.len.toNat = x_6.2.S ∧ PL.sprZ x_5 x_5.1.len.toNat =
  x_6.2.Z ∧ PL.ENIn x_6 ∧ ∀ (y : Int), PL.CapOK ((↑x_6.1.l.length : Int).add (↑(PL.nodsL x_6.snd x_6.2.len.toNat).length : Int)) y → ∃ (x_7 : Nods × Int × Int × Int × Int),
  x.snd.fst.nods.K = x_7.1.K ∧ x.snd.fst.nods.N = x_7.1.N ∧ x.snd.fst.nods.P = x_7.1.P ∧ x.snd.fst.nods.S = x_7.1.S ∧ x.snd.fst.nods.Z = x_7.1.Z ∧ x.snd.fst.nods.len = x_7.1.len ∧
  x.snd.fst.nods.cap = x_7.1.cap ∧ 2 = x_7.2.fst ∧ 0 = x_7.snd.snd.fst ∧ x.fst.files = x_7.snd.snd.snd.fst ∧ 40 = x_7.snd.snd.snd.snd ∧ PL.SpIn x_7 ∧ ∀ (y_1 : Unit), True → ∃ (x_8
  : Img × Nods), x_7.snd.snd.snd.fst = x_8.2.len ∧ x_7.snd.snd.snd.fst = x_8.2.cap ∧ (↑(x_6.1.l.append (PL.nodsL x_6.snd x_6.2.len.toNat)).length : Int) = (↑x_8.1.l.length : Int) ∧
  y = x_8.1.cap ∧ (x_6.1.3 ↔ x_8.1.3) ∧ y = x_8.1.cap ∧ PL.ints (x_6.1.l.append (PL.nodsL x_6.snd x_6.2.len.toNat)) = PL.ints x_8.1.l ∧ x_7.snd.snd.snd.fst = x_8.2.cap ∧ PL.sprK
  x_7 x_7.1.len.toNat = x_8.2.K ∧ PL.sprN x_7 x_7.1.len.toNat = x_8.2.N ∧ PL.sprP x_7 x_7.1.len.toNat = x_8.2.P ∧ PL.sprS x_7 x_7.1.len.toNat = x_8.2.S ∧ PL.sprZ x_7
  x_7.1.len.toNat = x_8.2.Z ∧ PL.ENIn x_8 ∧ ∀ (y : Int), PL.CapOK ((↑x_8.1.l.length : Int).add (↑(PL.nodsL x_8.snd x_8.2.len.toNat).length : Int)) y → ∃ (x_9 : Img × Objs),
  x.snd.snd.objs.N = x_9.2.N ∧ x.snd.snd.objs.T = x_9.2.T ∧ x.snd.snd.objs.B = x_9.2.B ∧ x.snd.snd.objs.O = x_9.2.O ∧ x.snd.snd.objs.len = x_9.2.len ∧ x.snd.snd.objs.cap =
  x_9.2.cap ∧ (↑(x_8.1.l.append (PL.nodsL x_8.snd x_8.2.len.toNat)).length : Int) = (↑x_9.1.l.length : Int) ∧ y = x_9.1.cap ∧ (x_8.1.3 ↔ x_9.1.3) ∧ y = x_9.1.cap ∧ PL.ints
  (x_8.1.l.append (PL.nodsL x_8.snd x_8.2.len.toNat)) = PL.ints x_9.1.l ∧ PL.EOIn x_9 ∧ ∀ (y : Int), PL.CapOK ((↑x_9.1.l.length : Int).add (Int.mul 40 x_9.2.len)) y → ∃ (x_10 : Img
  × Int × Int), x.snd.snd.qlen = x_10.2.fst ∧ 4 = x_10.2.snd ∧ (↑(x_9.1.l.append (PL.objsL x_9.snd x_9.2.len.toNat)).length : Int) = (↑x_10.1.l.length : Int) ∧ y = x_10.1.cap ∧
  (x_9.1.3 ↔ x_10.1.3) ∧ y = x_10.1.cap ∧ PL.ints (x_9.1.l.append (PL.objsL x_9.snd x_9.2.len.toNat)) = PL.ints x_10.1.l ∧ PL.PutIn x_10 ∧ ∀ (y : Int), PL.CapOK ((↑x_10.1.l.length
  : Int).add x_10.2.snd) y → ∃ (x_11 : Img × List Int × Int × Int), x.snd.snd.q = x_11.2.fst ∧ x.snd.snd.qlen = x_11.snd.snd.fst ∧ x.snd.snd.qcap = x_11.snd.snd.snd ∧
  (↑(x_10.1.l.append (PL.big x_10.2.fst x_10.2.snd.toNat)).length : Int) = (↑x_11.1.l.length : Int) ∧ y = x_11.1.cap ∧ (x_10.1.3 ↔ x_11.1.3) ∧ y = x_11.1.cap ∧ PL.ints
  (x_10.1.l.append (PL.big x_10.2.fst x_10.2.snd.toNat)) = PL.ints x_11.1.l ∧ PL.EQIn x_11 ∧ ∀ (y : Int), PL.CapOK ((↑x_11.1.l.length : Int).add (Int.mul 4 x_11.snd.snd.fst)) y → ∃
  (x_12 : Cfg), x.fst.slots = x_12.slots ∧ x.fst.files = x_12.files ∧ x.fst.dirs = x_12.dirs ∧ x.fst.most = x_12.most ∧ x.fst.least = x_12.least ∧ x.fst.page = x_12.page ∧ CfgIn
  x_12 ∧ ∀ (y_2 : Unit), True → ∀ (z_2 : Int), z_2 = ar.wrap IntKind.i64 (ar.mul (PL.pagesI x_12) z) → ∀ (z_3 : Int), z_3 = ar.wrap IntKind.i64 (ar.sub z_2 (↑(x_11.1.l.append
  (PL.qS x_11.2.fst x_11.snd.snd.fst.toNat)).length : Int)) → ∃ (x_13 : Img × Int), z_3 = x_13.snd ∧ (↑(x_11.1.l.append (PL.qS x_11.2.fst x_11.snd.snd.fst.toNat)).length : Int) =
  (↑x_13.1.l.length : Int) ∧ y = x_13.1.cap ∧ (x_11.1.3 ↔ x_13.1.3) ∧ y = x_13.1.cap ∧ PL.ints (x_11.1.l.append (PL.qS x_11.2.fst x_11.snd.snd.fst.toNat)) = PL.ints x_13.1.l ∧
  PL.ZerosIn x_13 ∧ ∀ (y : Int), PL.CapOK ((↑x_13.1.l.length : Int).add x_13.snd) y → (ar.lt z 1 → False) ∧ (¬ar.lt z 1 → ∃ (c : Int), ∃ (L : List (List UInt8)), ∃ (d : Int),
  PL.EncCap x c L d ∧ (↑(x_13.1.l.append (PL.zs x_13.snd.toNat)).length : Int) = (↑(PL.fullS x.fst x.snd.fst x.snd.snd).length : Int) ∧ y = c ∧ 0 = (↑L.length : Int) ∧ 0 = d ∧
  (↑(x_13.1.l.append (PL.zs x_13.snd.toNat)).length : Int) = (↑(PL.fullS x.fst x.snd.fst x.snd.snd).length : Int) ∧ y = c ∧ z = x.fst.page.sub 5 ∧ y = c ∧ PL.ints (x_13.1.l.append
  (PL.zs x_13.snd.toNat)) = PL.ints (PL.fullS x.fst x.snd.fst x.snd.snd) ∧ d = 0 ∧ L = [] ∧ True))))
theorem enct_eq (ar : AR) (x : encI.X) : (runTo ar PP xSpecs noInv 1000 22 0 (encKt x) (endCall ar PP Try.f22.results.toList (encI.fin x)) 13 (Try.f22.body.getD .skip) (encI.A x ++ List.replicate (Try.f22.ntmps - (encI.A x).length) .any) (encI.H x)) = enct_vc ar x := by
  kernel_rfl
theorem enct_holds (x : Cfg × Tree × Pool) (hx : PL.EIn x) : enct_vc ar0 x := by
  obtain ⟨c, t, p⟩ := x
  obtain ⟨hn, hpi⟩ : PL.EIn (c, t, p) := hx
  simp only at hn hpi
  unfold enct_vc
  simp only [ars, ars2, ex_cfg, ex_tree, ex_pool, cfgAny, true_and, and_true, exists_const, forall_const, imp_false, Classical.not_not]
  have bad : ∀ (e : Int), ¬ PL.EOK (c, t, p) → PL.encErr (c, t, p) = e → ∃ y, PL.Enc4Post (c, t, p) y ∧ 0 = ((PL.encL (c, t, p)).length : Int) ∧ 0 = ((PL.encL (c, t, p)).length : Int) ∧ e = PL.encErr (c, t, p) ∧ y = 0 ∧ PL.encL (c, t, p) = [] := fun e h he => by
    have h0 := PL.encL_no h
    exact ⟨0, ⟨by rw [h0]; simp⟩, by rw [h0]; rfl, by rw [h0]; rfl, he.symm, rfl, h0⟩
  refine ⟨fun hc => by rw [PL.chk_bad fun h => hc (PL.chk_ok h)]; exact bad 140 (fun h => hc (PL.chk_ok h.cfg)) (PL.encErr_c fun h => hc (PL.chk_ok h)), fun hc => ?_⟩
  have hc := PL.chk_zero.1 hc
  refine ⟨⟨hc.ok, hn⟩, fun ht => bad 128 (fun h => ht h.tree) (PL.encErr_t hc ht), fun ht => ⟨hpi hc.ok, fun hp => bad 130 (fun h => hp h.pool) (PL.encErr_p hc ht hp), fun hp z hz => ?_⟩⟩
  obtain ⟨c1, c2, c3, c4, c5, c6⟩ := id hc.ok
  obtain ⟨f1, f2, f3⟩ := PL.full_fits hc
  have hr := PL.pages_range hc
  rw [wrap_i64 (by omega) (by omega)] at hz
  subst hz
  refine ⟨hc.ok, fun z1 hz1 => ?_⟩
  rw [wrap_i64 (by omega) (by omega)] at hz1
  subst hz1
  have hI : PL.ImgIn (c, t, p) := ⟨hc.ok, hn, hpi hc.ok, ht, hp⟩
  have hE : PL.EOK (c, t, p) := ⟨hc, ht, hp⟩
  have hil := PL.imgS_len hI
  simp only at hil
  have ld := PL.dirsS_len hc.ok ht c.dirs.toNat (by omega)
  have lf := PL.filesS_len hc.ok ht c.files.toNat (by omega)
  have lo := PL.objsL_len hp.objs
  obtain ⟨pc, pn, pt, pb, po, pq, pcap, pqcap⟩ := hpi hc.ok
  simp only at pn pt pb po pq pcap pqcap
  have hol := hp.len
  have hql := hp.qlen
  obtain ⟨N, hN⟩ : ∃ N, PL.pagesI c * (c.page - 5) = N := ⟨_, rfl⟩
  simp only [hN] at f1 f2 f3 ⊢
  have eA : PL.nodsL (PL.sprV (t.nods, 1, 1, c.dirs, 36) t.nods.len.toNat) c.dirs.toNat = PL.dirsS t.nods c.dirs.toNat := PL.nods_dirs hc.ok hn ht _ (Nat.le_refl _)
  have eB : PL.nodsL (PL.sprV (t.nods, 2, 0, c.files, 40) t.nods.len.toNat) c.files.toNat = PL.filesS t.nods c.files.toNat := PL.nods_files hc.ok hn ht _ (Nat.le_refl _)
  refine ⟨by omega, by omega, (t.nods, 1, 1, c.dirs, 36), rfl, rfl, rfl, rfl, rfl, rfl, rfl, rfl, rfl, rfl, rfl, PL.sp_dirs hc.ok hn ht, ?_⟩
  refine ⟨(⟨[], N, False⟩, PL.sprV (t.nods, 1, 1, c.dirs, 36) t.nods.len.toNat), rfl, rfl, rfl, rfl, by simp, rfl, rfl, rfl, rfl, rfl, rfl, rfl, rfl, ?_, fun y1 h1 => ?_⟩
  · exact ⟨PL.sprV_rows _ (by simp only; omega) _, by simp only [PL.sprV]; omega, fun j hj => (PL.row_dirs hc.ok hn ht (by simpa [PL.sprV] using hj)).2, ⟨by simp only [List.length_nil]; omega, by simp⟩⟩
  have h1' : ((([] : List UInt8).length : Int)) + ((PL.nodsL (PL.sprV (t.nods, 1, 1, c.dirs, 36) t.nods.len.toNat) c.dirs.toNat).length : Int) ≤ y1 := h1.le
  rw [eA, List.length_nil, ld] at h1'
  refine ⟨(t.nods, 2, 0, c.files, 40), rfl, rfl, rfl, rfl, rfl, rfl, rfl, rfl, rfl, rfl, rfl, PL.sp_files hc.ok hn ht, ?_⟩
  have eA' : ([] : List UInt8).append (PL.nodsL (PL.sprV (t.nods, 1, 1, c.dirs, 36) t.nods.len.toNat) c.dirs.toNat) = PL.dirsS t.nods c.dirs.toNat := by rw [eA]; rfl
  refine ⟨(⟨PL.dirsS t.nods c.dirs.toNat, y1, False⟩, PL.sprV (t.nods, 2, 0, c.files, 40) t.nods.len.toNat), rfl, rfl, by rw [← eA']; rfl, rfl, Iff.rfl, rfl, by rw [← eA']; rfl, rfl, rfl, rfl, rfl, rfl, rfl, ?_, fun y2 h2 => ?_⟩
  · exact ⟨PL.sprV_rows _ (by simp only; omega) _, by simp only [PL.sprV]; omega, fun j hj => (PL.row_files hc.ok hn ht (by simpa [PL.sprV] using hj)).2, ⟨by simp only [ld]; omega, by simp only [ld]; omega⟩⟩
  have h2' : ((PL.dirsS t.nods c.dirs.toNat).length : Int) + ((PL.nodsL (PL.sprV (t.nods, 2, 0, c.files, 40) t.nods.len.toNat) c.files.toNat).length : Int) ≤ y2 := h2.le
  rw [eB, ld, lf] at h2'
  have eB' : (PL.dirsS t.nods c.dirs.toNat).append (PL.nodsL (PL.sprV (t.nods, 2, 0, c.files, 40) t.nods.len.toNat) c.files.toNat) = PL.dirsS t.nods c.dirs.toNat ++ PL.filesS t.nods c.files.toNat := by rw [eB]; rfl
  refine ⟨(⟨PL.dirsS t.nods c.dirs.toNat ++ PL.filesS t.nods c.files.toNat, y2, False⟩, p.objs), rfl, rfl, rfl, rfl, rfl, rfl, by rw [← eB']; rfl, rfl, Iff.rfl, rfl, by rw [← eB']; rfl, ?_, fun y3 h3 => ?_⟩
  · refine ⟨pn, pt, pb, po, by simp only; omega, fun j hj => ?_, ⟨by simp only [List.length_append, ld, lf]; omega, by simp only [List.length_append, ld, lf]; omega⟩⟩
    have := hp.objs.all j hj
    exact ⟨this.n, this.t, this.b, ⟨this.o.1, by have := this.o.2; simp only; omega⟩⟩
  have h3' : ((PL.dirsS t.nods c.dirs.toNat ++ PL.filesS t.nods c.files.toNat).length : Int) + 40 * p.objs.len ≤ y3 := h3.le
  rw [List.length_append, ld, lf] at h3'
  refine ⟨(⟨PL.dirsS t.nods c.dirs.toNat ++ PL.filesS t.nods c.files.toNat ++ PL.objsL p.objs p.objs.len.toNat, y3, False⟩, p.qlen, 4), rfl, rfl, rfl, rfl, Iff.rfl, rfl, rfl, ?_, fun y4 h4 => ?_⟩
  · exact ⟨⟨by simp only [List.length_append, ld, lf, lo]; omega, by simp only [List.length_append, ld, lf, lo]; omega⟩, by simp⟩
  have h4' : ((PL.dirsS t.nods c.dirs.toNat ++ PL.filesS t.nods c.files.toNat ++ PL.objsL p.objs p.objs.len.toNat).length : Int) + 4 ≤ y4 := h4.le
  simp only [List.length_append, ld, lf, lo] at h4'
  refine ⟨(⟨PL.dirsS t.nods c.dirs.toNat ++ PL.filesS t.nods c.files.toNat ++ PL.objsL p.objs p.objs.len.toNat ++ PL.big p.qlen 4, y4, False⟩, p.q, p.qlen, p.qcap), rfl, rfl, rfl, rfl, rfl, Iff.rfl, rfl, rfl, ?_, fun y5 h5 => ?_⟩
  · exact ⟨pq, by simp only; omega, ⟨by simp only [List.length_append, ld, lf, lo, PL.big_length]; omega, by simp only [List.length_append, ld, lf, lo, PL.big_length]; omega⟩⟩
  have h5' : ((PL.dirsS t.nods c.dirs.toNat ++ PL.filesS t.nods c.files.toNat ++ PL.objsL p.objs p.objs.len.toNat ++ PL.big p.qlen 4).length : Int) + 4 * p.qlen ≤ y5 := h5.le
  simp only [List.length_append, ld, lf, lo, PL.big_length] at h5'
  refine ⟨hc.ok, fun z2 hz2 z3 hz3 => ?_⟩
  rw [wrap_i64 (by omega) (by omega)] at hz2
  obtain ⟨L, hL⟩ : ∃ L, PL.dirsS t.nods c.dirs.toNat ++ PL.filesS t.nods c.files.toNat ++ PL.objsL p.objs p.objs.len.toNat ++ PL.big p.qlen 4 = L := ⟨_, rfl⟩
  have lL : (L.length : Int) = 36 * c.dirs + 40 * c.files + 40 * p.objs.len + 4 := by
    rw [← hL]
    simp only [List.length_append, ld, lf, lo, PL.big_length]
    omega
  have lq := PL.qS_len (q := p.q) p.qlen.toNat
  have hz3' : z3 = IntKind.i64.wrap (z2 - ((L ++ PL.qS p.q p.qlen.toNat).length : Int)) := by rw [← hL]; exact hz3
  rw [hz2, List.length_append, lq, wrap_i64 (by omega) (by omega)] at hz3'
  simp only [hL]
  have hlen : ((L ++ PL.qS p.q p.qlen.toNat).length : Int) = 36 * c.dirs + 40 * c.files + 40 * p.objs.len + 4 + 4 * p.qlen := by
    rw [List.length_append, lq]
    omega
  have hlenI : PL.lenI c = 36 * c.dirs + 40 * c.files + 44 * (c.files + c.slots) + 4 := rfl
  have h5'' : ((L ++ PL.qS p.q p.qlen.toNat).length : Int) ≤ y5 := by omega
  refine ⟨(⟨L ++ PL.qS p.q p.qlen.toNat, y5, False⟩, z3), rfl, rfl, rfl, Iff.rfl, rfl, rfl, ?_, fun y6 h6 => ⟨fun h => by omega, fun _ => ?_⟩⟩
  · exact ⟨⟨h5'', by simp only; omega⟩, by simp only; omega⟩
  have h6' : ((L ++ PL.qS p.q p.qlen.toNat).length : Int) + z3 ≤ y6 := h6.le
  have hfull : PL.fullS c t p = (L ++ PL.qS p.q p.qlen.toNat) ++ PL.zs z3.toNat := by
    have hm := PL.qS_more p.q (p.objs.len.toNat - p.q.length)
    rw [show p.q.length + (p.objs.len.toNat - p.q.length) = p.objs.len.toNat by omega, show p.q.length = p.qlen.toNat by omega] at hm
    have himg : PL.imgS c t p = (L ++ PL.qS p.q p.qlen.toNat) ++ PL.zs (4 * (p.objs.len.toNat - p.qlen.toNat)) := by
      rw [PL.imgS, hm, ← hL]
      simp only [List.append_assoc]
    rw [PL.fullS, hN, himg, List.append_assoc, PL.zs_add]
    congr 2
    rw [List.length_append, PL.zs, List.length_replicate]
    omega
  refine ⟨y6, [], 0, ⟨?_, hE, rfl, rfl⟩, ?_⟩
  · simp only [hfull, List.length_append, PL.zs, List.length_replicate] at h6' ⊢
    omega
  rw [hfull]
  and_intros <;> first | rfl | trivial
end Go.Eng

/- Index: Encode, its pieces and its end. -/
namespace Go.PL
structure EncAt4 (x : Cfg × Tree × Pool) (L : List (List UInt8)) (d : Int) : Prop where
  le : (L.length : Int) ≤ d
noncomputable def pieceS (x : Cfg × Tree × Pool) (k : Nat) : List UInt8 := ((fullS x.1 x.2.1 x.2.2).drop (k * (x.1.page - 5).toNat)).take (x.1.page - 5).toNat
end Go.PL
set_option linter.unusedSectionVars false
set_option linter.unusedSimpArgs false
set_option linter.unusedVariables false
namespace Go.Eng
variable [CW : CWorld]
open Go.Proofs Go.RowKit
open Go.PL (Cfg CfgIn CfgOK CfgBad Img RImg Refs Nod Nods Tree Objs Pool Txts)
set_option maxRecDepth 100000
attribute [local irreducible] run
def blkBody : Code → Code
  | .block _ c => c
  | _ => .skip
def rfAsg : Code → Code
  | .rangeFunc _ _ a _ => a
  | _ => .skip
def rfBody : Code → Code
  | .rangeFunc _ _ _ b => b
  | _ => .skip
def regOps : Code → Array Oper
  | .region _ ops _ => ops
  | _ => #[]
noncomputable def encT : Code × Code := parts 13 (Try.f22.body.getD .skip)
noncomputable def encAsgOps : Array Oper := regOps (rfAsg (blkBody encT.1))
noncomputable def encOps : Array Oper := regOps (blkBody (rfBody (blkBody encT.1)))
theorem encT_eq : encT.1 = .block 0 (.rangeFunc (.tmp 80) #[81] (.region 18 encAsgOps false) (.block 1 (.region 19 encOps false))) := by kernel_rfl
theorem encAsg_eq : encAsgOps.toList = [⟨some 12, .assign (.tmp 81), 52, (encAsgOps.toList.head!).pos, (encAsgOps.toList.head!).after, none⟩] := by kernel_rfl
/-- The frame where a piece is taken. -/
def encRFr (x : Cfg × Tree × Pool) (k : Nat) : List SV := frame 89 [(11, .ptr 0 (.l 0)), (12, .slc 3 (.x 0 1 ((k : Int) * (x.1.page - 5)) 0) (.x (x.1.page - 5)) (.x (x.1.page - 5)))]
noncomputable def encRK (x : Cfg × Tree × Pool) (c : Int) (k : Nat) (L : List (List UInt8)) (fr : List SV) (hp : List Blk) : Prop := ∃ (M : List (List UInt8)) (d : Int), PL.EncAt4 x M d ∧ M = L ++ [PL.pieceS x k] ∧ entails 0 (encFr x c) hp (encFr x c) (encHp x c M d)
def encr_vc (ar : AR) (x : encI.X) (c : Int) (k : Nat) (L : List (List UInt8)) (d : Int) : Prop :=
  ar.le 0 ((↑k : Int).mul (x.fst.page.sub 5)) ∧ ar.le (ar.add ((↑k : Int).mul (x.fst.page.sub 5)) (x.fst.page.sub 5)) (ar.ilen (PL.ints (PL.fullS x.fst x.snd.fst x.snd.snd))) ∧ ∀
  (t : List UInt8), t = ar.bytes (ar.isub (PL.ints (PL.fullS x.fst x.snd.fst x.snd.snd)) ((↑k : Int).mul (x.fst.page.sub 5)) (x.fst.page.sub 5)) → ar.le (ar.add 0 (↑L.length :
  Int)) (ar.tlen L) ∧ d = d ∧ ar.le (ar.mul (ar.add (↑L.length : Int) 1) 16) 140737488355328 ∧ ∀ (c_1 : Int), ar.le (ar.add (↑L.length : Int) 1) c_1 → ∃ (M : List (List UInt8)), ∃
  (d : Int), PL.EncAt4 x M d ∧ M = L.append [PL.pieceS x k] ∧ (↑(PL.fullS x.fst x.snd.fst x.snd.snd).length : Int) = (↑(PL.fullS x.fst x.snd.fst x.snd.snd).length : Int) ∧ c = c ∧
  ar.add (↑L.length : Int) 1 = (↑M.length : Int) ∧ c_1 = d ∧ (↑(PL.fullS x.fst x.snd.fst x.snd.snd).length : Int) = (↑(PL.fullS x.fst x.snd.fst x.snd.snd).length : Int) ∧ c = c ∧
  x.fst.page.sub 5 = x.fst.page.sub 5 ∧ c = c ∧ PL.ints (PL.fullS x.fst x.snd.fst x.snd.snd) = PL.ints (PL.fullS x.fst x.snd.fst x.snd.snd) ∧ c_1 = d ∧ ar.tapp (ar.tsub L 0
  (↑L.length : Int)) [t] = M ∧ True
theorem encr_eq (ar : AR) (x : encI.X) (c : Int) (k : Nat) (L : List (List UInt8)) (d : Int) : (runList ar PP xSpecs (fun _ _ _ _ => False) encOps.toList encOps.toList (encRFr x k) (encHp x c L d) (encRK x c k L)) = encr_vc ar x c k L d := by
  kernel_rfl
def ence_vc (ar : AR) (x : encI.X) (c : Int) (L : List (List UInt8)) (d : Int) : Prop :=
  ar.le 0 (↑L.length : Int) ∧ ar.le (↑L.length : Int) (↑L.length : Int) ∧ ar.le (↑L.length : Int) d ∧ ∃ (y : Int), PL.Enc4Post x y ∧ (↑L.length : Int) = (↑(PL.encL x).length : Int)
  ∧ (↑L.length : Int) = (↑(PL.encL x).length : Int) ∧ 0 = PL.encErr x ∧ d = y ∧ L = PL.encL x ∧ True
theorem ence_eq (ar : AR) (x : encI.X) (c : Int) (L : List (List UInt8)) (d : Int) : (run ar PP xSpecs noInv 1000 22 5 encT.2 (encFr x c) (encHp x c L d) (endCall ar PP Try.f22.results.toList (encI.fin x))) = ence_vc ar x c L d := by
  kernel_rfl
end Go.Eng

/- Index: Encode, all of it. -/
set_option linter.unusedSectionVars false
set_option linter.unusedSimpArgs false
set_option linter.unusedVariables false
namespace Go.Eng
variable [CW : CWorld]
open Go.Proofs Go.RowKit
open Go.PL (Cfg CfgIn CfgOK CfgBad Img RImg Refs Nod Nods Tree Objs Pool Txts)
set_option maxRecDepth 100000
attribute [local irreducible] run
theorem full_len {x : Cfg × Tree × Pool} (hi : PL.EIn x) (h : PL.EOK x) : ((PL.fullS x.1 x.2.1 x.2.2).length : Int) = PL.pagesI x.1 * (x.1.page - 5) := by
  obtain ⟨c, t, p⟩ := x
  have hI : PL.ImgIn (c, t, p) := ⟨h.cfg.ok, hi.nods, hi.pool h.cfg.ok, h.tree, h.pool⟩
  have h1 := PL.imgS_len hI
  obtain ⟨f1, f2, f3⟩ := PL.full_fits h.cfg
  simp only at h1 f1 f2 f3 ⊢
  simp only [PL.fullS, List.length_append, PL.zs, List.length_replicate]
  omega
/-- A round. -/
theorem encr_holds (x : Cfg × Tree × Pool) (hi : PL.EIn x) (h : PL.EOK x) (c : Int) (k : Nat) (hk : (k : Int) < PL.pagesI x.1) (L : List (List UInt8)) (hL : (L.length : Int) < PL.pagesI x.1) (d : Int) : encr_vc ar0 x c k L d := by
  have hf := full_len hi h
  obtain ⟨c1, c2, c3, c4, c5, c6⟩ := h.cfg.ok
  have hp := h.cfg.pages
  have hr := PL.pages_range h.cfg
  unfold encr_vc
  simp only [ars, ars2, true_and, and_true]
  obtain ⟨b, hb⟩ : ∃ b : Nat, x.1.page - 5 = (b : Int) := ⟨(x.1.page - 5).toNat, by omega⟩
  have hkb : ((k : Int) + 1) * (b : Int) ≤ PL.pagesI x.1 * (b : Int) := Int.mul_le_mul_of_nonneg_right (by omega) (by omega)
  rw [Int.add_mul, Int.one_mul] at hkb
  have hk0 : 0 ≤ (k : Int) * (b : Int) := Int.mul_nonneg (by omega) (by omega)
  rw [hb] at hf ⊢
  simp only [PL.ints_length, hf]
  refine ⟨hk0, by omega, fun t ht => ⟨by omega, by omega, fun c1 hc1 => ⟨L ++ [PL.pieceS x k], c1, ⟨by simp only [List.length_append, List.length_singleton]; omega⟩, rfl, ?_⟩⟩⟩
  have hkn : ((k : Int) * (b : Int)).toNat = k * b := by rw [← Int.natCast_mul, Int.toNat_natCast]
  have ht' : t = PL.pieceS x k := by
    rw [ht, hkn, Int.toNat_natCast, PL.pieceS, hb, Int.toNat_natCast]
    show List.map (fun n : Int => UInt8.ofNat n.toNat) _ = _
    rw [← PL.ints_drop, ← PL.ints_take, PL.bytes_ints]
  have hz : (L.drop (Int.toNat 0)).take (Int.toNat (L.length : Int)) = L := by simp
  rw [ht', hz]
  and_intros <;> first | rfl | trivial | (simp only [List.length_append, List.length_singleton]; omega)
/-- The end. -/
theorem ence_holds (x : Cfg × Tree × Pool) (h : PL.EOK x) (c : Int) (d : Int) (hd : ((PL.encL x).length : Int) ≤ d) : ence_vc ar0 x c (PL.encL x) d := by
  unfold ence_vc
  simp only [ars, ars2, true_and, and_true]
  exact ⟨by omega, Int.le_refl _, hd, d, ⟨hd⟩, by and_intros <;> first | rfl | trivial | exact (PL.encErr_ok h).symm⟩
/-- What the frame and the memory tell where a piece is taken. -/
theorem enc_load {x : Cfg × Tree × Pool} {c : Int} (hc0 : c ≠ 0) {L : List (List UInt8)} {d : Int} {w0 w : World} {ρ : List Nat} [DM : DMarks] {a : Act} (S : Since [] [] w0 ρ (encHp x c L d) w) (F : FrOK ρ (encFr x c) a) :
    ∃ Bs Bn b : Nat, ρ[3]? = some b ∧ a.eval (.tmp 80) = .func (.func 66) #[] #[.pointer (some ⟨Bs, 0, none⟩), .pointer (some ⟨Bn, 0, none⟩)] ∧
      a.eval (.tmp 78) = .slice (some ⟨b, 0, none⟩) (PL.fullS x.1 x.2.1 x.2.2).length c.toNat ∧
      w.cell? ⟨Bs, 0, none⟩ = some (.slice (some ⟨b, 0, none⟩) (PL.fullS x.1 x.2.1 x.2.2).length c.toNat) ∧ w.cell? ⟨Bn, 0, none⟩ = some (.int .i64 (x.1.page - 5)) ∧ Bs < w.heap.size ∧ Bn < w.heap.size := by
  have e80 := F.eval (.tmp 80)
  have e78 := F.eval (.tmp 78)
  have g80 : ev (encFr x c) (.tmp 80) = .fn 66 [.ptr 1 (.l 0), .ptr 2 (.l 0)] := rfl
  have g78 : ev (encFr x c) (.tmp 78) = .slc 3 (.l 0) (.x ((PL.fullS x.1 x.2.1 x.2.2).length : Int)) (.x c) := rfl
  rw [g80] at e80
  rw [g78] at e78
  simp only [Den, DenL, Off.val, Z.val] at e80 e78
  obtain ⟨vs, h80, v1, vs', rfl, ⟨Bs, hBs, rfl⟩, v2, vs2, rfl, ⟨Bn, hBn, rfl⟩, rfl⟩ := e80
  obtain ⟨a78, b, hb, h78, l0, l1, l2⟩ := e78
  obtain rfl := l2 hc0
  have rd := fun (n : Nat) (bb : Nat) (t : TypeId) (segs : List Seg) (h : (encHp x c L d)[n]? = some (.mk t segs)) (hb : ρ[n]? = some bb) => blk_read S.hok h hb
  obtain ⟨cs1, s1, r1⟩ := rd 1 Bs _ _ rfl hBs
  obtain ⟨cs2, s2, r2⟩ := rd 2 Bn _ _ rfl hBn
  simp only [SegsOK, Den, Off.val, Z.val] at s1 s2
  obtain ⟨u, cs', rfl, ⟨a1, b1, hb1, rfl, m0, m1, m2⟩, rfl⟩ := s1
  obtain ⟨u2, cs2', rfl, rfl, rfl⟩ := s2
  obtain rfl := m2 hc0
  rw [hb] at hb1
  cases hb1
  have same : Same ρ (encHp x c L d) w w := ⟨fun _ _ _ _ _ _ _ => rfl, S.hok.cst⟩
  exact ⟨Bs, Bn, b, hb, h80, by rw [h78]; simp, by have := r1 w same 0 _ rfl; simpa using this, r2 w same 0 _ rfl, S.hok.lt (i := 1) rfl (by simp [segsSize]) hBs, S.hok.lt (i := 2) rfl (by simp [segsSize]) hBn⟩
/-- What has come of the pieces. -/
def encIv (x : Cfg × Tree × Pool) (c : Int) (w0 : World) (a : Act) (pre : List Nat) (W : World) : Prop :=
  ∃ (d : Int) (ρ : List Nat), ((pre.length : Int) ≤ d) ∧ Since [] [] w0 ρ (encHp x c (pre.map fun k => PL.pieceS x (k % (PL.pagesI x.1).toNat)) d) W ∧ DenL ρ (encFr x c) a.tmps.toList
theorem encIv_own (x : Cfg × Tree × Pool) (c : Int) (w0 : World) (a : Act) {B : Nat} (hB : w0.heap.size ≤ B) (hC : CW.w.heap.size ≤ B) : OwnFrom B (encIv x c w0 a) := by
  rintro pre W W' row ⟨d, ρ, h1, S, F⟩ hg hr
  exact ⟨d, ρ, h1, S.grown hg (fun r e => by obtain ⟨h2, h3⟩ := hr r e; exact ⟨by omega, by omega, h3⟩), F⟩
theorem zipset (t : Array Value) (v : Value) : ((#[81] : Array Nat).zip #[v]).foldl (fun t (p : Nat × Value) => t.setIfInBounds p.1 p.2) t = t.setIfInBounds 81 v := by
  simp [Array.zip]
theorem tmps_size {x : Cfg × Tree × Pool} {c : Int} {ρ : List Nat} {a : Act} (F : DenL ρ (encFr x c) a.tmps.toList) : a.tmps.size = 89 := by
  have := denL_length F
  rw [show (encFr x c).length = 89 from rfl] at this
  simpa using this
def encEnc (b K β : Nat) (k : Nat) : Array Value := #[.slice (some ⟨b, (k % K) * β, none⟩) β β]
def encAct (a : Act) (b K β : Nat) (k : Nat) : Act := { tmps := (a.tmps.setIfInBounds 81 (.slice (some ⟨b, (k % K) * β, none⟩) β β)).setIfInBounds 12 (.slice (some ⟨b, (k % K) * β, none⟩) β β), defers := [] }
theorem denL_any {ρ : List Nat} : ∀ {l : List SV} {vs : List Value} (i : Nat), DenL ρ l vs → DenL ρ (l.set i .any) vs
  | [], vs, i, h => h
  | a :: l, vs, 0, h => by
    simp only [DenL] at h
    obtain ⟨v, vs', rfl, _, hl⟩ := h
    exact ⟨v, vs', rfl, trivial, hl⟩
  | a :: l, vs, i + 1, h => by
    simp only [DenL] at h
    obtain ⟨v, vs', rfl, hv, hl⟩ := h
    exact ⟨v, vs', rfl, hv, denL_any i hl⟩
theorem own_cells {ρ : List Nat} {hp : List Blk} {w : World} (H : HOK ρ hp w) {k : Nat} {o : Obj} (hk : w.heap[k]? = some o) (ho : o.isCells = false) : ¬ Own ρ hp k := by
  rintro ⟨i, b, hi, hb, hn⟩
  have h := H.ok i k b hi hn
  cases b with
  | gone => exact hb
  | mk t s =>
    obtain ⟨cs, fz, h1, h2⟩ := h
    have hsz := segsOK_size h2
    have hne : cs.size ≠ 0 := by
      intro h0
      have : cs.toList.length = 0 := by simpa using h0
      exact hb (by rw [← hsz]; exact this)
    obtain ⟨e, _⟩ := h1 hne
    rw [hk] at e
    cases e
    cases ho
theorem enc_ops : ∀ o ∈ encOps.toList, ∀ c, o.op ≠ .defer c := by
  have h : (encOps.toList.all fun o => match o.op with | .defer _ => false | _ => true) = true := by kernel_rfl
  intro o ho c hc
  have := List.all_eq_true.1 h o ho
  rw [hc] at this
  cases this
theorem enc_round {x : Cfg × Tree × Pool} (hi : PL.EIn x) (h : PL.EOK x) {c : Int} (hc0 : c ≠ 0) {w0 W : World} {a : Act} {Bs Bn b : Nat} {N cc : Nat} {β : Nat} (hβ : x.1.page - 5 = (β : Int))
    (h80 : a.eval (.tmp 80) = .func (.func 66) #[] #[.pointer (some ⟨Bs, 0, none⟩), .pointer (some ⟨Bn, 0, none⟩)]) (h78 : a.eval (.tmp 78) = .slice (some ⟨b, 0, none⟩) N cc)
    (B n l : Nat) (Ix : Code → List Nat → World → Prop) (pre : List Nat) (k : Nat) (hI : encIv x c w0 a pre W) (hlen : pre.length < (PL.pagesI x.1).toNat) :
    (Code.block 1 (.region 19 encOps false)).wpIn (Fence.wide.inRound l) n PP (ownPostG B (KeepC Bs Bn) (encIv x c w0 a) Ix (pre ++ [k]) W) (encAct a b (PL.pagesI x.1).toNat β k) W := by
  letI DM : DMarks := ⟨a.defers⟩
  obtain ⟨d, ρ, hd, S, F⟩ := hI
  have F0 : FrOK ρ (encFr x c) a := ⟨F, rfl⟩
  obtain ⟨Bs1, Bn1, b1, hb1, g80, g78, g1, g2, _, _⟩ := enc_load hc0 S F0
  rw [h80] at g80
  rw [h78] at g78
  injection g80 with _ _ g80
  simp only [Array.mk.injEq, List.cons.injEq, Value.pointer.injEq, Option.some.injEq, Addr.mk.injEq, and_true] at g80
  obtain ⟨rfl, rfl⟩ := g80
  simp only [Value.slice.injEq, Option.some.injEq, Addr.mk.injEq, and_true] at g78
  obtain ⟨rfl, _, _⟩ := g78
  have hkk : k % (PL.pagesI x.1).toNat < (PL.pagesI x.1).toNat := Nat.mod_lt _ (by omega)
  generalize hK : k % (PL.pagesI x.1).toNat = kk at hkk
  refine wpIn_block ?_
  letI DM0 : DMarks := ⟨[]⟩
  have F1 : @FrOK CW DM0 ρ (encRFr x kk) (encAct a b (PL.pagesI x.1).toNat β k) := by
    refine @FrOK.mk CW DM0 _ _ _ ?_ rfl
    have hsl : Den ρ (.slc 3 (.x 0 1 ((kk : Int) * (x.1.page - 5)) 0) (.x (x.1.page - 5)) (.x (x.1.page - 5))) (.slice (some ⟨b, kk * β, none⟩) β β) := by
      simp only [Den, Off.val, Z.val, hβ]
      refine ⟨some ⟨b, kk * β, none⟩, b, hb1, by simp, by omega, Int.le_refl _, fun _ => ?_⟩
      have : ((kk : Int) * (β : Int)).toNat = kk * β := by rw [← Int.natCast_mul, Int.toNat_natCast]
      rw [this]
      simp
    have D1 := denL_set 81 (a := SV.any) (v := .slice (some ⟨b, kk * β, none⟩) β β) F trivial
    have D2 := denL_set 12 D1 hsl
    have D3 := denL_any 80 (denL_any 78 D2)
    simp only [encAct, hK, Array.toList_setIfInBounds]
    exact D3
  refine @round_region CW PP xSpecs xSpecs_ok n l 19 encOps _ (fun ⟨_, _, h⟩ => h.elim) enc_ops ρ (encHp x c (pre.map fun k => PL.pieceS x (k % (PL.pagesI x.1).toNat)) d) W (encRK x c kk (pre.map fun k => PL.pieceS x (k % (PL.pagesI x.1).toNat))) ρ W (encRFr x kk) _ _ DM0 ?_ (Since.refl S.hok) F1
    ((encr_eq ar0 x c kk _ d).mpr (encr_holds x hi h c kk (by omega) _ (by rw [List.length_map]; omega) d))
  intro ρ' w' fr hp a' S' F' hk
  obtain ⟨M, d', hd', rfl, hent⟩ := hk
  have F2 : @FrOK CW DM ρ' (encFr x c) a := @FrOK.mono CW DM _ _ _ F0 _ S'.old
  obtain ⟨ρt, S3, F3⟩ := @entails_sound CW DM _ _ _ _ _ _ _ _ _ _ (S.trans S') F2 hent
  obtain ⟨Bs2, Bn2, b2, hb2, k80, k78, k1, k2, _, _⟩ := @enc_load CW x c hc0 _ _ _ _ _ DM _ S3 F3
  rw [h80] at k80
  rw [h78] at k78
  injection k80 with _ _ k80
  simp only [Array.mk.injEq, List.cons.injEq, Value.pointer.injEq, Option.some.injEq, Addr.mk.injEq, and_true] at k80
  obtain ⟨rfl, rfl⟩ := k80
  simp only [Value.slice.injEq, Option.some.injEq, Addr.mk.injEq, and_true] at k78
  obtain ⟨rfl, _, _⟩ := k78
  refine ⟨⟨S'.size, fun i o _ hi' ho => ?_⟩, ⟨k1.trans g1.symm, k2.trans g2.symm⟩, d', ρt, ?_, ?_, @FrOK.den CW DM _ _ _ F3⟩
  · rw [S'.frame i (Array.getElem?_eq_some_iff.1 hi').1 (own_cells S.hok hi' ho)]
    exact hi'
  · have := hd'.le
    simpa using this
  · simpa [hK] using S3
theorem enc_loop {x : Cfg × Tree × Pool} (hi : PL.EIn x) (h : PL.EOK x) {c : Int} (hc : ((PL.fullS x.1 x.2.1 x.2.2).length : Int) ≤ c) {w0 w : World} {ρ : List Nat} {a : Act} (S : Since [] [] w0 ρ (encHp x c [] 0) w) (F : DenL ρ (encFr x c) a.tmps.toList)
    {Q : Exit → Act → World → Prop} (hdone : ∀ (D : Nat) (W : World) (d : Int) (ρ : List Nat), w.heap.size ≤ D → ((PL.encL x).length : Int) ≤ d → Since [] [] w0 ρ (encHp x c (PL.encL x) d) W → DenL ρ (encFr x c) a.tmps.toList → W.heap[D]? = some (.deferred (some [])) →
      Q .normal { a with defers := { target := .collected D, args := #[] } :: a.defers } W) : encT.1.wp PP Q a w := by
  letI DM : DMarks := ⟨a.defers⟩
  have hf := full_len hi h
  obtain ⟨c1, c2, c3, c4, c5, c6⟩ := h.cfg.ok
  obtain ⟨f1, f2, f3⟩ := PL.full_fits h.cfg
  have hr := PL.pages_range h.cfg
  obtain ⟨β, hβ⟩ : ∃ β : Nat, x.1.page - 5 = (β : Int) := ⟨(x.1.page - 5).toNat, by omega⟩
  have hT : (PL.fullS x.1 x.2.1 x.2.2).length = (PL.pagesI x.1).toNat * β := by
    have : ((PL.pagesI x.1).toNat : Int) = PL.pagesI x.1 := Int.toNat_of_nonneg (by omega)
    have h2 : (((PL.fullS x.1 x.2.1 x.2.2).length : Nat) : Int) = (((PL.pagesI x.1).toNat * β : Nat) : Int) := by rw [hf, hβ, Int.natCast_mul, this]
    exact Int.ofNat.inj h2
  have hpos : 1 ≤ PL.pagesI x.1 * (x.1.page - 5) := by
    have : 1 * (x.1.page - 5) ≤ PL.pagesI x.1 * (x.1.page - 5) := Int.mul_le_mul_of_nonneg_right (by omega) (by omega)
    omega
  have hc0 : c ≠ 0 := by omega
  have F0 : FrOK ρ (encFr x c) a := ⟨F, rfl⟩
  obtain ⟨Bs, Bn, b, hb, g80, g78, g1, g2, lt1, lt2⟩ := enc_load hc0 S F0
  rw [encT_eq]
  refine (wpIn_wide (n := 3)).1 (wpIn_block ?_)
  refine wpIn_rangeFunc_ownG rfl (by decide) (gf := 66) (lb := #[.pointer (some ⟨Bs, 0, none⟩), .pointer (some ⟨Bn, 0, none⟩)]) g80 trivial (enters_of Try.func66 (by kernel_rfl) rfl)
    (chunk_stops 2 (by decide) Bs Bn b (PL.pagesI x.1).toNat β (PL.fullS x.1 x.2.1 x.2.2).length c.toNat (by omega) hT (by omega) (by omega) w lt1 lt2 g1 (by rw [g2, hβ]))
    (fun h k => ⟨k.1.trans h.1, k.2.trans h.2⟩) (fun W l o o' hle _ _ _ => ?_) (Below.refl _ _) (fun _ => rfl) (encIv x c w0 a) (fun _ _ _ => False) (encIv_own x c w0 a S.size S.hok.cst.le) (fun _ _ _ _ _ hs _ _ => hs)
    ⟨0, ρ, by simp, by simpa using S, F⟩ (encAct a b (PL.pagesI x.1).toNat β) ?assign ?body ?done ?stop
  · exact ⟨World.cell?_of_block (World.putObj_heap_other (by simp only; omega)), World.cell?_of_block (World.putObj_heap_other (by simp only; omega))⟩
  case assign =>
    intro l k W K hK
    refine wpIn_region_list ?_
    rw [encAsg_eq, zipset]
    simp only [wpListIn, Region.wanted, if_true]
    refine ⟨fun _ _ => trivial, ?_⟩
    have hsz := tmps_size F
    have : ({ tmps := a.tmps.setIfInBounds 81 (.slice (some ⟨b, (k % (PL.pagesI x.1).toNat) * β, none⟩) β β), defers := [] } : Act).eval (.tmp 81) = .slice (some ⟨b, (k % (PL.pagesI x.1).toNat) * β, none⟩) β β := by
      simp [Act.eval, hsz]
    show Exit.then K (fun _ _ _ => False) .normal ((({ tmps := a.tmps.setIfInBounds 81 (.slice (some ⟨b, (k % (PL.pagesI x.1).toNat) * β, none⟩) β β), defers := [] } : Act)).put (some 12) (({ tmps := a.tmps.setIfInBounds 81 (.slice (some ⟨b, (k % (PL.pagesI x.1).toNat) * β, none⟩) β β), defers := [] } : Act).eval (.tmp 81))) W
    rw [this]
    exact hK
  case body =>
    intro l pre k W hI hlen
    exact enc_round hi h hc0 hβ g80 g78 w.heap.size (3 - 1 - 1) l _ pre k hI hlen
  case done =>
    rintro D xs W hD rfl ⟨d, ρ', hd, S', F'⟩ hk
    have e : (List.range (PL.pagesI x.1).toNat).map (fun k => PL.pieceS x (k % (PL.pagesI x.1).toNat)) = PL.encL x := by
      rw [PL.encL_ok h, PL.pieces]
      refine List.map_congr_left fun k hk => ?_
      rw [Nat.mod_eq_of_lt (List.mem_range.1 hk), PL.pieceS]
    rw [e] at S'
    refine hdone D W d ρ' hD ?_ S' F' hk
    rw [← e]
    simpa using hd
  case stop =>
    rintro D c' pre W _ _ hs _
    exact hs.elim
theorem encI_ok : encI.OK PP 22 := by
  refine ⟨⟨Try.f22, by kernel_rfl, by kernel_rfl, by kernel_rfl⟩, fun x hx ρ w vs hd H => ?_⟩
  have hx : PL.EIn x := hx
  obtain rfl : ρ = [] := by
    have := H.len
    exact List.length_eq_zero_iff.1 this
  refine (callsIn_wide (n := 3)).1 (callsIn_of_wp_marks (fn := Try.f22) (c := Try.f22.body.getD .skip) Try.func22 (by kernel_rfl) trivial ((wpIn_wide (n := 3)).2 ?_) rfl)
  generalize hR : (fun (e : Ending) (w' : World) => ∃ (o : Out encI.X) (v : Value) (y : o.Y x) (ρ' : List Nat), o ∈ encI.outs ∧ e = .returned v ∧ o.post x y ∧ Den ρ' (o.R x y) v ∧ Since [] (encI.H x) w ρ' (o.H' x y) w') = R
  refine Code.wp_mono (Q := fun e a w => match e with
    | .panic _ => False
    | e => bodyPostM Fence.wide 3 PP Try.f22 R e a w) (fun e a w h => by cases e <;> first | exact h | exact h.elim) ?_
  have fin : ∀ [DM : DMarks] (ρ : List Nat) (w1 : World) (fr : List SV) (hp : List Blk) (a : Act), Since [] [] w ρ hp w1 → FrOK ρ fr a → endCall ar0 PP Try.f22.results.toList (encI.fin x) .ret fr hp →
      ∃ v, (results Try.f22 a.tmps).run PP w1 = .ok v w1 ∧ R (.returned v) w1 := by
    intro DM ρ w1 fr hp a S F hk
    simp only [endCall] at hk
    split at hk
    · rename_i l vc hr
      obtain ⟨v, h1, o, y, ρ', h2, h3, h4, h5⟩ := fin_results (S := encI) (x := x) (fn := Try.f22) (ρ0 := []) rfl S F hr hk
      exact ⟨v, h1, by rw [← hR]; exact ⟨o, v, y, ρ', h2, rfl, h3, h4, h5⟩⟩
    · exact hk.elim
  letI DM0 : DMarks := ⟨[]⟩
  have hlen := denL_length hd
  have F0 : FrOK [] (encI.A x ++ List.replicate (Try.f22.ntmps - (encI.A x).length) .any) { tmps := vs.toArray ++ Array.replicate (Try.f22.ntmps - vs.toArray.size) undef, defers := [] } := by
    refine ⟨?_, rfl⟩
    have hrep : ∀ n, DenL [] (List.replicate n .any) (List.replicate n undef) := fun n => by
      induction n with
      | zero => rfl
      | succ n ih => exact ⟨undef, _, rfl, trivial, ih⟩
    have := denL_append hd (hrep (Try.f22.ntmps - (encI.A x).length))
    simpa [hlen] using this
  refine runTo_sound (DM := DM0) xSpecs_ok (inv := noInv) (f := 22) (ρ0 := []) (hp0 := []) (w0 := w) (Kt := encKt x) (K := endCall ar0 PP Try.f22.results.toList (encI.fin x)) (fun c a w h => h) (t1 := encT.1) (t2 := encT.2)
    (fun e ρ w1 fr hp a hne S F hk => ?_) (fun ρ w1 fr hp a S F hk => ?_) 1000 13 _ rfl [] w _ _ _ (Since.refl H) F0 ((enct_eq ar0 x).mpr (enct_holds x hx))
  · cases e with
    | normal => exact absurd rfl hne
    | ret =>
      obtain ⟨v, h1, h2⟩ := fin ρ w1 fr hp a S F hk
      have hdf : a.defers = [] := F.defers
      show LeavesInM Fence.wide 3 PP Try.f22 a.tmps R a.defers .returning w1
      rw [hdf]
      exact ⟨v, h1, h2⟩
    | _ => exact hk.elim
  · obtain ⟨c, L, d, hE, hent⟩ := hk
    obtain ⟨ρ1, S1, F1⟩ := entails_sound (ρ0 := []) S F hent
    obtain ⟨hle, hok, rfl, rfl⟩ := hE
    refine enc_loop hx hok hle S1 F1.den fun D W d ρ2 hD hd2 S2 F2 hk2 => ?_
    have hdf : a.defers = [] := F.defers
    rw [hdf]
    letI DM1 : DMarks := ⟨[{ target := .collected D, args := #[] }]⟩
    have F3 : @FrOK CW DM1 ρ2 (encFr x c) { a with defers := [{ target := .collected D, args := #[] }] } := ⟨F2, rfl⟩
    have hl5 : ρ2.length = 5 := S2.hok.len
    show encT.2.wp PP _ _ W
    refine run_sound xSpecs_ok 1000 DM1 22 ρ2 (encHp x c (PL.encL x) d) W encT.2 _ (endCall ar0 PP Try.f22.results.toList (encI.fin x)) (fun c a w h => h) (fun e ρ3 w3 fr3 hp3 a3 S3 F4 hk3 => ?_) ρ2 W _ _ _ (Since.refl S2.hok) F3
      (by rw [hl5]; exact (ence_eq ar0 x c (PL.encL x) d).mpr (ence_holds x hok c d hd2))
    have S4 := S2.trans S3
    have key : ∀ v, (results Try.f22 a3.tmps).run PP w3 = .ok v w3 → R (.returned v) w3 → True := fun _ _ _ => trivial
    have hDW : D < W.heap.size := (Array.getElem?_eq_some_iff.1 hk2).1
    have hk4 : w3.heap[D]? = some (.deferred (some [])) := by rw [S3.frame D hDW (own_cells S2.hok hk2 rfl)]; exact hk2
    have hg : w3.grownBy (w3.putObj D (.deferred none)) (some D) := grownBy_putObj' w3 D _
    have S5 : Since [] [] w ρ3 hp3 (w3.putObj D (.deferred none)) := S4.grown hg (fun r e => by
      cases e
      exact ⟨Nat.le_trans S1.size hD, Nat.le_trans S1.hok.cst.le hD, _, hk4, rfl⟩)
    cases e with
    | ret =>
      obtain ⟨v, h1, h2⟩ := @fin DM1 ρ3 (w3.putObj D (.deferred none)) fr3 hp3 a3 S5 F4 hk3
      have hdf3 : a3.defers = [{ target := .collected D, args := #[] }] := F4.defers
      show LeavesInM Fence.wide 3 PP Try.f22 a3.tmps R a3.defers .returning w3
      rw [hdf3]
      exact ⟨by simp, .inl ⟨D, _, rfl, run_takeDeferred hk4, v, h1, h2⟩⟩
    | normal =>
      obtain ⟨v, h1, h2⟩ := @fin DM1 ρ3 (w3.putObj D (.deferred none)) fr3 hp3 a3 S5 F4 hk3
      have hdf3 : a3.defers = [{ target := .collected D, args := #[] }] := F4.defers
      show LeavesInM Fence.wide 3 PP Try.f22 a3.tmps R a3.defers .returning w3
      rw [hdf3]
      exact ⟨by simp, .inl ⟨D, _, rfl, run_takeDeferred hk4, v, h1, h2⟩⟩
    | _ => exact hk3.elim
end Go.Eng

namespace Go.PL
structure EncsIn (x : Cfg × Tree × Pool) : Prop where
  nods : NodsOK x.2.1.nods
  pool : PoolAny x.2.2
  n : (x.2.1.nods.len + 2) * 48 ≤ 140737488355328
  o : (x.2.2.objs.len + 2) * 48 ≤ 140737488355328
  q : (x.2.2.qlen + 2) * 8 ≤ 140737488355328
  cap : x.2.1.nods.len ≤ x.2.1.nods.cap ∧ x.2.2.objs.len ≤ x.2.2.objs.cap ∧ x.2.2.qlen ≤ x.2.2.qcap
theorem slot_cap {K N P : List Int} {S : List (List UInt8)} {Z : List Int} {len cap cap' : Int} (v : Int) (w : Nat) : slot ⟨K, N, P, S, Z, len, cap⟩ v w = slot ⟨K, N, P, S, Z, len, cap'⟩ v w := rfl
theorem dirsS_cap {K N P : List Int} {S : List (List UInt8)} {Z : List Int} {len cap : Int} (cap' : Int) : ∀ k, dirsS ⟨K, N, P, S, Z, len, cap⟩ k = dirsS ⟨K, N, P, S, Z, len, cap'⟩ k
  | 0 => rfl
  | k + 1 => by rw [dirsS, dirsS, dirsS_cap cap' k, slot_cap]
theorem filesS_cap {K N P : List Int} {S : List (List UInt8)} {Z : List Int} {len cap : Int} (cap' : Int) : ∀ k, filesS ⟨K, N, P, S, Z, len, cap⟩ k = filesS ⟨K, N, P, S, Z, len, cap'⟩ k
  | 0 => rfl
  | k + 1 => by rw [filesS, filesS, filesS_cap cap' k, slot_cap]
theorem objsL_cap {N T : List (List UInt8)} {B O : List Int} {len cap : Int} (cap' : Int) : ∀ k, objsL ⟨N, T, B, O, len, cap⟩ k = objsL ⟨N, T, B, O, len, cap'⟩ k
  | 0 => rfl
  | k + 1 => by rw [objsL, objsL, objsL_cap cap' k]; rfl
theorem fullS_cap {c : Cfg} {tf td : Int} {K N P : List Int} {S : List (List UInt8)} {Z : List Int} {len cap : Int} {oN oT : List (List UInt8)} {oB oO : List Int} {ol oc : Int} {q : List Int} {ql qc : Int} (k1 k2 k3 : Int) :
    fullS c ⟨tf, td, ⟨K, N, P, S, Z, len, cap⟩⟩ ⟨⟨oN, oT, oB, oO, ol, oc⟩, q, ql, qc⟩ = fullS c ⟨tf, td, ⟨K, N, P, S, Z, len, k1⟩⟩ ⟨⟨oN, oT, oB, oO, ol, k2⟩, q, ql, k3⟩ := by
  simp only [fullS, imgS, dirsS_cap (cap := cap) k1, filesS_cap (cap := cap) k1, objsL_cap (cap := oc) k2]
theorem treeOK_cap {c : Cfg} {tf td : Int} {K N P : List Int} {S : List (List UInt8)} {Z : List Int} {len cap : Int} (k1 : Int) : TreeOK c ⟨tf, td, ⟨K, N, P, S, Z, len, cap⟩⟩ ↔ TreeOK c ⟨tf, td, ⟨K, N, P, S, Z, len, k1⟩⟩ :=
  ⟨fun ⟨h1, h2, ⟨h3, h4, h5⟩⟩ => ⟨h1, h2, ⟨h3, h4, h5⟩⟩, fun ⟨h1, h2, ⟨h3, h4, h5⟩⟩ => ⟨h1, h2, ⟨h3, h4, h5⟩⟩⟩
theorem poolOK_cap {c : Cfg} {oN oT : List (List UInt8)} {oB oO : List Int} {ol oc : Int} {q : List Int} {ql qc : Int} (k2 k3 : Int) : PoolOK c ⟨⟨oN, oT, oB, oO, ol, oc⟩, q, ql, qc⟩ ↔ PoolOK c ⟨⟨oN, oT, oB, oO, ol, k2⟩, q, ql, k3⟩ :=
  ⟨fun ⟨h1, h2, ⟨h3, h4⟩, h5⟩ => ⟨h1, h2, ⟨h3, fun j hj => ⟨(h4 j hj).n, (h4 j hj).t, (h4 j hj).b, (h4 j hj).o⟩⟩, h5⟩, fun ⟨h1, h2, ⟨h3, h4⟩, h5⟩ => ⟨h1, h2, ⟨h3, fun j hj => ⟨(h4 j hj).n, (h4 j hj).t, (h4 j hj).b, (h4 j hj).o⟩⟩, h5⟩⟩
theorem enc_cap {c : Cfg} {tf td : Int} {K N P : List Int} {S : List (List UInt8)} {Z : List Int} {len cap : Int} {oN oT : List (List UInt8)} {oB oO : List Int} {ol oc : Int} {q : List Int} {ql qc : Int} (k1 k2 k3 : Int) :
    encL (c, ⟨tf, td, ⟨K, N, P, S, Z, len, cap⟩⟩, ⟨⟨oN, oT, oB, oO, ol, oc⟩, q, ql, qc⟩) = encL (c, ⟨tf, td, ⟨K, N, P, S, Z, len, k1⟩⟩, ⟨⟨oN, oT, oB, oO, ol, k2⟩, q, ql, k3⟩) ∧
    encErr (c, ⟨tf, td, ⟨K, N, P, S, Z, len, cap⟩⟩, ⟨⟨oN, oT, oB, oO, ol, oc⟩, q, ql, qc⟩) = encErr (c, ⟨tf, td, ⟨K, N, P, S, Z, len, k1⟩⟩, ⟨⟨oN, oT, oB, oO, ol, k2⟩, q, ql, k3⟩) := by
  have ht := treeOK_cap (c := c) (tf := tf) (td := td) (K := K) (N := N) (P := P) (S := S) (Z := Z) (len := len) (cap := cap) k1
  have hp := poolOK_cap (c := c) (oN := oN) (oT := oT) (oB := oB) (oO := oO) (ol := ol) (oc := oc) (q := q) (ql := ql) (qc := qc) k2 k3
  constructor
  · by_cases h : EOK (c, ⟨tf, td, ⟨K, N, P, S, Z, len, cap⟩⟩, ⟨⟨oN, oT, oB, oO, ol, oc⟩, q, ql, qc⟩)
    · have h' : EOK (c, ⟨tf, td, ⟨K, N, P, S, Z, len, k1⟩⟩, ⟨⟨oN, oT, oB, oO, ol, k2⟩, q, ql, k3⟩) := ⟨h.cfg, ht.1 h.tree, hp.1 h.pool⟩
      rw [encL_ok h, encL_ok h']
      simp only
      rw [fullS_cap k1 k2 k3]
    · have h' : ¬ EOK (c, ⟨tf, td, ⟨K, N, P, S, Z, len, k1⟩⟩, ⟨⟨oN, oT, oB, oO, ol, k2⟩, q, ql, k3⟩) := fun h' => h ⟨h'.cfg, ht.2 h'.tree, hp.2 h'.pool⟩
      rw [encL_no h, encL_no h']
  · unfold encErr
    simp only
    by_cases hc : CfgOK c
    · rw [if_pos hc, if_pos hc]
      by_cases a : TreeOK c ⟨tf, td, ⟨K, N, P, S, Z, len, cap⟩⟩
      · rw [if_pos a, if_pos (ht.1 a)]
        by_cases b : PoolOK c ⟨⟨oN, oT, oB, oO, ol, oc⟩, q, ql, qc⟩
        · rw [if_pos b, if_pos (hp.1 b)]
        · rw [if_neg b, if_neg (fun h => b (hp.2 h))]
      · rw [if_neg a, if_neg (fun h => a (ht.2 h))]
    · rw [if_neg hc, if_neg hc]
theorem len2 {α : Type} {l : List α} {a b : α} {n : Int} (h : (l.length : Int) = n) : ((l ++ [a, b]).length : Int) = n + 2 := by
  subst h
  simp
theorem sub2 {α : Type} {l : List α} {a b : α} {n : Int} (h : (l.length : Int) = n) : ((l ++ [a, b]).drop (Int.toNat 0)).take (n + 2).toNat = l ++ [a, b] := by
  subst h
  rw [show ((l.length : Int) + 2).toNat = (l ++ [a, b]).length by simp; omega, show Int.toNat 0 = 0 from rfl, List.drop_zero, List.take_length]
theorem poolIn_of {c : Cfg} {p : Pool} (h : PoolAny p) (hc : CfgIn c) : PoolIn (c, p) := ⟨hc, h.objs.n, h.objs.t, h.objs.b, h.objs.o, h.q, h.objs.le, h.le⟩
end Go.PL
set_option linter.unusedSectionVars false
set_option linter.unusedSimpArgs false
set_option linter.unusedVariables false
namespace Go.Eng
variable [CW : CWorld]
open Go.Proofs
open Go.PL (Cfg CfgIn CfgOK CfgBad Img RImg Refs Nod Nods Tree Objs Pool Txts)
set_option maxRecDepth 100000
attribute [local irreducible] run
noncomputable def leSpecs : Specs := fun f a h => match f with
  | 20 => some lbigSpec
  | 21 => some handSpec
  | 23 => some htreeSpec
  | 24 => some hpoolSpec
  | 27 => some leftSpec
  | 22 => some encI
  | 25 => some enc4Spec
  | 26 => some stSpec
  | _ => cSpecs f a h
theorem leSpecs_ok : SpecsOK PP leSpecs := by
  intro CW f xs _ S h
  unfold leSpecs at h
  split at h
  · cases h; exact lbigSpec_ok
  · cases h; exact handSpec_ok
  · cases h; exact htreeSpec_ok
  · cases h; exact hpoolSpec_ok
  · cases h; exact leftSpec_ok
  · cases h; exact encI_ok
  · cases h; exact renc4_ok
  · cases h; exact stSpec_ok
  · exact cSpecs_ok CW _ _ _ _ h
noncomputable def lencSpec : Spec where
  X := Cfg × Tree × Pool
  A x := [.agg (cfgL x.1), .agg (treeL x.2.1), .agg (poolL x.2.2)]
  H _ := []
  pre x := PL.EncsIn x
  outs := [lawOut _]
def lenc_vc (ar : AR) (x : lencSpec.X) : Prop :=
  ∃ (x_1 : Cfg), x.fst.slots = x_1.slots ∧ x.fst.files = x_1.files ∧ x.fst.dirs = x_1.dirs ∧ x.fst.most = x_1.most ∧ x.fst.least = x_1.least ∧ x.fst.page = x_1.page ∧ PL.CfgAny x_1
  ∧ ∀ (y : Unit), True → (x_1.files > 3000 → ∃ (x_2 : Cfg), x.fst.slots = x_2.slots ∧ x.fst.files = x_2.files ∧ x.fst.dirs = x_2.dirs ∧ x.fst.most = x_2.most ∧ x.fst.least =
  x_2.least ∧ x.fst.page = x_2.page ∧ PL.CfgAny x_2 ∧ ∀ (y : Unit), True → ∃ (x_3 : Cfg), x.fst.slots = x_3.slots ∧ x.fst.files = x_3.files ∧ x.fst.dirs = x_3.dirs ∧ x.fst.most =
  x_3.most ∧ x.fst.least = x_3.least ∧ x.fst.page = x_3.page ∧ PL.CfgAny x_3 ∧ ∀ (y : Unit), True → ∃ (x_4 : Cfg), x.fst.slots = x_4.slots ∧ x.fst.files = x_4.files ∧ x.fst.dirs =
  x_4.dirs ∧ x.fst.most = x_4.most ∧ x.fst.least = x_4.least ∧ x.fst.page = x_4.page ∧ PL.CfgAny x_4 ∧ ∀ (y : Unit), True → ∃ (x_5 : Int), PL.chk x_4 = x_5 ∧ PL.Ints3 (x_5, x_5,
  x_5) ∧ ∀ (y : Unit), True → ∃ (x_6 : Cfg), x.fst.slots = x_6.slots ∧ x.fst.files = x_6.files ∧ x.fst.dirs = x_6.dirs ∧ x.fst.most = x_6.most ∧ x.fst.least = x_6.least ∧
  x.fst.page = x_6.page ∧ PL.CfgAny x_6 ∧ ∀ (y : Unit), True → (ar.eq x_5 (PL.chk x_6) → (ar.eq (PL.pagesOr0 x_2) (PL.pagesOr0 x_3) → ∃ (x : Int), PL.chk x_2 = x ∧ PL.Ints3 (x, x,
  x) ∧ ∀ (y : Unit), True → ∃ (y : Unit), True ∧ (ar.eq x (PL.chk x_3) ↔ true = true) ∧ True) ∧ (¬ar.eq (PL.pagesOr0 x_2) (PL.pagesOr0 x_3) → ∃ (y : Unit), True ∧ False)) ∧ (¬ar.eq
  x_5 (PL.chk x_6) → ∃ (y : Unit), True ∧ False)) ∧ (¬x_1.files > 3000 → ∃ (x_2 : Tree × Pool), x.snd.fst.files = x_2.1.files ∧ x.snd.fst.dirs = x_2.1.dirs ∧ x.snd.fst.nods.K =
  x_2.fst.nods.K ∧ x.snd.fst.nods.N = x_2.fst.nods.N ∧ x.snd.fst.nods.P = x_2.fst.nods.P ∧ x.snd.fst.nods.S = x_2.fst.nods.S ∧ x.snd.fst.nods.Z = x_2.fst.nods.Z ∧
  x.snd.fst.nods.len = x_2.fst.nods.len ∧ x.snd.fst.nods.cap = x_2.fst.nods.cap ∧ x.snd.snd.objs.N = x_2.snd.objs.N ∧ x.snd.snd.objs.T = x_2.snd.objs.T ∧ x.snd.snd.objs.B =
  x_2.snd.objs.B ∧ x.snd.snd.objs.O = x_2.snd.objs.O ∧ x.snd.snd.objs.len = x_2.snd.objs.len ∧ x.snd.snd.objs.cap = x_2.snd.objs.cap ∧ x.snd.snd.q = x_2.2.q ∧ x.snd.snd.qlen =
  x_2.2.qlen ∧ x.snd.snd.qcap = x_2.2.qcap ∧ PL.HandIn x_2 ∧ ∀ (y : Int × Int × Int), PL.Caps x_2 y → ∃ (x_3 : (Nods × Pool) × Tree), x.snd.fst.files = x_3.2.files ∧ x.snd.fst.dirs
  = x_3.2.dirs ∧ x.snd.fst.nods.K = x_3.snd.nods.K ∧ x.snd.fst.nods.N = x_3.snd.nods.N ∧ x.snd.fst.nods.P = x_3.snd.nods.P ∧ x.snd.fst.nods.S = x_3.snd.nods.S ∧ x.snd.fst.nods.Z =
  x_3.snd.nods.Z ∧ x.snd.fst.nods.len = x_3.snd.nods.len ∧ x.snd.fst.nods.cap = x_3.snd.nods.cap ∧ x_2.fst.nods.len.add 2 = x_3.fst.fst.len ∧ y.fst = x_3.fst.fst.cap ∧
  x_2.snd.objs.len.add 2 = x_3.fst.snd.objs.len ∧ y.2.fst = x_3.fst.snd.objs.cap ∧ x_2.2.qlen.add 2 = x_3.fst.snd.qlen ∧ y.2.snd = x_3.fst.snd.qcap ∧ y.fst = x_3.fst.fst.cap ∧
  x_2.fst.nods.K.append [71, 72] = x_3.fst.fst.K ∧ x_2.fst.nods.N.append [0, 0] = x_3.fst.fst.N ∧ x_2.fst.nods.P.append [0, 0] = x_3.fst.fst.P ∧ x_2.fst.nods.S.append [[], []] =
  x_3.fst.fst.S ∧ x_2.fst.nods.Z.append [0, 0] = x_3.fst.fst.Z ∧ y.2.fst = x_3.fst.snd.objs.cap ∧ x_2.snd.objs.N.append [[], []] = x_3.fst.snd.objs.N ∧ x_2.snd.objs.T.append [[],
  []] = x_3.fst.snd.objs.T ∧ x_2.snd.objs.B.append [0, 0] = x_3.fst.snd.objs.B ∧ x_2.snd.objs.O.append [73, 74] = x_3.fst.snd.objs.O ∧ y.2.snd = x_3.fst.snd.qcap ∧ x_2.2.q.append
  [75, 76] = x_3.fst.snd.q ∧ PL.HdTIn x_3 ∧ ∀ (y : Unit), True → ∃ (x_4 : Nods × Pool), x_3.fst.fst.len = x_4.1.len ∧ x_3.fst.fst.cap = x_4.1.cap ∧ x_3.fst.snd.objs.len =
  x_4.snd.objs.len ∧ x_3.fst.snd.objs.cap = x_4.snd.objs.cap ∧ x_3.fst.snd.qlen = x_4.2.qlen ∧ x_3.fst.snd.qcap = x_4.2.qcap ∧ x_3.fst.fst.cap = x_4.1.cap ∧ x_3.fst.fst.K = x_4.1.K
  ∧ x_3.fst.fst.N = x_4.1.N ∧ x_3.fst.fst.P = x_4.1.P ∧ x_3.fst.fst.S = x_4.1.S ∧ x_3.fst.fst.Z = x_4.1.Z ∧ x_3.fst.snd.objs.cap = x_4.snd.objs.cap ∧ x_3.fst.snd.objs.N =
  x_4.snd.objs.N ∧ x_3.fst.snd.objs.T = x_4.snd.objs.T ∧ x_3.fst.snd.objs.B = x_4.snd.objs.B ∧ x_3.fst.snd.objs.O = x_4.snd.objs.O ∧ x_3.fst.snd.qcap = x_4.2.qcap ∧ x_3.fst.snd.q =
  x_4.2.q ∧ PL.HdIn x_4 ∧ ∀ (y : Unit), True → ∃ (x_5 : Cfg × Tree × Pool), x.fst.slots = x_5.1.slots ∧ x.fst.files = x_5.1.files ∧ x.fst.dirs = x_5.1.dirs ∧ x.fst.most =
  x_5.1.most ∧ x.fst.least = x_5.1.least ∧ x.fst.page = x_5.1.page ∧ x_3.2.files = x_5.snd.fst.files ∧ x_3.2.dirs = x_5.snd.fst.dirs ∧ ar.le 0 0 ∧ ar.le (ar.add 0
  (x_3.fst.fst.len.sub 2)) (ar.ilen x_4.1.K) ∧ ar.le (ar.add 0 (x_3.fst.fst.len.sub 2)) (ar.ilen x_4.1.N) ∧ ar.le (ar.add 0 (x_3.fst.fst.len.sub 2)) (ar.ilen x_4.1.P) ∧ ar.le
  (ar.add 0 (x_3.fst.fst.len.sub 2)) (ar.tlen x_4.1.S) ∧ ar.le (ar.add 0 (x_3.fst.fst.len.sub 2)) (ar.ilen x_4.1.Z) ∧ ar.isub x_4.1.K 0 (x_3.fst.fst.len.sub 2) = x_5.snd.fst.nods.K
  ∧ ar.isub x_4.1.N 0 (x_3.fst.fst.len.sub 2) = x_5.snd.fst.nods.N ∧ ar.isub x_4.1.P 0 (x_3.fst.fst.len.sub 2) = x_5.snd.fst.nods.P ∧ ar.tsub x_4.1.S 0 (x_3.fst.fst.len.sub 2) =
  x_5.snd.fst.nods.S ∧ ar.isub x_4.1.Z 0 (x_3.fst.fst.len.sub 2) = x_5.snd.fst.nods.Z ∧ x_3.fst.fst.len.sub 2 = x_5.snd.fst.nods.len ∧ x_3.fst.fst.cap = x_5.snd.fst.nods.cap ∧
  ar.le 0 0 ∧ ar.le (ar.add 0 (x_4.snd.objs.len.sub 2)) (ar.tlen x_4.snd.objs.N) ∧ ar.le (ar.add 0 (x_4.snd.objs.len.sub 2)) (ar.tlen x_4.snd.objs.T) ∧ ar.le (ar.add 0
  (x_4.snd.objs.len.sub 2)) (ar.ilen x_4.snd.objs.B) ∧ ar.le (ar.add 0 (x_4.snd.objs.len.sub 2)) (ar.ilen x_4.snd.objs.O) ∧ ar.tsub x_4.snd.objs.N 0 (x_4.snd.objs.len.sub 2) =
  x_5.snd.snd.objs.N ∧ ar.tsub x_4.snd.objs.T 0 (x_4.snd.objs.len.sub 2) = x_5.snd.snd.objs.T ∧ ar.isub x_4.snd.objs.B 0 (x_4.snd.objs.len.sub 2) = x_5.snd.snd.objs.B ∧ ar.isub
  x_4.snd.objs.O 0 (x_4.snd.objs.len.sub 2) = x_5.snd.snd.objs.O ∧ x_4.snd.objs.len.sub 2 = x_5.snd.snd.objs.len ∧ x_4.snd.objs.cap = x_5.snd.snd.objs.cap ∧ ar.le 0 0 ∧ ar.le
  (ar.add 0 (x_4.2.qlen.sub 2)) (ar.ilen x_4.2.q) ∧ ar.isub x_4.2.q 0 (x_4.2.qlen.sub 2) = x_5.snd.snd.q ∧ x_4.2.qlen.sub 2 = x_5.snd.snd.qlen ∧ x_4.2.qcap = x_5.snd.snd.qcap ∧
  PL.EIn x_5 ∧ ∀ (y : Int), PL.Enc4Post x_5 y → ∃ (x_6 : Cfg × Tree × Pool), x.fst.slots = x_6.1.slots ∧ x.fst.files = x_6.1.files ∧ x.fst.dirs = x_6.1.dirs ∧ x.fst.most =
  x_6.1.most ∧ x.fst.least = x_6.1.least ∧ x.fst.page = x_6.1.page ∧ x.snd.fst.files = x_6.snd.fst.files ∧ x.snd.fst.dirs = x_6.snd.fst.dirs ∧ x.snd.fst.nods.K = x_6.snd.fst.nods.K
  ∧ x.snd.fst.nods.N = x_6.snd.fst.nods.N ∧ x.snd.fst.nods.P = x_6.snd.fst.nods.P ∧ x.snd.fst.nods.S = x_6.snd.fst.nods.S ∧ x.snd.fst.nods.Z = x_6.snd.fst.nods.Z ∧
  x.snd.fst.nods.len = x_6.snd.fst.nods.len ∧ x.snd.fst.nods.cap = x_6.snd.fst.nods.cap ∧ x.snd.snd.objs.N = x_6.snd.snd.objs.N ∧ x.snd.snd.objs.T = x_6.snd.snd.objs.T ∧
  x.snd.snd.objs.B = x_6.snd.snd.objs.B ∧ x.snd.snd.objs.O = x_6.snd.snd.objs.O ∧ x.snd.snd.objs.len = x_6.snd.snd.objs.len ∧ x.snd.snd.objs.cap = x_6.snd.snd.objs.cap ∧
  x.snd.snd.q = x_6.snd.snd.q ∧ x.snd.snd.qlen = x_6.snd.snd.qlen ∧ x.snd.snd.qcap = x_6.snd.snd.qcap ∧ PL.EIn x_6 ∧ ∀ (y : Int), PL.Enc4Post x_6 y → ∃ (x_7 : Txts × Txts), ar.le 0
  0 ∧ ar.le (ar.add 0 (↑(PL.encL x_5).length : Int)) (ar.tlen (PL.encL x_5)) ∧ ar.tsub (PL.encL x_5) 0 (↑(PL.encL x_5).length : Int) = x_7.1.l ∧ (↑(PL.encL x_5).length : Int) =
  x_7.1.len ∧ (↑(PL.encL x_5).length : Int) = x_7.1.cap ∧ ar.le 0 0 ∧ ar.le (ar.add 0 (↑(PL.encL x_6).length : Int)) (ar.tlen (PL.encL x_6)) ∧ ar.tsub (PL.encL x_6) 0 (↑(PL.encL
  x_6).length : Int) = x_7.2.l ∧ (↑(PL.encL x_6).length : Int) = x_7.2.len ∧ y = x_7.2.cap ∧ PL.TxtsIn x_7 ∧ ∀ (y : Unit), True → (x_7.1.l = x_7.2.l → ∃ (x_8 : Int), PL.encErr x_5
  = x_8 ∧ PL.Ints3 (x_8, x_8, x_8) ∧ ∀ (y : Unit), True → (ar.eq x_8 (PL.encErr x_6) → ∃ (x_9 : Tree × Pool × Int × Int × Int), ar.le 0 0 ∧ ar.le (ar.add 0 x_4.1.len) (ar.ilen
  x_4.1.K) ∧ ar.le (ar.add 0 x_4.1.len) (ar.ilen x_4.1.N) ∧ ar.le (ar.add 0 x_4.1.len) (ar.ilen x_4.1.P) ∧ ar.le (ar.add 0 x_4.1.len) (ar.tlen x_4.1.S) ∧ ar.le (ar.add 0 x_4.1.len)
  (ar.ilen x_4.1.Z) ∧ ar.isub x_4.1.K 0 x_4.1.len = x_9.fst.nods.K.append [71, 72] ∧ ar.isub x_4.1.N 0 x_4.1.len = x_9.fst.nods.N.append [0, 0] ∧ ar.isub x_4.1.P 0 x_4.1.len =
  x_9.fst.nods.P.append [0, 0] ∧ ar.tsub x_4.1.S 0 x_4.1.len = x_9.fst.nods.S.append [[], []] ∧ ar.isub x_4.1.Z 0 x_4.1.len = x_9.fst.nods.Z.append [0, 0] ∧ x_4.1.len =
  x_9.fst.nods.len.add 2 ∧ x_4.1.cap = x_9.snd.snd.fst ∧ ar.le 0 0 ∧ ar.le (ar.add 0 x_4.snd.objs.len) (ar.tlen x_4.snd.objs.N) ∧ ar.le (ar.add 0 x_4.snd.objs.len) (ar.tlen
  x_4.snd.objs.T) ∧ ar.le (ar.add 0 x_4.snd.objs.len) (ar.ilen x_4.snd.objs.B) ∧ ar.le (ar.add 0 x_4.snd.objs.len) (ar.ilen x_4.snd.objs.O) ∧ ar.tsub x_4.snd.objs.N 0
  x_4.snd.objs.len = x_9.snd.fst.objs.N.append [[], []] ∧ ar.tsub x_4.snd.objs.T 0 x_4.snd.objs.len = x_9.snd.fst.objs.T.append [[], []] ∧ ar.isub x_4.snd.objs.B 0 x_4.snd.objs.len
  = x_9.snd.fst.objs.B.append [0, 0] ∧ ar.isub x_4.snd.objs.O 0 x_4.snd.objs.len = x_9.snd.fst.objs.O.append [73, 74] ∧ x_4.snd.objs.len = x_9.snd.fst.objs.len.add 2 ∧
  x_4.snd.objs.cap = x_9.snd.snd.snd.fst ∧ ar.le 0 0 ∧ ar.le (ar.add 0 x_4.2.qlen) (ar.ilen x_4.2.q) ∧ ar.isub x_4.2.q 0 x_4.2.qlen = x_9.snd.fst.q.append [75, 76] ∧ x_4.2.qlen =
  x_9.snd.fst.qlen.add 2 ∧ x_4.2.qcap = x_9.snd.snd.snd.snd ∧ x.snd.fst.files = x_9.1.files ∧ x.snd.fst.dirs = x_9.1.dirs ∧ x.snd.fst.nods.K = x_9.fst.nods.K ∧ x.snd.fst.nods.N =
  x_9.fst.nods.N ∧ x.snd.fst.nods.P = x_9.fst.nods.P ∧ x.snd.fst.nods.S = x_9.fst.nods.S ∧ x.snd.fst.nods.Z = x_9.fst.nods.Z ∧ x.snd.fst.nods.len = x_9.fst.nods.len ∧
  x.snd.fst.nods.cap = x_9.fst.nods.cap ∧ x.snd.snd.objs.N = x_9.snd.fst.objs.N ∧ x.snd.snd.objs.T = x_9.snd.fst.objs.T ∧ x.snd.snd.objs.B = x_9.snd.fst.objs.B ∧ x.snd.snd.objs.O =
  x_9.snd.fst.objs.O ∧ x.snd.snd.objs.len = x_9.snd.fst.objs.len ∧ x.snd.snd.objs.cap = x_9.snd.fst.objs.cap ∧ x.snd.snd.q = x_9.snd.fst.q ∧ x.snd.snd.qlen = x_9.snd.fst.qlen ∧
  x.snd.snd.qcap = x_9.snd.fst.qcap ∧ PL.LeftIn x_9 ∧ ∀ (y : Unit), True → ∃ (y : Unit), True ∧ True) ∧ (¬ar.eq x_8 (PL.encErr x_6) → ∃ (y : Unit), True ∧ False)) ∧ (¬x_7.1.l =
  x_7.2.l → ∃ (y : Unit), True ∧ False))
theorem lenc_eq (ar : AR) (x : lencSpec.X) : (run ar PP leSpecs noInv 1000 6 (lencSpec.H x).length (Try.f6.body.getD .skip) (lencSpec.A x ++ List.replicate (Try.f6.ntmps - (lencSpec.A x).length) .any) (lencSpec.H x) (endCall ar PP Try.f6.results.toList (lencSpec.fin x))) = lenc_vc ar x := by
  kernel_rfl
theorem lenc_of (h : ∀ x, lencSpec.pre x → lenc_vc ar0 x) : lencSpec.OK PP 6 :=
  Spec.ok_of_run (fn := Try.f6) (c := Try.f6.body.getD .skip) (by kernel_rfl) (by kernel_rfl) (by kernel_rfl) leSpecs_ok (fun _ => noInv) 1000 (fun x hx => (lenc_eq ar0 x).mpr (h x hx))
theorem lencSpec_ok : lencSpec.OK PP 6 := by
  refine lenc_of fun x hx => ?_
  obtain ⟨c, ⟨tf, td, ⟨K, N, P, S, Z, len, cap⟩⟩, ⟨⟨oN, oT, oB, oO, ol, oc⟩, q, ql, qc⟩⟩ := x
  obtain ⟨hn, hp, h1, h2, h3, h4⟩ : PL.EncsIn (c, ⟨tf, td, ⟨K, N, P, S, Z, len, cap⟩⟩, ⟨⟨oN, oT, oB, oO, ol, oc⟩, q, ql, qc⟩) := hx
  simp only at hn hp h1 h2 h3 h4
  obtain ⟨n1, n2, n3, n4, n5, n6⟩ := id hn
  obtain ⟨⟨o1, o2, o3, o4, o5⟩, q1, q2⟩ := id hp
  simp only at n1 n2 n3 n4 n5 n6 o1 o2 o3 o4 o5 q1 q2
  unfold lenc_vc
  simp only [ars, ars2, ex_cfg, cfgAny, ints3, true_and, and_true, exists_const, forall_const, imp_false, not_true_eq_false, not_false_eq_true, exists_eq_left', implies_true, Classical.not_not]
  intro hsmall
  have A : ∀ (l m : List Int), l.append m = l ++ m := fun _ _ => rfl
  have B : ∀ (l m : List (List UInt8)), l.append m = l ++ m := fun _ _ => rfl
  have C : ∀ (a b : Int), a.add b = a + b := fun _ _ => rfl
  have z1 : 0 ≤ len := by rw [← n1]; omega
  have z2 : 0 ≤ ol := by rw [← o1]; omega
  have z3 : 0 ≤ ql := by rw [← q1]; omega
  refine ⟨(⟨tf, td, ⟨K, N, P, S, Z, len, cap⟩⟩, ⟨⟨oN, oT, oB, oO, ol, oc⟩, q, ql, qc⟩), ?_⟩
  simp only [true_and]
  refine ⟨⟨hn, hp, h1, h2, h3⟩, fun y hy => ?_⟩
  obtain ⟨k1, k2, k3⟩ := y
  obtain ⟨y1, y2, y3⟩ := hy
  simp only at y1 y2 y3
  refine ⟨((⟨K ++ [71, 72], N ++ [0, 0], P ++ [0, 0], S ++ [[], []], Z ++ [0, 0], len + 2, k1⟩, ⟨⟨oN ++ [[], []], oT ++ [[], []], oB ++ [0, 0], oO ++ [73, 74], ol + 2, k2⟩, q ++ [75, 76], ql + 2, k3⟩), ⟨tf, td, ⟨K, N, P, S, Z, len, cap⟩⟩), ?_⟩
  simp only [A, B, C, true_and]
  have hd : PL.HdIn (⟨K ++ [71, 72], N ++ [0, 0], P ++ [0, 0], S ++ [[], []], Z ++ [0, 0], len + 2, k1⟩, ⟨⟨oN ++ [[], []], oT ++ [[], []], oB ++ [0, 0], oO ++ [73, 74], ol + 2, k2⟩, q ++ [75, 76], ql + 2, k3⟩) :=
    ⟨by simp only; omega, by simp only; omega, by simp only; omega⟩
  refine ⟨⟨hd⟩, (⟨K ++ [71, 72], N ++ [0, 0], P ++ [0, 0], S ++ [[], []], Z ++ [0, 0], len + 2, k1⟩, ⟨⟨oN ++ [[], []], oT ++ [[], []], oB ++ [0, 0], oO ++ [73, 74], ol + 2, k2⟩, q ++ [75, 76], ql + 2, k3⟩), ?_⟩
  simp only [true_and]
  refine ⟨hd, ?_⟩
  have e1 : len + 2 - 2 = len := by omega
  have e2 : ol + 2 - 2 = ol := by omega
  have e3 : ql + 2 - 2 = ql := by omega
  simp only [e1, e2, e3, PL.sub_app n1, PL.sub_app n2, PL.sub_app n3, PL.sub_app n4, PL.sub_app n5, PL.sub_app o1, PL.sub_app o2, PL.sub_app o3, PL.sub_app o4, PL.sub_app q1]
  have r1 : 0 + len ≤ len + 2 := by omega
  have r2 : 0 + ol ≤ ol + 2 := by omega
  have r3 : 0 + ql ≤ ql + 2 := by omega
  have r4 : 0 + (len + 2) ≤ len + 2 := by omega
  have r5 : 0 + (ol + 2) ≤ ol + 2 := by omega
  have r6 : 0 + (ql + 2) ≤ ql + 2 := by omega
  simp only [PL.len2 n1, PL.len2 n2, PL.len2 n3, PL.len2 n4, PL.len2 n5, PL.len2 o1, PL.len2 o2, PL.len2 o3, PL.len2 o4, PL.len2 q1, PL.sub2 n1, PL.sub2 n2, PL.sub2 n3, PL.sub2 n4, PL.sub2 n5, PL.sub2 o1, PL.sub2 o2, PL.sub2 o3, PL.sub2 o4, PL.sub2 q1, r1, r2, r3, r4, r5, r6, Int.le_refl, true_and]
  refine ⟨(c, ⟨tf, td, ⟨K, N, P, S, Z, len, k1⟩⟩, ⟨⟨oN, oT, oB, oO, ol, k2⟩, q, ql, k3⟩), ?_⟩
  simp only [true_and]
  refine ⟨⟨⟨n1, n2, n3, n4, n5, n6⟩, fun hc => PL.poolIn_of ⟨⟨o1, o2, o3, o4, o5⟩, q1, q2⟩ hc⟩, fun d hd5 => ?_⟩
  refine ⟨(c, ⟨tf, td, ⟨K, N, P, S, Z, len, cap⟩⟩, ⟨⟨oN, oT, oB, oO, ol, oc⟩, q, ql, qc⟩), ?_⟩
  simp only [true_and]
  refine ⟨⟨hn, fun hc => PL.poolIn_of hp hc⟩, fun d2 hd6 => ?_⟩
  obtain ⟨eL, eE⟩ := PL.enc_cap (c := c) (tf := tf) (td := td) (K := K) (N := N) (P := P) (S := S) (Z := Z) (len := len) (cap := cap) (oN := oN) (oT := oT) (oB := oB) (oO := oO) (ol := ol) (oc := oc) (q := q) (ql := ql) (qc := qc) k1 k2 k3
  rw [← eL, ← eE]
  generalize hEL : PL.encL (c, ⟨tf, td, ⟨K, N, P, S, Z, len, cap⟩⟩, ⟨⟨oN, oT, oB, oO, ol, oc⟩, q, ql, qc⟩) = EL
  have s0 : (EL.drop (Int.toNat 0)).take (Int.toNat (EL.length : Int)) = EL := by simp
  have s1 : 0 + (EL.length : Int) ≤ (EL.length : Int) := by omega
  have sz : (EL.length : Int) ≤ 140737488351232 := by
    rw [← hEL]
    by_cases h : PL.EOK (c, ⟨tf, td, ⟨K, N, P, S, Z, len, cap⟩⟩, ⟨⟨oN, oT, oB, oO, ol, oc⟩, q, ql, qc⟩)
    · rw [PL.encL_ok h, PL.pieces_len]
      have := h.cfg.pages
      simp only at this ⊢
      omega
    · rw [PL.encL_no h]
      simp
  refine ⟨(⟨EL, EL.length, EL.length⟩, ⟨EL, EL.length, d2⟩), ?_⟩
  simp only [s0, s1, true_and, forall_const, not_true_eq_false, not_false_eq_true, and_true]
  refine ⟨⟨rfl, rfl, sz⟩, ?_⟩
  refine ⟨(⟨tf, td, ⟨K, N, P, S, Z, len, cap⟩⟩, ⟨⟨oN, oT, oB, oO, ol, oc⟩, q, ql, qc⟩, k1, k2, k3), ?_⟩
  simp only [A, B, C, true_and]
  exact ⟨hn, hp, y1, y2, y3⟩
end Go.Eng
