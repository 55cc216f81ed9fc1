/- Index: anew. -/
import Derived.Test.YtfcjboomlfjanaaDoorIxL
import Derived.Test.YtfcjboomlfjanaaDoorIxJ
import Derived.Test.YtfcjboomlfjanaaDoorIxI
set_option linter.unusedVariables false
set_option linter.unusedSimpArgs false
/- Index: a state's pages do not hang on its lists' capacities. -/
set_option linter.unusedVariables false
namespace Go.PL
theorem slot_cap {K N P : List Int} {S : List (List UInt8)} {Z : List Int} {len cap cap' : Int} (v : Int) (w : Nat) : slot ⟨K, N, P, S, Z, len, cap⟩ v w = slot ⟨K, N, P, S, Z, len, cap'⟩ v w := rfl
theorem dirsS_cap {K N P : List Int} {S : List (List UInt8)} {Z : List Int} {len cap : Int} (cap' : Int) : ∀ k, dirsS ⟨K, N, P, S, Z, len, cap⟩ k = dirsS ⟨K, N, P, S, Z, len, cap'⟩ k
  | 0 => rfl
  | k + 1 => by rw [dirsS, dirsS, dirsS_cap cap' k, slot_cap]
theorem filesS_cap {K N P : List Int} {S : List (List UInt8)} {Z : List Int} {len cap : Int} (cap' : Int) : ∀ k, filesS ⟨K, N, P, S, Z, len, cap⟩ k = filesS ⟨K, N, P, S, Z, len, cap'⟩ k
  | 0 => rfl
  | k + 1 => by rw [filesS, filesS, filesS_cap cap' k, slot_cap]
theorem objsL_cap {N T : List (List UInt8)} {B O : List Int} {len cap : Int} (cap' : Int) : ∀ k, objsL ⟨N, T, B, O, len, cap⟩ k = objsL ⟨N, T, B, O, len, cap'⟩ k
  | 0 => rfl
  | k + 1 => by rw [objsL, objsL, objsL_cap cap' k]; rfl
theorem fullS_cap {c : Cfg} {tf td : Int} {K N P : List Int} {S : List (List UInt8)} {Z : List Int} {len cap : Int} {oN oT : List (List UInt8)} {oB oO : List Int} {ol oc : Int} {q : List Int} {ql qc : Int} (k1 k2 k3 : Int) :
    fullS c ⟨tf, td, ⟨K, N, P, S, Z, len, cap⟩⟩ ⟨⟨oN, oT, oB, oO, ol, oc⟩, q, ql, qc⟩ = fullS c ⟨tf, td, ⟨K, N, P, S, Z, len, k1⟩⟩ ⟨⟨oN, oT, oB, oO, ol, k2⟩, q, ql, k3⟩ := by
  simp only [fullS, imgS, dirsS_cap (cap := cap) k1, filesS_cap (cap := cap) k1, objsL_cap (cap := oc) k2]
theorem treeOK_cap {c : Cfg} {tf td : Int} {K N P : List Int} {S : List (List UInt8)} {Z : List Int} {len cap : Int} (k1 : Int) : TreeOK c ⟨tf, td, ⟨K, N, P, S, Z, len, cap⟩⟩ ↔ TreeOK c ⟨tf, td, ⟨K, N, P, S, Z, len, k1⟩⟩ :=
  ⟨fun ⟨h1, h2, ⟨h3, h4, h5⟩⟩ => ⟨h1, h2, ⟨h3, h4, h5⟩⟩, fun ⟨h1, h2, ⟨h3, h4, h5⟩⟩ => ⟨h1, h2, ⟨h3, h4, h5⟩⟩⟩
theorem poolOK_cap {c : Cfg} {oN oT : List (List UInt8)} {oB oO : List Int} {ol oc : Int} {q : List Int} {ql qc : Int} (k2 k3 : Int) : PoolOK c ⟨⟨oN, oT, oB, oO, ol, oc⟩, q, ql, qc⟩ ↔ PoolOK c ⟨⟨oN, oT, oB, oO, ol, k2⟩, q, ql, k3⟩ :=
  ⟨fun ⟨h1, h2, ⟨h3, h4⟩, h5⟩ => ⟨h1, h2, ⟨h3, fun j hj => ⟨(h4 j hj).n, (h4 j hj).t, (h4 j hj).b, (h4 j hj).o⟩⟩, h5⟩, fun ⟨h1, h2, ⟨h3, h4⟩, h5⟩ => ⟨h1, h2, ⟨h3, fun j hj => ⟨(h4 j hj).n, (h4 j hj).t, (h4 j hj).b, (h4 j hj).o⟩⟩, h5⟩⟩
theorem enc_cap {c : Cfg} {tf td : Int} {K N P : List Int} {S : List (List UInt8)} {Z : List Int} {len cap : Int} {oN oT : List (List UInt8)} {oB oO : List Int} {ol oc : Int} {q : List Int} {ql qc : Int} (k1 k2 k3 : Int) :
    encL (c, ⟨tf, td, ⟨K, N, P, S, Z, len, cap⟩⟩, ⟨⟨oN, oT, oB, oO, ol, oc⟩, q, ql, qc⟩) = encL (c, ⟨tf, td, ⟨K, N, P, S, Z, len, k1⟩⟩, ⟨⟨oN, oT, oB, oO, ol, k2⟩, q, ql, k3⟩) ∧
    encErr (c, ⟨tf, td, ⟨K, N, P, S, Z, len, cap⟩⟩, ⟨⟨oN, oT, oB, oO, ol, oc⟩, q, ql, qc⟩) = encErr (c, ⟨tf, td, ⟨K, N, P, S, Z, len, k1⟩⟩, ⟨⟨oN, oT, oB, oO, ol, k2⟩, q, ql, k3⟩) := by
  have ht := treeOK_cap (c := c) (tf := tf) (td := td) (K := K) (N := N) (P := P) (S := S) (Z := Z) (len := len) (cap := cap) k1
  have hp := poolOK_cap (c := c) (oN := oN) (oT := oT) (oB := oB) (oO := oO) (ol := ol) (oc := oc) (q := q) (ql := ql) (qc := qc) k2 k3
  constructor
  · by_cases h : EOK (c, ⟨tf, td, ⟨K, N, P, S, Z, len, cap⟩⟩, ⟨⟨oN, oT, oB, oO, ol, oc⟩, q, ql, qc⟩)
    · have h' : EOK (c, ⟨tf, td, ⟨K, N, P, S, Z, len, k1⟩⟩, ⟨⟨oN, oT, oB, oO, ol, k2⟩, q, ql, k3⟩) := ⟨h.cfg, ht.1 h.tree, hp.1 h.pool⟩
      rw [encL_ok h, encL_ok h']
      simp only
      rw [fullS_cap k1 k2 k3]
    · have h' : ¬ EOK (c, ⟨tf, td, ⟨K, N, P, S, Z, len, k1⟩⟩, ⟨⟨oN, oT, oB, oO, ol, k2⟩, q, ql, k3⟩) := fun h' => h ⟨h'.cfg, ht.2 h'.tree, hp.2 h'.pool⟩
      rw [encL_no h, encL_no h']
  · unfold encErr
    simp only
    by_cases hc : CfgOK c
    · rw [if_pos hc, if_pos hc]
      by_cases a : TreeOK c ⟨tf, td, ⟨K, N, P, S, Z, len, cap⟩⟩
      · rw [if_pos a, if_pos (ht.1 a)]
        by_cases b : PoolOK c ⟨⟨oN, oT, oB, oO, ol, oc⟩, q, ql, qc⟩
        · rw [if_pos b, if_pos (hp.1 b)]
        · rw [if_neg b, if_neg (fun h => b (hp.2 h))]
      · rw [if_neg a, if_neg (fun h => a (ht.2 h))]
    · rw [if_neg hc, if_neg hc]
end Go.PL
/- Index: what is read is what was written (for IndexOwn). -/
namespace Go.PL
theorem tree_eq {c : Cfg} {t : Tree} {p : Pool} {s : List UInt8} (R : Reads c t p s) (a : Int) : treeP s c a = ⟨t.files, t.dirs, ⟨t.nods.K, t.nods.N, t.nods.P, t.nods.S, t.nods.Z, t.nods.len, a⟩⟩ := by
  obtain ⟨h1, h2, ⟨h3, h4, h5, h6, h7⟩⟩ := R.tree a
  rw [h1, h2, h3, h4, h5, h6, h7, ← R.len]
  rfl
theorem pool_eq {c : Cfg} {t : Tree} {p : Pool} {s : List UInt8} (R : Reads c t p s) (hp : p.objs.len = rowsC c) (b d : Int) : poolP s c b d = ⟨⟨p.objs.N, p.objs.T, p.objs.B, p.objs.O, p.objs.len, b⟩, p.q, p.qlen, d⟩ := by
  obtain ⟨h1, h2, h3, h4, h5⟩ := R.pool b d
  have h6 : cntP s c = p.qlen := (cnt_same R.good).2.trans R.cnt
  rw [h1, h2, h3, h4, h5, hp, ← h6]
  rfl
theorem enc_dec {c : Cfg} {t : Tree} {p : Pool} (h : EOK (c, t, p)) (hn : NodsOK t.nods) (hpi : PoolIn (c, p)) :
    Shaped c (encL (c, t, p)) ∧ (encL (c, t, p)).flatten = fullS c t p ∧ DcOK c (encL (c, t, p)) ∧ Reads c t p (fullS c t p) := by
  have hC := h.cfg
  have hci := hC.ok
  simp only at hC hci
  obtain ⟨c1, c2, c3, c4, c5, c6⟩ := id hci
  obtain ⟨f1, f2, f3⟩ := full_fits hC
  have hpr := pages_range hC
  have hI : ImgIn (c, t, p) := ⟨hci, hn, hpi, h.tree, h.pool⟩
  have hlen := imgS_len hI
  simp only at hlen
  have hsl : ((fullS c t p).length : Int) = pagesI c * (c.page - 5) := by simp only [fullS, List.length_append, zs, List.length_replicate]; omega
  obtain ⟨b, hb⟩ : ∃ b : Nat, c.page - 5 = (b : Int) := ⟨(c.page - 5).toNat, by omega⟩
  have hL : encL (c, t, p) = pieces (fullS c t p) b (pagesI c).toNat := by rw [encL_ok h]; simp only [hb, Int.toNat_natCast]
  have hN : ((pagesI c).toNat : Int) = pagesI c := by omega
  have hlb : (fullS c t p).length = (pagesI c).toNat * b := by
    have : ((fullS c t p).length : Int) = (((pagesI c).toNat * b : Nat) : Int) := by rw [hsl, hb, Int.natCast_mul, hN]
    exact Int.ofNat.inj this
  have hS : Shaped c (encL (c, t, p)) := by
    rw [hL]
    refine ⟨by rw [pieces_len]; exact hN, ⟨fun j hj => ?_⟩⟩
    rw [pieces_len] at hj
    rw [pieces, getD_range _ hj, hb]
    have : (j + 1) * b ≤ (pagesI c).toNat * b := Nat.mul_le_mul_right _ hj
    rw [Nat.succ_mul] at this
    simp only [List.length_take, List.length_drop]
    omega
  have hF : (encL (c, t, p)).flatten = fullS c t p := by rw [hL, flat_pieces, List.take_of_length_le (by omega)]
  have R := reads hC hn h.tree hpi h.pool
  have ht := h.tree
  have hp := h.pool
  simp only at ht hp
  refine ⟨hS, hF, ⟨hC, hS.n, hS.all, by rw [hF]; exact R.good, ?_, ?_⟩, R⟩
  · rw [hF, tree_eq R]
    exact ⟨ht.files, ht.dirs, ⟨ht.up.le, ht.up.all, ht.up.up⟩⟩
  · rw [hF, pool_eq R hp.len]
    exact ⟨hp.len, hp.qlen, ⟨hp.objs.le, fun j hj => ⟨(hp.objs.all j hj).n, (hp.objs.all j hj).t, (hp.objs.all j hj).b, (hp.objs.all j hj).o⟩⟩, ⟨hp.q.le, hp.q.all⟩⟩
theorem dec_same {c : Cfg} {t : Tree} {p : Pool} {n k : Int} {u : (Tree × Pool) × Int × Int × Int} (hF : (encL (c, t, p)).flatten = fullS c t p) (hD : DcOK c (encL (c, t, p))) (R : Reads c t p (fullS c t p)) (hu : DcPost (c, ⟨encL (c, t, p), n, k⟩) u) : SameT t u.1.1 ∧ SameP p u.1.2 := by
  rcases hu.ex with ⟨_, a, b, d, _, _, _, _, _, _, e⟩ | ⟨h, _⟩
  · simp only [hF] at e
    rw [e]
    exact ⟨R.tree a, R.pool b d⟩
  · exact absurd hD h
structure LbIn (x : Cfg × Nums × Nums) : Prop where
  cfg : CfgI64 x.1
  a : NumsOK x.2.1
  b : NumsOK x.2.2
theorem mt_eok {c : Cfg} (hC : CfgOK c) {a b : Nums} {y : Nods} {z : Pool} (hy : MtPost (c, a) y) (hz : MpPost (c, b) z) : EOK (c, ⟨c.files, c.dirs, y⟩, z) := ⟨hC, hy.fits, hz.fits⟩
end Go.PL
set_option linter.unusedSectionVars false
set_option linter.unusedSimpArgs false
set_option linter.unusedVariables false
namespace Go.Eng
variable [CW : CWorld]
open Go.Proofs Go.PL
set_option maxRecDepth 100000
attribute [local irreducible] run
noncomputable def okSpecs : Specs := fun f a h => match f with
  | 2 => some lateMark
  | 16 => some madeSpec
  | 17 => some mtSpec
  | 18 => some mpSpec
  | 19 => some encI
  | 10 => some dkSpec
  | 12 => some stree
  | 13 => some spool
  | 15 => some stSpec
  | _ => cSpecs f a h
theorem okSpecs_ok : SpecsOK PP okSpecs := by
  intro CW f xs _ S h
  unfold okSpecs at h
  split at h
  · cases h; exact lateMark_ok
  · cases h; exact madeSpec_ok
  · cases h; exact mtSpec_ok
  · cases h; exact mpSpec_ok
  · cases h; exact encI_ok
  · cases h; exact dk_ok
  · cases h; exact stree_ok
  · cases h; exact spool_ok
  · cases h; exact stSpec_ok
  · exact cSpecs_ok CW _ _ _ _ h
theorem ex_cfg6 {a b c d e f : Int} {Q : Cfg → Prop} : (∃ y : Cfg, a = y.slots ∧ b = y.files ∧ c = y.dirs ∧ d = y.most ∧ e = y.least ∧ f = y.page ∧ Q y) ↔ Q ⟨a, b, c, d, e, f⟩ := by
  constructor
  · rintro ⟨⟨a, b, c, d, e, f⟩, h1, h2, h3, h4, h5, h6, h⟩
    simp only at h1 h2 h3 h4 h5 h6
    subst h1 h2 h3 h4 h5 h6
    exact h
  · exact fun h => ⟨_, rfl, rfl, rfl, rfl, rfl, rfl, h⟩
theorem ex_cn {a b c d e f n k : Int} {l : List Int} {Q : Cfg × Nums → Prop} : (∃ y : Cfg × Nums, a = y.1.slots ∧ b = y.1.files ∧ c = y.1.dirs ∧ d = y.1.most ∧ e = y.1.least ∧ f = y.1.page ∧ l = y.2.l ∧ n = y.2.len ∧ k = y.2.cap ∧ Q y) ↔ Q (⟨a, b, c, d, e, f⟩, ⟨l, n, k⟩) := by
  constructor
  · rintro ⟨⟨⟨a, b, c, d, e, f⟩, ⟨l, n, k⟩⟩, h1, h2, h3, h4, h5, h6, h7, h8, h9, h⟩
    simp only at h1 h2 h3 h4 h5 h6 h7 h8 h9
    subst h1 h2 h3 h4 h5 h6 h7 h8 h9
    exact h
  · exact fun h => ⟨_, rfl, rfl, rfl, rfl, rfl, rfl, rfl, rfl, rfl, h⟩
theorem ex_ct6 {a b c d e f n k : Int} {l : List (List UInt8)} {Q : Cfg × Txts → Prop} : (∃ y : Cfg × Txts, a = y.1.slots ∧ b = y.1.files ∧ c = y.1.dirs ∧ d = y.1.most ∧ e = y.1.least ∧ f = y.1.page ∧ l = y.2.l ∧ n = y.2.len ∧ k = y.2.cap ∧ Q y) ↔ Q (⟨a, b, c, d, e, f⟩, ⟨l, n, k⟩) := by
  constructor
  · rintro ⟨⟨⟨a, b, c, d, e, f⟩, ⟨l, n, k⟩⟩, h1, h2, h3, h4, h5, h6, h7, h8, h9, h⟩
    simp only at h1 h2 h3 h4 h5 h6 h7 h8 h9
    subst h1 h2 h3 h4 h5 h6 h7 h8 h9
    exact h
  · exact fun h => ⟨_, rfl, rfl, rfl, rfl, rfl, rfl, rfl, rfl, rfl, h⟩
theorem made_eta (c : Cfg) : (⟨1 + c.slots % 64, 1 + c.files % 64, c.dirs % 64, c.most % 65537, 16 + c.least % 65521, 64 + c.page % 1024⟩ : Cfg) = made c := rfl
theorem take_self (l : List (List UInt8)) : List.take l.length (List.drop (Int.toNat 0) l) = l := by simp
end Go.Eng
namespace Go.PL
def setI (v : Int) (l : List Int) (i : Nat) : List Int := List.replicate i v ++ l.drop i
def setR (l : List (List UInt8)) (i : Nat) : List (List UInt8) := l.reverse.take i ++ l.drop i
structure AnIn (x : Cfg × Nods × Pool × Txts) : Prop where
  ok : EOK (x.1, ⟨x.1.files, x.1.dirs, x.2.1⟩, x.2.2.1)
  nods : NodsOK x.2.1
  pool : PoolIn (x.1, x.2.2.1)
  l : x.2.2.2.l = encL (x.1, ⟨x.1.files, x.1.dirs, x.2.1⟩, x.2.2.1)
  len : (x.2.2.2.l.length : Int) = x.2.2.2.len
  small : x.2.1.len ≤ 1000000
structure An1 (x : Cfg × Nods × Pool × Txts) (i : Nat) : Prop where
  le : (i : Int) ≤ x.2.1.len
structure An2 (x : Cfg × Nods × Pool × Txts) (i : Nat) : Prop where
  le : (i : Int) ≤ x.2.2.1.objs.len
structure An3 (x : Cfg × Nods × Pool × Txts) (i : Int × Int × Int) : Prop where
  a : x.2.1.len ≤ i.1
  b : x.2.2.1.objs.len ≤ i.2.1
  d : x.2.2.1.qlen ≤ i.2.2
structure An4 (x : Cfg × Nods × Pool × Txts) (i : Nat × Int) : Prop where
  le : i.1 ≤ x.2.2.2.l.length
  cap : x.2.2.2.len ≤ i.2
def zNods (n : Nods) (i : Nat) (cap : Int) : Nods := ⟨n.K, n.N, n.P, n.S, setI 0 n.Z i, n.len, cap⟩
def mObjs (o : Objs) (i : Nat) (cap : Int) : Objs := ⟨o.N, o.T, o.B, setI (-1) o.O i, o.len, cap⟩
theorem setI_zero (v : Int) (l : List Int) : setI v l 0 = l := by simp [setI]
theorem setI_len {v : Int} {l : List Int} {i : Nat} (h : i ≤ l.length) : (setI v l i).length = l.length := by simp [setI]; omega
theorem setI_set {v : Int} {l : List Int} {i : Nat} (h : i < l.length) : (setI v l i).set i v = setI v l (i + 1) := by
  have h1 : (List.replicate i v).length = i := List.length_replicate
  rw [setI, List.set_append_right _ _ (by omega), h1, Nat.sub_self, List.drop_eq_getElem_cons h, List.set_cons_zero, setI, List.replicate_succ', List.append_assoc]
  rfl
theorem setR_zero (l : List (List UInt8)) : setR l 0 = l := by simp [setR]
theorem setR_len {l : List (List UInt8)} {i : Nat} (h : i ≤ l.length) : (setR l i).length = l.length := by simp [setR]; omega
theorem setR_set {l : List (List UInt8)} {i : Nat} (h : i < l.length) : (setR l i).set i (l.getD (l.length - 1 - i) []) = setR l (i + 1) := by
  have h1 : (l.reverse.take i).length = i := by simp; omega
  have h2 : l.reverse.take (i + 1) = l.reverse.take i ++ [l.getD (l.length - 1 - i) []] := by
    rw [List.take_add_one, List.getElem?_reverse h, List.getD_eq_getElem?_getD, List.getElem?_eq_getElem (by omega)]
    rfl
  rw [setR, List.set_append_right _ _ (by omega), h1, Nat.sub_self, List.drop_eq_getElem_cons h, List.set_cons_zero, setR, h2, List.append_assoc]
  rfl
theorem encL_le {x : Cfg × Tree × Pool} (h : CfgOK x.1) : ((encL x).length : Int) ≤ 1000000 := by
  have h2 := h.pages
  by_cases e : EOK x
  · rw [encL_ok e, pieces_len]; omega
  · rw [encL_no e]; simp
theorem ex_enc {a b c d e f tf td nl nc ol oc ql qc : Int} {K N P Z B O q : List Int} {S oN oT : List (List UInt8)} {Q : Cfg × Tree × Pool → Prop} :
    (∃ y : Cfg × Tree × Pool, a = y.1.slots ∧ b = y.1.files ∧ c = y.1.dirs ∧ d = y.1.most ∧ e = y.1.least ∧ f = y.1.page ∧ tf = y.2.1.files ∧ td = y.2.1.dirs ∧ K = y.2.1.nods.K ∧ N = y.2.1.nods.N ∧ P = y.2.1.nods.P ∧ S = y.2.1.nods.S ∧ Z = y.2.1.nods.Z ∧ nl = y.2.1.nods.len ∧ nc = y.2.1.nods.cap ∧
      oN = y.2.2.objs.N ∧ oT = y.2.2.objs.T ∧ B = y.2.2.objs.B ∧ O = y.2.2.objs.O ∧ ol = y.2.2.objs.len ∧ oc = y.2.2.objs.cap ∧ q = y.2.2.q ∧ ql = y.2.2.qlen ∧ qc = y.2.2.qcap ∧ Q y) ↔ Q (⟨a, b, c, d, e, f⟩, ⟨tf, td, ⟨K, N, P, S, Z, nl, nc⟩⟩, ⟨⟨oN, oT, B, O, ol, oc⟩, q, ql, qc⟩) := by
  constructor
  · rintro ⟨⟨⟨_, _, _, _, _, _⟩, ⟨_, _, ⟨_, _, _, _, _, _, _⟩⟩, ⟨⟨_, _, _, _, _, _⟩, _, _, _⟩⟩, h1, h2, h3, h4, h5, h6, h7, h8, h9, h10, h11, h12, h13, h14, h15, h16, h17, h18, h19, h20, h21, h22, h23, h24, h⟩
    simp only at h1 h2 h3 h4 h5 h6 h7 h8 h9 h10 h11 h12 h13 h14 h15 h16 h17 h18 h19 h20 h21 h22 h23 h24
    subst h1 h2 h3 h4 h5 h6 h7 h8 h9 h10 h11 h12 h13 h14 h15 h16 h17 h18 h19 h20 h21 h22 h23 h24
    exact h
  · exact fun h => ⟨_, rfl, rfl, rfl, rfl, rfl, rfl, rfl, rfl, rfl, rfl, rfl, rfl, rfl, rfl, rfl, rfl, rfl, rfl, rfl, rfl, rfl, rfl, rfl, rfl, h⟩
theorem ex_trees {af ad bf bd al ac bl bc : Int} {K N P Z K' N' P' Z' : List Int} {S S' : List (List UInt8)} {Q : Tree × Tree → Prop} :
    (∃ y : Tree × Tree, af = y.1.files ∧ ad = y.1.dirs ∧ K = y.1.nods.K ∧ N = y.1.nods.N ∧ P = y.1.nods.P ∧ S = y.1.nods.S ∧ Z = y.1.nods.Z ∧ al = y.1.nods.len ∧ ac = y.1.nods.cap ∧
      bf = y.2.files ∧ bd = y.2.dirs ∧ K' = y.2.nods.K ∧ N' = y.2.nods.N ∧ P' = y.2.nods.P ∧ S' = y.2.nods.S ∧ Z' = y.2.nods.Z ∧ bl = y.2.nods.len ∧ bc = y.2.nods.cap ∧ Q y) ↔ Q (⟨af, ad, ⟨K, N, P, S, Z, al, ac⟩⟩, ⟨bf, bd, ⟨K', N', P', S', Z', bl, bc⟩⟩) := by
  constructor
  · rintro ⟨⟨⟨_, _, ⟨_, _, _, _, _, _, _⟩⟩, ⟨_, _, ⟨_, _, _, _, _, _, _⟩⟩⟩, h1, h2, h3, h4, h5, h6, h7, h8, h9, h10, h11, h12, h13, h14, h15, h16, h17, h18, h⟩
    simp only at h1 h2 h3 h4 h5 h6 h7 h8 h9 h10 h11 h12 h13 h14 h15 h16 h17 h18
    subst h1 h2 h3 h4 h5 h6 h7 h8 h9 h10 h11 h12 h13 h14 h15 h16 h17 h18
    exact h
  · exact fun h => ⟨_, rfl, rfl, rfl, rfl, rfl, rfl, rfl, rfl, rfl, rfl, rfl, rfl, rfl, rfl, rfl, rfl, rfl, rfl, h⟩
theorem ex_pools {al ac bl bc ql qc rl rc : Int} {B O B' O' q r : List Int} {N T N' T' : List (List UInt8)} {Q : Pool × Pool → Prop} :
    (∃ y : Pool × Pool, N = y.1.objs.N ∧ T = y.1.objs.T ∧ B = y.1.objs.B ∧ O = y.1.objs.O ∧ al = y.1.objs.len ∧ ac = y.1.objs.cap ∧ q = y.1.q ∧ ql = y.1.qlen ∧ qc = y.1.qcap ∧
      N' = y.2.objs.N ∧ T' = y.2.objs.T ∧ B' = y.2.objs.B ∧ O' = y.2.objs.O ∧ bl = y.2.objs.len ∧ bc = y.2.objs.cap ∧ r = y.2.q ∧ rl = y.2.qlen ∧ rc = y.2.qcap ∧ Q y) ↔ Q (⟨⟨N, T, B, O, al, ac⟩, q, ql, qc⟩, ⟨⟨N', T', B', O', bl, bc⟩, r, rl, rc⟩) := by
  constructor
  · rintro ⟨⟨⟨⟨_, _, _, _, _, _⟩, _, _, _⟩, ⟨⟨_, _, _, _, _, _⟩, _, _, _⟩⟩, h1, h2, h3, h4, h5, h6, h7, h8, h9, h10, h11, h12, h13, h14, h15, h16, h17, h18, h⟩
    simp only at h1 h2 h3 h4 h5 h6 h7 h8 h9 h10 h11 h12 h13 h14 h15 h16 h17 h18
    subst h1 h2 h3 h4 h5 h6 h7 h8 h9 h10 h11 h12 h13 h14 h15 h16 h17 h18
    exact h
  · exact fun h => ⟨_, rfl, rfl, rfl, rfl, rfl, rfl, rfl, rfl, rfl, rfl, rfl, rfl, rfl, rfl, rfl, rfl, rfl, rfl, h⟩
theorem ex_txts {l m : List (List UInt8)} {n k n' k' : Int} {Q : Txts × Txts → Prop} : (∃ y : Txts × Txts, l = y.1.l ∧ n = y.1.len ∧ k = y.1.cap ∧ m = y.2.l ∧ n' = y.2.len ∧ k' = y.2.cap ∧ Q y) ↔ Q (⟨l, n, k⟩, ⟨m, n', k'⟩) := by
  constructor
  · rintro ⟨⟨⟨a1, a2, a3⟩, ⟨b1, b2, b3⟩⟩, h1, h2, h3, h4, h5, h6, h⟩
    simp only at h1 h2 h3 h4 h5 h6
    subst h1 h2 h3 h4 h5 h6
    exact h
  · exact fun h => ⟨_, rfl, rfl, rfl, rfl, rfl, rfl, h⟩
end Go.PL
set_option linter.unusedSectionVars false
set_option linter.unusedSimpArgs false
set_option linter.unusedVariables false
namespace Go.Eng
variable [CW : CWorld]
open Go.Proofs Go.PL
set_option maxRecDepth 100000
attribute [local irreducible] run
def treeT (n : Nat) (t : Tree) : Blk := .mk 28 [.one (.int .i64 (.x t.files)), .one (.int .i64 (.x t.dirs)), .one (.slc n (.l 0) (.x t.nods.len) (.x t.nods.cap))]
def poolT (n m : Nat) (p : Pool) : Blk := .mk 32 [.one (.slc n (.l 0) (.x p.objs.len) (.x p.objs.cap)), .one (.slc m (.l 0) (.x p.qlen) (.x p.qcap))]
def an1 (x : Cfg × Nods × Pool × Txts) : Code → List SV → List Blk → List Inv := fun b fr hp => [
  { ι := Nat, fr := fun i => only b fr 11 [] [(11, .int .i64 (.x (i : Int)))],
    hp := fun i => nodsB (PL.zNods x.2.1 i x.2.1.cap) :: hp.drop 1, μ := fun i => x.2.1.len.toNat - i, ok := fun i => PL.An1 x i }]
def an2 (x : Cfg × Nods × Pool × Txts) : Code → List SV → List Blk → List Inv := fun b fr hp => [
  { ι := Nat, fr := fun i => only b fr 11 [] [(12, .int .i64 (.x (i : Int)))],
    hp := fun i => nodsB (PL.zNods x.2.1 x.2.1.len.toNat x.2.1.cap) :: objsB (PL.mObjs x.2.2.1.objs i x.2.2.1.objs.cap) :: hp.drop 2, μ := fun i => x.2.2.1.objs.len.toNat - i, ok := fun i => PL.An2 x i }]
def an3 (x : Cfg × Nods × Pool × Txts) : Code → List SV → List Blk → List Inv := fun b fr hp => [
  { ι := Int × Int × Int, fr := fun i => only b fr 11 [] [(13, .ptr 8 (.l 0)), (14, .ptr 10 (.l 0))],
    hp := fun i => nodsB (PL.zNods x.2.1 x.2.1.len.toNat x.2.1.cap) :: objsB (PL.mObjs x.2.2.1.objs x.2.2.1.objs.len.toNat x.2.2.1.objs.cap) :: ((hp.drop 2).take 6 ++ [treeT 9 ⟨x.1.files, x.1.dirs, PL.zNods x.2.1 x.2.1.len.toNat i.1⟩, nodsB (PL.zNods x.2.1 x.2.1.len.toNat i.1),
      poolT 11 12 ⟨PL.mObjs x.2.2.1.objs x.2.2.1.objs.len.toNat i.2.1, x.2.2.1.q, x.2.2.1.qlen, i.2.2⟩, objsB (PL.mObjs x.2.2.1.objs x.2.2.1.objs.len.toNat i.2.1), qB x.2.2.1.q i.2.2]), μ := fun i => 0, ok := fun i => PL.An3 x i }]
def an4 (x : Cfg × Nods × Pool × Txts) : Code → List SV → List Blk → List Inv := fun b fr hp => [
  { ι := Nat × Int, fr := fun i => only b fr 0 [3, 4, 8] [(19, .slc 5 (.l 0) (.x x.2.2.2.len) (.x i.2)), (20, .int .i64 (.x (i.1 : Int)))],
    hp := fun i => [.gone, .gone, .gone, hp.getD 3 .gone, hp.getD 4 .gone, strsB (PL.setR x.2.2.2.l i.1) i.2], μ := fun i => x.2.2.2.l.length - i.1, ok := fun i => PL.An4 x i }]
def anInvs (x : Cfg × Nods × Pool × Txts) : Invs := fun f n => match f, n with
  | 20, 3 => some (an1 x)
  | 20, 7 => some (an2 x)
  | 20, 1000011 => some (an3 x)
  | 20, 19 => some (an4 x)
  | _, _ => none
def anSpec : Spec where
  X := Cfg × Nods × Pool × Txts
  A x := [.agg (cfgL x.1), .agg [.int .i64 (.x x.1.files), .int .i64 (.x x.1.dirs), .slc 0 (.l 0) (.x x.2.1.len) (.x x.2.1.cap)], .agg [.slc 1 (.l 0) (.x x.2.2.1.objs.len) (.x x.2.2.1.objs.cap), .slc 2 (.l 0) (.x x.2.2.1.qlen) (.x x.2.2.1.qcap)],
    .slc 3 (.l 0) (.x x.2.2.2.len) (.x x.2.2.2.cap)]
  H x := [nodsB x.2.1, objsB x.2.2.1.objs, qB x.2.2.1.q x.2.2.1.qcap, strsB x.2.2.2.l x.2.2.2.cap]
  pre x := PL.AnIn x
  outs := [{ Y _ := Unit, post _ _ := True, R _ _ := .bool (.l true), H' _ _ := [.gone, .gone, .gone, .gone] }]
def an_vc (ar : AR) (x : anSpec.X) : Prop :=
 ∃ x_1 : Cfg × Tree × Pool, x.1.slots = x_1.1.slots ∧ x.1.files = x_1.1.files ∧ x.1.dirs = x_1.1.dirs ∧ x.1.most = x_1.1.most ∧ x.1.least = x_1.1.least ∧ x.1.page = x_1.1.page ∧ x.1.files = x_1.2.1.files ∧ x.1.dirs = x_1.2.1.dirs ∧ ar.le 0
 0 ∧ ar.le (ar.add 0 x.2.1.len) (ar.ilen x.2.1.K) ∧ ar.le (ar.add 0 x.2.1.len) (ar.ilen x.2.1.N) ∧ ar.le (ar.add 0 x.2.1.len) (ar.ilen x.2.1.P) ∧ ar.le (ar.add 0 x.2.1.len) (ar.tlen x.2.1.S) ∧ ar.le (ar.add 0 x.2.1.len) (ar.ilen x.2.1.Z) ∧
 ar.isub x.2.1.K 0 x.2.1.len = x_1.2.1.nods.K ∧ ar.isub x.2.1.N 0 x.2.1.len = x_1.2.1.nods.N ∧ ar.isub x.2.1.P 0 x.2.1.len = x_1.2.1.nods.P ∧ ar.tsub x.2.1.S 0 x.2.1.len = x_1.2.1.nods.S ∧ ar.isub x.2.1.Z 0 x.2.1.len = x_1.2.1.nods.Z ∧
 x.2.1.len = x_1.2.1.nods.len ∧ x.2.1.cap = x_1.2.1.nods.cap ∧ ar.le 0 0 ∧ ar.le (ar.add 0 x.2.2.1.objs.len) (ar.tlen x.2.2.1.objs.N) ∧ ar.le (ar.add 0 x.2.2.1.objs.len) (ar.tlen x.2.2.1.objs.T) ∧ ar.le (ar.add 0 x.2.2.1.objs.len) (ar.ilen
 x.2.2.1.objs.B) ∧ ar.le (ar.add 0 x.2.2.1.objs.len) (ar.ilen x.2.2.1.objs.O) ∧ ar.tsub x.2.2.1.objs.N 0 x.2.2.1.objs.len = x_1.2.2.objs.N ∧ ar.tsub x.2.2.1.objs.T 0 x.2.2.1.objs.len = x_1.2.2.objs.T ∧ ar.isub x.2.2.1.objs.B 0
 x.2.2.1.objs.len = x_1.2.2.objs.B ∧ ar.isub x.2.2.1.objs.O 0 x.2.2.1.objs.len = x_1.2.2.objs.O ∧ x.2.2.1.objs.len = x_1.2.2.objs.len ∧ x.2.2.1.objs.cap = x_1.2.2.objs.cap ∧ ar.le 0 0 ∧ ar.le (ar.add 0 x.2.2.1.qlen) (ar.ilen x.2.2.1.q) ∧
 ar.isub x.2.2.1.q 0 x.2.2.1.qlen = x_1.2.2.q ∧ x.2.2.1.qlen = x_1.2.2.qlen ∧ x.2.2.1.qcap = x_1.2.2.qcap ∧ EIn x_1 ∧ ∀ y : Int, Enc4Post x_1 y → (∃ i : Nat, An1 x i ∧ x.1.slots = x.1.slots ∧ x.1.files = x.1.files ∧ x.1.dirs = x.1.dirs ∧
 x.1.most = x.1.most ∧ x.1.least = x.1.least ∧ x.1.page = x.1.page ∧ x.1.files = x.1.files ∧ x.1.dirs = x.1.dirs ∧ x.2.1.len = x.2.1.len ∧ x.2.1.cap = x.2.1.cap ∧ x.2.2.1.objs.len = x.2.2.1.objs.len ∧ x.2.2.1.objs.cap = x.2.2.1.objs.cap ∧
 x.2.2.1.qlen = x.2.2.1.qlen ∧ x.2.2.1.qcap = x.2.2.1.qcap ∧ x.2.2.2.len = x.2.2.2.len ∧ x.2.2.2.cap = x.2.2.2.cap ∧ (↑(encL x_1).length : Int) = (↑(encL x_1).length : Int) ∧ (↑(encL x_1).length : Int) = (↑(encL x_1).length : Int) ∧ encErr
 x_1 = encErr x_1 ∧ 0 = (i : Int) ∧ x.2.1.cap = x.2.1.cap ∧ x.2.1.K = x.2.1.K ∧ x.2.1.N = x.2.1.N ∧ x.2.1.P = x.2.1.P ∧ x.2.1.S = x.2.1.S ∧ x.2.1.Z = setI 0 x.2.1.Z i ∧ x.2.2.1.objs.cap = x.2.2.1.objs.cap ∧ x.2.2.1.objs.N = x.2.2.1.objs.N ∧
 x.2.2.1.objs.T = x.2.2.1.objs.T ∧ x.2.2.1.objs.B = x.2.2.1.objs.B ∧ x.2.2.1.objs.O = x.2.2.1.objs.O ∧ x.2.2.1.qcap = x.2.2.1.qcap ∧ x.2.2.1.q = x.2.2.1.q ∧ x.2.2.2.cap = x.2.2.2.cap ∧ x.2.2.2.l = x.2.2.2.l ∧ x.1.slots = x.1.slots ∧
 x.1.files = x.1.files ∧ x.1.dirs = x.1.dirs ∧ x.1.most = x.1.most ∧ x.1.least = x.1.least ∧ x.1.page = x.1.page ∧ x.1.files = x.1.files ∧ x.1.dirs = x.1.dirs ∧ x.2.1.len = x.2.1.len ∧ x.2.1.cap = x.2.1.cap ∧ x.2.2.1.objs.len =
 x.2.2.1.objs.len ∧ x.2.2.1.objs.cap = x.2.2.1.objs.cap ∧ x.2.2.1.qlen = x.2.2.1.qlen ∧ x.2.2.1.qcap = x.2.2.1.qcap ∧ y = y ∧ encL x_1 = encL x_1 ∧ True) ∧ ∀ i : Nat, An1 x i → (ar.lt (i : Int) x.2.1.len → ar.le 0 (i : Int) ∧ ar.lt (i :
 Int) x.2.1.len ∧ ar.le 0 (i : Int) ∧ ar.lt (i : Int) (ar.ilen (setI 0 x.2.1.Z i)) ∧ ∀ z : Int, z = ar.wrap .i64 (ar.add (i : Int) 1) → ∃ j : Nat, An1 x j ∧ (x.2.1.len.toNat.sub j).lt (x.2.1.len.toNat.sub i) ∧ x.1.slots = x.1.slots ∧
 x.1.files = x.1.files ∧ x.1.dirs = x.1.dirs ∧ x.1.most = x.1.most ∧ x.1.least = x.1.least ∧ x.1.page = x.1.page ∧ x.1.files = x.1.files ∧ x.1.dirs = x.1.dirs ∧ x.2.1.len = x.2.1.len ∧ x.2.1.cap = x.2.1.cap ∧ x.2.2.1.objs.len =
 x.2.2.1.objs.len ∧ x.2.2.1.objs.cap = x.2.2.1.objs.cap ∧ x.2.2.1.qlen = x.2.2.1.qlen ∧ x.2.2.1.qcap = x.2.2.1.qcap ∧ x.2.2.2.len = x.2.2.2.len ∧ x.2.2.2.cap = x.2.2.2.cap ∧ (↑(encL x_1).length : Int) = (↑(encL x_1).length : Int) ∧ (↑(encL
 x_1).length : Int) = (↑(encL x_1).length : Int) ∧ encErr x_1 = encErr x_1 ∧ z = (j : Int) ∧ x.2.1.cap = x.2.1.cap ∧ x.2.1.K = x.2.1.K ∧ x.2.1.N = x.2.1.N ∧ x.2.1.P = x.2.1.P ∧ x.2.1.S = x.2.1.S ∧ ar.iset (setI 0 x.2.1.Z i) (i : Int) 0 =
 setI 0 x.2.1.Z j ∧ x.2.2.1.objs.cap = x.2.2.1.objs.cap ∧ x.2.2.1.objs.N = x.2.2.1.objs.N ∧ x.2.2.1.objs.T = x.2.2.1.objs.T ∧ x.2.2.1.objs.B = x.2.2.1.objs.B ∧ x.2.2.1.objs.O = x.2.2.1.objs.O ∧ x.2.2.1.qcap = x.2.2.1.qcap ∧ x.2.2.1.q =
 x.2.2.1.q ∧ x.2.2.2.cap = x.2.2.2.cap ∧ x.2.2.2.l = x.2.2.2.l ∧ x.1.slots = x.1.slots ∧ x.1.files = x.1.files ∧ x.1.dirs = x.1.dirs ∧ x.1.most = x.1.most ∧ x.1.least = x.1.least ∧ x.1.page = x.1.page ∧ x.1.files = x.1.files ∧ x.1.dirs =
 x.1.dirs ∧ x.2.1.len = x.2.1.len ∧ x.2.1.cap = x.2.1.cap ∧ x.2.2.1.objs.len = x.2.2.1.objs.len ∧ x.2.2.1.objs.cap = x.2.2.1.objs.cap ∧ x.2.2.1.qlen = x.2.2.1.qlen ∧ x.2.2.1.qcap = x.2.2.1.qcap ∧ y = y ∧ encL x_1 = encL x_1 ∧ True) ∧
 (¬ar.lt (i : Int) x.2.1.len → (∃ i_1 : Nat, An2 x i_1 ∧ x.1.slots = x.1.slots ∧ x.1.files = x.1.files ∧ x.1.dirs = x.1.dirs ∧ x.1.most = x.1.most ∧ x.1.least = x.1.least ∧ x.1.page = x.1.page ∧ x.1.files = x.1.files ∧ x.1.dirs = x.1.dirs ∧
 x.2.1.len = x.2.1.len ∧ x.2.1.cap = x.2.1.cap ∧ x.2.2.1.objs.len = x.2.2.1.objs.len ∧ x.2.2.1.objs.cap = x.2.2.1.objs.cap ∧ x.2.2.1.qlen = x.2.2.1.qlen ∧ x.2.2.1.qcap = x.2.2.1.qcap ∧ x.2.2.2.len = x.2.2.2.len ∧ x.2.2.2.cap = x.2.2.2.cap ∧
 (↑(encL x_1).length : Int) = (↑(encL x_1).length : Int) ∧ (↑(encL x_1).length : Int) = (↑(encL x_1).length : Int) ∧ encErr x_1 = encErr x_1 ∧ 0 = (i_1 : Int) ∧ x.2.1.cap = x.2.1.cap ∧ x.2.1.K = x.2.1.K ∧ x.2.1.N = x.2.1.N ∧ x.2.1.P =
 x.2.1.P ∧ x.2.1.S = x.2.1.S ∧ setI 0 x.2.1.Z i = setI 0 x.2.1.Z x.2.1.len.toNat ∧ x.2.2.1.objs.cap = x.2.2.1.objs.cap ∧ x.2.2.1.objs.N = x.2.2.1.objs.N ∧ x.2.2.1.objs.T = x.2.2.1.objs.T ∧ x.2.2.1.objs.B = x.2.2.1.objs.B ∧ x.2.2.1.objs.O =
 setI (-1) x.2.2.1.objs.O i_1 ∧ x.2.2.1.qcap = x.2.2.1.qcap ∧ x.2.2.1.q = x.2.2.1.q ∧ x.2.2.2.cap = x.2.2.2.cap ∧ x.2.2.2.l = x.2.2.2.l ∧ x.1.slots = x.1.slots ∧ x.1.files = x.1.files ∧ x.1.dirs = x.1.dirs ∧ x.1.most = x.1.most ∧ x.1.least
 = x.1.least ∧ x.1.page = x.1.page ∧ x.1.files = x.1.files ∧ x.1.dirs = x.1.dirs ∧ x.2.1.len = x.2.1.len ∧ x.2.1.cap = x.2.1.cap ∧ x.2.2.1.objs.len = x.2.2.1.objs.len ∧ x.2.2.1.objs.cap = x.2.2.1.objs.cap ∧ x.2.2.1.qlen = x.2.2.1.qlen ∧
 x.2.2.1.qcap = x.2.2.1.qcap ∧ y = y ∧ encL x_1 = encL x_1 ∧ True) ∧ ∀ i : Nat, An2 x i → (ar.lt (i : Int) x.2.2.1.objs.len → ar.le 0 (i : Int) ∧ ar.lt (i : Int) x.2.2.1.objs.len ∧ ar.le 0 (i : Int) ∧ ar.lt (i : Int) (ar.ilen (setI (-1)
 x.2.2.1.objs.O i)) ∧ ∀ z : Int, z = ar.wrap .i64 (ar.add (i : Int) 1) → ∃ j : Nat, An2 x j ∧ (x.2.2.1.objs.len.toNat.sub j).lt (x.2.2.1.objs.len.toNat.sub i) ∧ x.1.slots = x.1.slots ∧ x.1.files = x.1.files ∧ x.1.dirs = x.1.dirs ∧ x.1.most
 = x.1.most ∧ x.1.least = x.1.least ∧ x.1.page = x.1.page ∧ x.1.files = x.1.files ∧ x.1.dirs = x.1.dirs ∧ x.2.1.len = x.2.1.len ∧ x.2.1.cap = x.2.1.cap ∧ x.2.2.1.objs.len = x.2.2.1.objs.len ∧ x.2.2.1.objs.cap = x.2.2.1.objs.cap ∧
 x.2.2.1.qlen = x.2.2.1.qlen ∧ x.2.2.1.qcap = x.2.2.1.qcap ∧ x.2.2.2.len = x.2.2.2.len ∧ x.2.2.2.cap = x.2.2.2.cap ∧ (↑(encL x_1).length : Int) = (↑(encL x_1).length : Int) ∧ (↑(encL x_1).length : Int) = (↑(encL x_1).length : Int) ∧ encErr
 x_1 = encErr x_1 ∧ z = (j : Int) ∧ x.2.1.cap = x.2.1.cap ∧ x.2.1.K = x.2.1.K ∧ x.2.1.N = x.2.1.N ∧ x.2.1.P = x.2.1.P ∧ x.2.1.S = x.2.1.S ∧ setI 0 x.2.1.Z x.2.1.len.toNat = setI 0 x.2.1.Z x.2.1.len.toNat ∧ x.2.2.1.objs.cap =
 x.2.2.1.objs.cap ∧ x.2.2.1.objs.N = x.2.2.1.objs.N ∧ x.2.2.1.objs.T = x.2.2.1.objs.T ∧ x.2.2.1.objs.B = x.2.2.1.objs.B ∧ ar.iset (setI (-1) x.2.2.1.objs.O i) (i : Int) (-1) = setI (-1) x.2.2.1.objs.O j ∧ x.2.2.1.qcap = x.2.2.1.qcap ∧
 x.2.2.1.q = x.2.2.1.q ∧ x.2.2.2.cap = x.2.2.2.cap ∧ x.2.2.2.l = x.2.2.2.l ∧ x.1.slots = x.1.slots ∧ x.1.files = x.1.files ∧ x.1.dirs = x.1.dirs ∧ x.1.most = x.1.most ∧ x.1.least = x.1.least ∧ x.1.page = x.1.page ∧ x.1.files = x.1.files ∧
 x.1.dirs = x.1.dirs ∧ x.2.1.len = x.2.1.len ∧ x.2.1.cap = x.2.1.cap ∧ x.2.2.1.objs.len = x.2.2.1.objs.len ∧ x.2.2.1.objs.cap = x.2.2.1.objs.cap ∧ x.2.2.1.qlen = x.2.2.1.qlen ∧ x.2.2.1.qcap = x.2.2.1.qcap ∧ y = y ∧ encL x_1 = encL x_1 ∧
 True) ∧ (¬ar.lt (i : Int) x.2.2.1.objs.len → ar.le 0 0 ∧ ar.le (ar.add 0 x.2.1.len) (ar.ilen x.2.1.K) ∧ ar.le (ar.add 0 x.2.1.len) (ar.ilen x.2.1.N) ∧ ar.le (ar.add 0 x.2.1.len) (ar.ilen x.2.1.P) ∧ ar.le (ar.add 0 x.2.1.len) (ar.tlen
 x.2.1.S) ∧ ar.le (ar.add 0 x.2.1.len) (ar.ilen (setI 0 x.2.1.Z x.2.1.len.toNat)) ∧ ar.le (ar.mul x.2.1.len 48) 140737488355328 ∧ ∀ c : Int, ar.le x.2.1.len c → (ar.le 0 0 ∧ ar.le (ar.add 0 x.2.2.1.objs.len) (ar.tlen x.2.2.1.objs.N) ∧ ar.le
 (ar.add 0 x.2.2.1.objs.len) (ar.tlen x.2.2.1.objs.T) ∧ ar.le (ar.add 0 x.2.2.1.objs.len) (ar.ilen x.2.2.1.objs.B) ∧ ar.le (ar.add 0 x.2.2.1.objs.len) (ar.ilen (setI (-1) x.2.2.1.objs.O i)) ∧ ar.le (ar.mul x.2.2.1.objs.len 48)
 140737488355328 ∧ ∀ c_1 : Int, ar.le x.2.2.1.objs.len c_1 → ar.le 0 0 ∧ ar.le (ar.add 0 x.2.2.1.qlen) (ar.ilen x.2.2.1.q) ∧ ar.le (ar.mul x.2.2.1.qlen 8) 140737488355328 ∧ ∀ c_2 : Int, ar.le x.2.2.1.qlen c_2 → ∃ i_1 : Int × Int × Int, An3
 x i_1 ∧ x.1.slots = x.1.slots ∧ x.1.files = x.1.files ∧ x.1.dirs = x.1.dirs ∧ x.1.most = x.1.most ∧ x.1.least = x.1.least ∧ x.1.page = x.1.page ∧ x.1.files = x.1.files ∧ x.1.dirs = x.1.dirs ∧ x.2.1.len = x.2.1.len ∧ x.2.1.cap = x.2.1.cap ∧
 x.2.2.1.objs.len = x.2.2.1.objs.len ∧ x.2.2.1.objs.cap = x.2.2.1.objs.cap ∧ x.2.2.1.qlen = x.2.2.1.qlen ∧ x.2.2.1.qcap = x.2.2.1.qcap ∧ x.2.2.2.len = x.2.2.2.len ∧ x.2.2.2.cap = x.2.2.2.cap ∧ (↑(encL x_1).length : Int) = (↑(encL
 x_1).length : Int) ∧ (↑(encL x_1).length : Int) = (↑(encL x_1).length : Int) ∧ encErr x_1 = encErr x_1 ∧ x.2.1.cap = x.2.1.cap ∧ x.2.1.K = x.2.1.K ∧ x.2.1.N = x.2.1.N ∧ x.2.1.P = x.2.1.P ∧ x.2.1.S = x.2.1.S ∧ setI 0 x.2.1.Z x.2.1.len.toNat
 = setI 0 x.2.1.Z x.2.1.len.toNat ∧ x.2.2.1.objs.cap = x.2.2.1.objs.cap ∧ x.2.2.1.objs.N = x.2.2.1.objs.N ∧ x.2.2.1.objs.T = x.2.2.1.objs.T ∧ x.2.2.1.objs.B = x.2.2.1.objs.B ∧ setI (-1) x.2.2.1.objs.O i = setI (-1) x.2.2.1.objs.O
 x.2.2.1.objs.len.toNat ∧ x.2.2.1.qcap = x.2.2.1.qcap ∧ x.2.2.1.q = x.2.2.1.q ∧ x.2.2.2.cap = x.2.2.2.cap ∧ x.2.2.2.l = x.2.2.2.l ∧ x.1.slots = x.1.slots ∧ x.1.files = x.1.files ∧ x.1.dirs = x.1.dirs ∧ x.1.most = x.1.most ∧ x.1.least =
 x.1.least ∧ x.1.page = x.1.page ∧ x.1.files = x.1.files ∧ x.1.dirs = x.1.dirs ∧ x.2.1.len = x.2.1.len ∧ x.2.1.cap = x.2.1.cap ∧ x.2.2.1.objs.len = x.2.2.1.objs.len ∧ x.2.2.1.objs.cap = x.2.2.1.objs.cap ∧ x.2.2.1.qlen = x.2.2.1.qlen ∧
 x.2.2.1.qcap = x.2.2.1.qcap ∧ y = y ∧ encL x_1 = encL x_1 ∧ x.1.files = x.1.files ∧ x.1.dirs = x.1.dirs ∧ x.2.1.len = x.2.1.len ∧ c = i_1.1 ∧ c = i_1.1 ∧ ar.isub x.2.1.K 0 x.2.1.len = x.2.1.K ∧ ar.isub x.2.1.N 0 x.2.1.len = x.2.1.N ∧
 ar.isub x.2.1.P 0 x.2.1.len = x.2.1.P ∧ ar.tsub x.2.1.S 0 x.2.1.len = x.2.1.S ∧ ar.isub (setI 0 x.2.1.Z x.2.1.len.toNat) 0 x.2.1.len = setI 0 x.2.1.Z x.2.1.len.toNat ∧ x.2.2.1.objs.len = x.2.2.1.objs.len ∧ c_1 = i_1.2.1 ∧ x.2.2.1.qlen =
 x.2.2.1.qlen ∧ c_2 = i_1.2.2 ∧ c_1 = i_1.2.1 ∧ ar.tsub x.2.2.1.objs.N 0 x.2.2.1.objs.len = x.2.2.1.objs.N ∧ ar.tsub x.2.2.1.objs.T 0 x.2.2.1.objs.len = x.2.2.1.objs.T ∧ ar.isub x.2.2.1.objs.B 0 x.2.2.1.objs.len = x.2.2.1.objs.B ∧ ar.isub
 (setI (-1) x.2.2.1.objs.O i) 0 x.2.2.1.objs.len = setI (-1) x.2.2.1.objs.O x.2.2.1.objs.len.toNat ∧ c_2 = i_1.2.2 ∧ ar.isub x.2.2.1.q 0 x.2.2.1.qlen = x.2.2.1.q ∧ True) ∧ ∀ i : Int × Int × Int, An3 x i → ∃ x_2 : Cfg × Tree × Pool,
 x.1.slots = x_2.1.slots ∧ x.1.files = x_2.1.files ∧ x.1.dirs = x_2.1.dirs ∧ x.1.most = x_2.1.most ∧ x.1.least = x_2.1.least ∧ x.1.page = x_2.1.page ∧ x.1.files = x_2.2.1.files ∧ x.1.dirs = x_2.2.1.dirs ∧ ar.le 0 0 ∧ ar.le (ar.add 0
 x.2.1.len) (ar.ilen x.2.1.K) ∧ ar.le (ar.add 0 x.2.1.len) (ar.ilen x.2.1.N) ∧ ar.le (ar.add 0 x.2.1.len) (ar.ilen x.2.1.P) ∧ ar.le (ar.add 0 x.2.1.len) (ar.tlen x.2.1.S) ∧ ar.le (ar.add 0 x.2.1.len) (ar.ilen (setI 0 x.2.1.Z
 x.2.1.len.toNat)) ∧ ar.isub x.2.1.K 0 x.2.1.len = x_2.2.1.nods.K ∧ ar.isub x.2.1.N 0 x.2.1.len = x_2.2.1.nods.N ∧ ar.isub x.2.1.P 0 x.2.1.len = x_2.2.1.nods.P ∧ ar.tsub x.2.1.S 0 x.2.1.len = x_2.2.1.nods.S ∧ ar.isub (setI 0 x.2.1.Z
 x.2.1.len.toNat) 0 x.2.1.len = x_2.2.1.nods.Z ∧ x.2.1.len = x_2.2.1.nods.len ∧ x.2.1.cap = x_2.2.1.nods.cap ∧ ar.le 0 0 ∧ ar.le (ar.add 0 x.2.2.1.objs.len) (ar.tlen x.2.2.1.objs.N) ∧ ar.le (ar.add 0 x.2.2.1.objs.len) (ar.tlen
 x.2.2.1.objs.T) ∧ ar.le (ar.add 0 x.2.2.1.objs.len) (ar.ilen x.2.2.1.objs.B) ∧ ar.le (ar.add 0 x.2.2.1.objs.len) (ar.ilen (setI (-1) x.2.2.1.objs.O x.2.2.1.objs.len.toNat)) ∧ ar.tsub x.2.2.1.objs.N 0 x.2.2.1.objs.len = x_2.2.2.objs.N ∧
 ar.tsub x.2.2.1.objs.T 0 x.2.2.1.objs.len = x_2.2.2.objs.T ∧ ar.isub x.2.2.1.objs.B 0 x.2.2.1.objs.len = x_2.2.2.objs.B ∧ ar.isub (setI (-1) x.2.2.1.objs.O x.2.2.1.objs.len.toNat) 0 x.2.2.1.objs.len = x_2.2.2.objs.O ∧ x.2.2.1.objs.len =
 x_2.2.2.objs.len ∧ x.2.2.1.objs.cap = x_2.2.2.objs.cap ∧ ar.le 0 0 ∧ ar.le (ar.add 0 x.2.2.1.qlen) (ar.ilen x.2.2.1.q) ∧ ar.isub x.2.2.1.q 0 x.2.2.1.qlen = x_2.2.2.q ∧ x.2.2.1.qlen = x_2.2.2.qlen ∧ x.2.2.1.qcap = x_2.2.2.qcap ∧ EIn x_2 ∧ ∀
 y : Int, Enc4Post x_2 y → ∃ x_3 : Cfg × Tree × Pool, x.1.slots = x_3.1.slots ∧ x.1.files = x_3.1.files ∧ x.1.dirs = x_3.1.dirs ∧ x.1.most = x_3.1.most ∧ x.1.least = x_3.1.least ∧ x.1.page = x_3.1.page ∧ x.1.files = x_3.2.1.files ∧ x.1.dirs
 = x_3.2.1.dirs ∧ ar.le 0 0 ∧ ar.le (ar.add 0 x.2.1.len) (ar.ilen x.2.1.K) ∧ ar.le (ar.add 0 x.2.1.len) (ar.ilen x.2.1.N) ∧ ar.le (ar.add 0 x.2.1.len) (ar.ilen x.2.1.P) ∧ ar.le (ar.add 0 x.2.1.len) (ar.tlen x.2.1.S) ∧ ar.le (ar.add 0
 x.2.1.len) (ar.ilen (setI 0 x.2.1.Z x.2.1.len.toNat)) ∧ ar.isub x.2.1.K 0 x.2.1.len = x_3.2.1.nods.K ∧ ar.isub x.2.1.N 0 x.2.1.len = x_3.2.1.nods.N ∧ ar.isub x.2.1.P 0 x.2.1.len = x_3.2.1.nods.P ∧ ar.tsub x.2.1.S 0 x.2.1.len =
 x_3.2.1.nods.S ∧ ar.isub (setI 0 x.2.1.Z x.2.1.len.toNat) 0 x.2.1.len = x_3.2.1.nods.Z ∧ x.2.1.len = x_3.2.1.nods.len ∧ i.1 = x_3.2.1.nods.cap ∧ ar.le 0 0 ∧ ar.le (ar.add 0 x.2.2.1.objs.len) (ar.tlen x.2.2.1.objs.N) ∧ ar.le (ar.add 0
 x.2.2.1.objs.len) (ar.tlen x.2.2.1.objs.T) ∧ ar.le (ar.add 0 x.2.2.1.objs.len) (ar.ilen x.2.2.1.objs.B) ∧ ar.le (ar.add 0 x.2.2.1.objs.len) (ar.ilen (setI (-1) x.2.2.1.objs.O x.2.2.1.objs.len.toNat)) ∧ ar.tsub x.2.2.1.objs.N 0
 x.2.2.1.objs.len = x_3.2.2.objs.N ∧ ar.tsub x.2.2.1.objs.T 0 x.2.2.1.objs.len = x_3.2.2.objs.T ∧ ar.isub x.2.2.1.objs.B 0 x.2.2.1.objs.len = x_3.2.2.objs.B ∧ ar.isub (setI (-1) x.2.2.1.objs.O x.2.2.1.objs.len.toNat) 0 x.2.2.1.objs.len =
 x_3.2.2.objs.O ∧ x.2.2.1.objs.len = x_3.2.2.objs.len ∧ i.2.1 = x_3.2.2.objs.cap ∧ ar.le 0 0 ∧ ar.le (ar.add 0 x.2.2.1.qlen) (ar.ilen x.2.2.1.q) ∧ ar.isub x.2.2.1.q 0 x.2.2.1.qlen = x_3.2.2.q ∧ x.2.2.1.qlen = x_3.2.2.qlen ∧ i.2.2 =
 x_3.2.2.qcap ∧ EIn x_3 ∧ ∀ y : Int, Enc4Post x_3 y → ∃ x_4 : Int, encErr x_1 = x_4 ∧ Ints3 (x_4, x_4, x_4) ∧ ∀ y : Unit, True → ((¬ar.eq x_4 0 → False) → ∃ x_5 : Int, encErr x_2 = x_5 ∧ Ints3 (x_5, x_5, x_5) ∧ ∀ y : Unit, True → ∃ x_6 :
 Int, encErr x_3 = x_6 ∧ Ints3 (x_6, x_6, x_6) ∧ ∀ y : Unit, True → ((¬ar.eq x_5 x_6 → False) → ∃ x_7 : Txts × Txts, ar.le 0 0 ∧ ar.le (ar.add 0 (↑(encL x_2).length : Int)) (ar.tlen (encL x_2)) ∧ ar.tsub (encL x_2) 0 (↑(encL x_2).length :
 Int) = x_7.1.l ∧ (↑(encL x_2).length : Int) = x_7.1.len ∧ (↑(encL x_2).length : Int) = x_7.1.cap ∧ ar.le 0 0 ∧ ar.le (ar.add 0 (↑(encL x_3).length : Int)) (ar.tlen (encL x_3)) ∧ ar.tsub (encL x_3) 0 (↑(encL x_3).length : Int) = x_7.2.l ∧
 (↑(encL x_3).length : Int) = x_7.2.len ∧ (↑(encL x_3).length : Int) = x_7.2.cap ∧ TxtsIn x_7 ∧ ∀ y : Unit, True → ((¬x_7.1.l = x_7.2.l → False) → ∃ x_8 : Txts × Txts, ar.le 0 0 ∧ ar.le (ar.add 0 (↑(encL x_1).length : Int)) (ar.tlen (encL
 x_1)) ∧ ar.tsub (encL x_1) 0 (↑(encL x_1).length : Int) = x_8.1.l ∧ (↑(encL x_1).length : Int) = x_8.1.len ∧ (↑(encL x_1).length : Int) = x_8.1.cap ∧ ar.le 0 0 ∧ ar.le (ar.add 0 x.2.2.2.len) (ar.tlen x.2.2.2.l) ∧ ar.tsub x.2.2.2.l 0
 x.2.2.2.len = x_8.2.l ∧ x.2.2.2.len = x_8.2.len ∧ x.2.2.2.cap = x_8.2.cap ∧ TxtsIn x_8 ∧ ∀ y : Unit, True → (¬x_8.1.l = x_8.2.l → ∃ y : Unit, True ∧ False) ∧ (¬¬x_8.1.l = x_8.2.l → ar.le 0 0 ∧ ar.le (ar.add 0 x.2.2.2.len) (ar.tlen
 x.2.2.2.l) ∧ ar.le (ar.mul x.2.2.2.len 16) 140737488355328 ∧ ∀ c : Int, ar.le x.2.2.2.len c → ∃ x_9 : Cfg × Txts, x.1.slots = x_9.1.slots ∧ x.1.files = x_9.1.files ∧ x.1.dirs = x_9.1.dirs ∧ x.1.most = x_9.1.most ∧ x.1.least = x_9.1.least ∧
 x.1.page = x_9.1.page ∧ ar.le 0 0 ∧ ar.le (ar.add 0 x.2.2.2.len) (ar.tlen (ar.tsub x.2.2.2.l 0 x.2.2.2.len)) ∧ ar.tsub (ar.tsub x.2.2.2.l 0 x.2.2.2.len) 0 x.2.2.2.len = x_9.2.l ∧ x.2.2.2.len = x_9.2.len ∧ c = x_9.2.cap ∧ DcIn x_9 ∧ ∀ (y :
 (Tree × Pool) × Int × Int × Int), DcPost x_9 y → (∃ i : Nat × Int, An4 x i ∧ x.2.2.2.len = x.2.2.2.len ∧ x.2.2.2.cap = x.2.2.2.cap ∧ x.2.2.2.len = x.2.2.2.len ∧ c = i.2 ∧ 0 = (↑i.1 : Int) ∧ x.2.2.2.cap = x.2.2.2.cap ∧ x.2.2.2.l = x.2.2.2.l
 ∧ x.1.slots = x.1.slots ∧ x.1.files = x.1.files ∧ x.1.dirs = x.1.dirs ∧ x.1.most = x.1.most ∧ x.1.least = x.1.least ∧ x.1.page = x.1.page ∧ c = i.2 ∧ ar.tsub x.2.2.2.l 0 x.2.2.2.len = setR x.2.2.2.l i.1 ∧ True) ∧ ∀ i : Nat × Int, An4 x i →
 (ar.lt (↑i.1 : Int) x.2.2.2.len → ∀ z : Int, z = ar.wrap .i64 (ar.sub x.2.2.2.len 1) → ∀ z_1 : Int, z_1 = ar.wrap .i64 (ar.sub z (↑i.1 : Int)) → ar.le 0 z_1 ∧ ar.lt z_1 x.2.2.2.len ∧ ar.le 0 z_1 ∧ ar.lt z_1 (ar.tlen x.2.2.2.l) ∧ ar.le 0
 (↑i.1 : Int) ∧ ar.lt (↑i.1 : Int) x.2.2.2.len ∧ ar.le 0 (↑i.1 : Int) ∧ ar.lt (↑i.1 : Int) (ar.tlen (setR x.2.2.2.l i.1)) ∧ ∀ z : Int, z = ar.wrap .i64 (ar.add (↑i.1 : Int) 1) → ∃ j : Nat × Int, An4 x j ∧ (x.2.2.2.l.length.sub j.1).lt
 (x.2.2.2.l.length.sub i.1) ∧ x.2.2.2.len = x.2.2.2.len ∧ x.2.2.2.cap = x.2.2.2.cap ∧ x.2.2.2.len = x.2.2.2.len ∧ i.2 = j.2 ∧ z = (↑j.1 : Int) ∧ x.2.2.2.cap = x.2.2.2.cap ∧ x.2.2.2.l = x.2.2.2.l ∧ x.1.slots = x.1.slots ∧ x.1.files =
 x.1.files ∧ x.1.dirs = x.1.dirs ∧ x.1.most = x.1.most ∧ x.1.least = x.1.least ∧ x.1.page = x.1.page ∧ i.2 = j.2 ∧ ar.tset (setR x.2.2.2.l i.1) (↑i.1 : Int) (ar.tget x.2.2.2.l z_1) = setR x.2.2.2.l j.1 ∧ True) ∧ (¬ar.lt (↑i.1 : Int)
 x.2.2.2.len → ∃ x_10 : Cfg × Txts, x.1.slots = x_10.1.slots ∧ x.1.files = x_10.1.files ∧ x.1.dirs = x_10.1.dirs ∧ x.1.most = x_10.1.most ∧ x.1.least = x_10.1.least ∧ x.1.page = x_10.1.page ∧ ar.le 0 0 ∧ ar.le (ar.add 0 x.2.2.2.len)
 (ar.tlen (setR x.2.2.2.l i.1)) ∧ ar.tsub (setR x.2.2.2.l i.1) 0 x.2.2.2.len = x_10.2.l ∧ x.2.2.2.len = x_10.2.len ∧ i.2 = x_10.2.cap ∧ DcIn x_10 ∧ ∀ (y : (Tree × Pool) × Int × Int × Int), DcPost x_10 y → ar.le 0 0 ∧ ar.le (ar.add 0
 x.2.2.2.len) (ar.tlen (setR x.2.2.2.l i.1)) ∧ ar.le (ar.mul x.2.2.2.len 16) 140737488355328 ∧ ∀ c : Int, ar.le x.2.2.2.len c → ∃ x_11 : Cfg × Txts, x.1.slots = x_11.1.slots ∧ x.1.files = x_11.1.files ∧ x.1.dirs = x_11.1.dirs ∧ x.1.most =
 x_11.1.most ∧ x.1.least = x_11.1.least ∧ x.1.page = x_11.1.page ∧ ar.le 0 0 ∧ ar.le (ar.add 0 x.2.2.2.len) (ar.tlen (ar.tsub (setR x.2.2.2.l i.1) 0 x.2.2.2.len)) ∧ ar.tsub (ar.tsub (setR x.2.2.2.l i.1) 0 x.2.2.2.len) 0 x.2.2.2.len =
 x_11.2.l ∧ x.2.2.2.len = x_11.2.len ∧ c = x_11.2.cap ∧ DcIn x_11 ∧ ∀ (y_1 : (Tree × Pool) × Int × Int × Int), DcPost x_11 y_1 → (∃ x : Int, dcE x_10.1 x_10.2.l = x ∧ Ints3 (x, x, x) ∧ ∀ y_2 : Unit, True → ∃ x_12 : Int, dcE x_11.1 x_11.2.l
 = x_12 ∧ Ints3 (x_12, x_12, x_12) ∧ ∀ y_3 : Unit, True → (ar.eq x x_12 → ∃ x : Tree × Tree, y.1.1.files = x.1.files ∧ y.1.1.dirs = x.1.dirs ∧ ar.le 0 0 ∧ ar.le (ar.add 0 y.1.1.nods.len) (ar.ilen y.1.1.nods.K) ∧ ar.le (ar.add 0
 y.1.1.nods.len) (ar.ilen y.1.1.nods.N) ∧ ar.le (ar.add 0 y.1.1.nods.len) (ar.ilen y.1.1.nods.P) ∧ ar.le (ar.add 0 y.1.1.nods.len) (ar.tlen y.1.1.nods.S) ∧ ar.le (ar.add 0 y.1.1.nods.len) (ar.ilen y.1.1.nods.Z) ∧ ar.isub y.1.1.nods.K 0
 y.1.1.nods.len = x.1.nods.K ∧ ar.isub y.1.1.nods.N 0 y.1.1.nods.len = x.1.nods.N ∧ ar.isub y.1.1.nods.P 0 y.1.1.nods.len = x.1.nods.P ∧ ar.tsub y.1.1.nods.S 0 y.1.1.nods.len = x.1.nods.S ∧ ar.isub y.1.1.nods.Z 0 y.1.1.nods.len = x.1.nods.Z
 ∧ y.1.1.nods.len = x.1.nods.len ∧ y.1.1.nods.len = x.1.nods.cap ∧ y_1.1.1.files = x.2.files ∧ y_1.1.1.dirs = x.2.dirs ∧ ar.le 0 0 ∧ ar.le (ar.add 0 y_1.1.1.nods.len) (ar.ilen y_1.1.1.nods.K) ∧ ar.le (ar.add 0 y_1.1.1.nods.len) (ar.ilen
 y_1.1.1.nods.N) ∧ ar.le (ar.add 0 y_1.1.1.nods.len) (ar.ilen y_1.1.1.nods.P) ∧ ar.le (ar.add 0 y_1.1.1.nods.len) (ar.tlen y_1.1.1.nods.S) ∧ ar.le (ar.add 0 y_1.1.1.nods.len) (ar.ilen y_1.1.1.nods.Z) ∧ ar.isub y_1.1.1.nods.K 0
 y_1.1.1.nods.len = x.2.nods.K ∧ ar.isub y_1.1.1.nods.N 0 y_1.1.1.nods.len = x.2.nods.N ∧ ar.isub y_1.1.1.nods.P 0 y_1.1.1.nods.len = x.2.nods.P ∧ ar.tsub y_1.1.1.nods.S 0 y_1.1.1.nods.len = x.2.nods.S ∧ ar.isub y_1.1.1.nods.Z 0
 y_1.1.1.nods.len = x.2.nods.Z ∧ y_1.1.1.nods.len = x.2.nods.len ∧ y_1.1.1.nods.len = x.2.nods.cap ∧ SameTIn x ∧ ∀ y_4 : Unit, True → (SameT x.1 x.2 → ∃ x : Pool × Pool, ar.le 0 0 ∧ ar.le (ar.add 0 y.1.2.objs.len) (ar.tlen y.1.2.objs.N) ∧
 ar.le (ar.add 0 y.1.2.objs.len) (ar.tlen y.1.2.objs.T) ∧ ar.le (ar.add 0 y.1.2.objs.len) (ar.ilen y.1.2.objs.B) ∧ ar.le (ar.add 0 y.1.2.objs.len) (ar.ilen y.1.2.objs.O) ∧ ar.tsub y.1.2.objs.N 0 y.1.2.objs.len = x.1.objs.N ∧ ar.tsub
 y.1.2.objs.T 0 y.1.2.objs.len = x.1.objs.T ∧ ar.isub y.1.2.objs.B 0 y.1.2.objs.len = x.1.objs.B ∧ ar.isub y.1.2.objs.O 0 y.1.2.objs.len = x.1.objs.O ∧ y.1.2.objs.len = x.1.objs.len ∧ y.1.2.objs.len = x.1.objs.cap ∧ ar.le 0 0 ∧ ar.le
 (ar.add 0 y.1.2.qlen) (ar.ilen y.1.2.q) ∧ ar.isub y.1.2.q 0 y.1.2.qlen = x.1.q ∧ y.1.2.qlen = x.1.qlen ∧ y.1.2.qlen = x.1.qcap ∧ ar.le 0 0 ∧ ar.le (ar.add 0 y_1.1.2.objs.len) (ar.tlen y_1.1.2.objs.N) ∧ ar.le (ar.add 0 y_1.1.2.objs.len)
 (ar.tlen y_1.1.2.objs.T) ∧ ar.le (ar.add 0 y_1.1.2.objs.len) (ar.ilen y_1.1.2.objs.B) ∧ ar.le (ar.add 0 y_1.1.2.objs.len) (ar.ilen y_1.1.2.objs.O) ∧ ar.tsub y_1.1.2.objs.N 0 y_1.1.2.objs.len = x.2.objs.N ∧ ar.tsub y_1.1.2.objs.T 0
 y_1.1.2.objs.len = x.2.objs.T ∧ ar.isub y_1.1.2.objs.B 0 y_1.1.2.objs.len = x.2.objs.B ∧ ar.isub y_1.1.2.objs.O 0 y_1.1.2.objs.len = x.2.objs.O ∧ y_1.1.2.objs.len = x.2.objs.len ∧ y_1.1.2.objs.len = x.2.objs.cap ∧ ar.le 0 0 ∧ ar.le (ar.add
 0 y_1.1.2.qlen) (ar.ilen y_1.1.2.q) ∧ ar.isub y_1.1.2.q 0 y_1.1.2.qlen = x.2.q ∧ y_1.1.2.qlen = x.2.qlen ∧ y_1.1.2.qlen = x.2.qcap ∧ SamePIn x ∧ ∀ y : Unit, True → ∃ y : Unit, True ∧ (SameP x.1 x.2 ↔ true = true) ∧ True) ∧ (¬SameT x.1 x.2
 → ∃ y : Unit, True ∧ False)) ∧ (¬ar.eq x x_12 → ∃ y : Unit, True ∧ False)) ∧ ∃ x : Int, dcE x_10.1 x_10.2.l = x ∧ Ints3 (x, x, x) ∧ ∀ y_2 : Unit, True → ∃ x_12 : Int, dcE x_11.1 x_11.2.l = x_12 ∧ Ints3 (x_12, x_12, x_12) ∧ ∀ y_3 : Unit,
 True → (ar.eq x x_12 → ∃ x : Tree × Tree, y.1.1.files = x.1.files ∧ y.1.1.dirs = x.1.dirs ∧ ar.le 0 0 ∧ ar.le (ar.add 0 y.1.1.nods.len) (ar.ilen y.1.1.nods.K) ∧ ar.le (ar.add 0 y.1.1.nods.len) (ar.ilen y.1.1.nods.N) ∧ ar.le (ar.add 0
 y.1.1.nods.len) (ar.ilen y.1.1.nods.P) ∧ ar.le (ar.add 0 y.1.1.nods.len) (ar.tlen y.1.1.nods.S) ∧ ar.le (ar.add 0 y.1.1.nods.len) (ar.ilen y.1.1.nods.Z) ∧ ar.isub y.1.1.nods.K 0 y.1.1.nods.len = x.1.nods.K ∧ ar.isub y.1.1.nods.N 0
 y.1.1.nods.len = x.1.nods.N ∧ ar.isub y.1.1.nods.P 0 y.1.1.nods.len = x.1.nods.P ∧ ar.tsub y.1.1.nods.S 0 y.1.1.nods.len = x.1.nods.S ∧ ar.isub y.1.1.nods.Z 0 y.1.1.nods.len = x.1.nods.Z ∧ y.1.1.nods.len = x.1.nods.len ∧ y.1.1.nods.len =
 x.1.nods.cap ∧ y_1.1.1.files = x.2.files ∧ y_1.1.1.dirs = x.2.dirs ∧ ar.le 0 0 ∧ ar.le (ar.add 0 y_1.1.1.nods.len) (ar.ilen y_1.1.1.nods.K) ∧ ar.le (ar.add 0 y_1.1.1.nods.len) (ar.ilen y_1.1.1.nods.N) ∧ ar.le (ar.add 0 y_1.1.1.nods.len)
 (ar.ilen y_1.1.1.nods.P) ∧ ar.le (ar.add 0 y_1.1.1.nods.len) (ar.tlen y_1.1.1.nods.S) ∧ ar.le (ar.add 0 y_1.1.1.nods.len) (ar.ilen y_1.1.1.nods.Z) ∧ ar.isub y_1.1.1.nods.K 0 y_1.1.1.nods.len = x.2.nods.K ∧ ar.isub y_1.1.1.nods.N 0
 y_1.1.1.nods.len = x.2.nods.N ∧ ar.isub y_1.1.1.nods.P 0 y_1.1.1.nods.len = x.2.nods.P ∧ ar.tsub y_1.1.1.nods.S 0 y_1.1.1.nods.len = x.2.nods.S ∧ ar.isub y_1.1.1.nods.Z 0 y_1.1.1.nods.len = x.2.nods.Z ∧ y_1.1.1.nods.len = x.2.nods.len ∧
 y_1.1.1.nods.len = x.2.nods.cap ∧ SameTIn x ∧ ∀ y_4 : Unit, True → (SameT x.1 x.2 → ∃ x : Pool × Pool, ar.le 0 0 ∧ ar.le (ar.add 0 y.1.2.objs.len) (ar.tlen y.1.2.objs.N) ∧ ar.le (ar.add 0 y.1.2.objs.len) (ar.tlen y.1.2.objs.T) ∧ ar.le
 (ar.add 0 y.1.2.objs.len) (ar.ilen y.1.2.objs.B) ∧ ar.le (ar.add 0 y.1.2.objs.len) (ar.ilen y.1.2.objs.O) ∧ ar.tsub y.1.2.objs.N 0 y.1.2.objs.len = x.1.objs.N ∧ ar.tsub y.1.2.objs.T 0 y.1.2.objs.len = x.1.objs.T ∧ ar.isub y.1.2.objs.B 0
 y.1.2.objs.len = x.1.objs.B ∧ ar.isub y.1.2.objs.O 0 y.1.2.objs.len = x.1.objs.O ∧ y.1.2.objs.len = x.1.objs.len ∧ y.1.2.objs.len = x.1.objs.cap ∧ ar.le 0 0 ∧ ar.le (ar.add 0 y.1.2.qlen) (ar.ilen y.1.2.q) ∧ ar.isub y.1.2.q 0 y.1.2.qlen =
 x.1.q ∧ y.1.2.qlen = x.1.qlen ∧ y.1.2.qlen = x.1.qcap ∧ ar.le 0 0 ∧ ar.le (ar.add 0 y_1.1.2.objs.len) (ar.tlen y_1.1.2.objs.N) ∧ ar.le (ar.add 0 y_1.1.2.objs.len) (ar.tlen y_1.1.2.objs.T) ∧ ar.le (ar.add 0 y_1.1.2.objs.len) (ar.ilen
 y_1.1.2.objs.B) ∧ ar.le (ar.add 0 y_1.1.2.objs.len) (ar.ilen y_1.1.2.objs.O) ∧ ar.tsub y_1.1.2.objs.N 0 y_1.1.2.objs.len = x.2.objs.N ∧ ar.tsub y_1.1.2.objs.T 0 y_1.1.2.objs.len = x.2.objs.T ∧ ar.isub y_1.1.2.objs.B 0 y_1.1.2.objs.len =
 x.2.objs.B ∧ ar.isub y_1.1.2.objs.O 0 y_1.1.2.objs.len = x.2.objs.O ∧ y_1.1.2.objs.len = x.2.objs.len ∧ y_1.1.2.objs.len = x.2.objs.cap ∧ ar.le 0 0 ∧ ar.le (ar.add 0 y_1.1.2.qlen) (ar.ilen y_1.1.2.q) ∧ ar.isub y_1.1.2.q 0 y_1.1.2.qlen =
 x.2.q ∧ y_1.1.2.qlen = x.2.qlen ∧ y_1.1.2.qlen = x.2.qcap ∧ SamePIn x ∧ ∀ y : Unit, True → ∃ y : Unit, True ∧ (SameP x.1 x.2 ↔ true = true) ∧ True) ∧ (¬SameT x.1 x.2 → ∃ y : Unit, True ∧ False)) ∧ (¬ar.eq x x_12 → ∃ y : Unit, True ∧
 False)))) ∧ (¬(¬x_7.1.l = x_7.2.l → False) → ∃ y : Unit, True ∧ False)) ∧ (¬(¬ar.eq x_5 x_6 → False) → ∃ y : Unit, True ∧ False)) ∧ (¬(¬ar.eq x_4 0 → False) → ∃ y : Unit, True ∧ False)))
theorem an_eq (ar : AR) (x : anSpec.X) : (run ar PP okSpecs (anInvs x) 1000 20 (anSpec.H x).length (Tryd.f20.body.getD .skip) (anSpec.A x ++ List.replicate (Tryd.f20.ntmps - (anSpec.A x).length) .any) (anSpec.H x) (endCall ar PP Tryd.f20.results.toList (anSpec.fin x))) = an_vc ar x := by
  kernel_rfl
theorem an_of (h : ∀ x, anSpec.pre x → an_vc ar0 x) : anSpec.OK PP 20 :=
  Spec.ok_of_run (fn := Tryd.f20) (c := Tryd.f20.body.getD .skip) (by kernel_rfl) (by kernel_rfl) (by kernel_rfl) okSpecs_ok anInvs 1000 (fun x hx => (an_eq ar0 x).mpr (h x hx))
end Go.Eng

