/- Index: the law IndexBack. -/
import Derived.Test.YtfcjboomlfjanaaDoorIxJ
import Derived.Test.YtfcjboomlfjanaaDoorIxL
set_option linter.unusedVariables false
set_option linter.unusedSimpArgs false

namespace Go.PL
theorem tree_eq {c : Cfg} {t : Tree} {p : Pool} {s : List UInt8} (R : Reads c t p s) (a : Int) : treeP s c a = ⟨t.files, t.dirs, ⟨t.nods.K, t.nods.N, t.nods.P, t.nods.S, t.nods.Z, t.nods.len, a⟩⟩ := by
  obtain ⟨h1, h2, ⟨h3, h4, h5, h6, h7⟩⟩ := R.tree a
  rw [h1, h2, h3, h4, h5, h6, h7, ← R.len]
  rfl
theorem pool_eq {c : Cfg} {t : Tree} {p : Pool} {s : List UInt8} (R : Reads c t p s) (hp : p.objs.len = rowsC c) (b d : Int) : poolP s c b d = ⟨⟨p.objs.N, p.objs.T, p.objs.B, p.objs.O, p.objs.len, b⟩, p.q, p.qlen, d⟩ := by
  obtain ⟨h1, h2, h3, h4, h5⟩ := R.pool b d
  have h6 : cntP s c = p.qlen := (cnt_same R.good).2.trans R.cnt
  rw [h1, h2, h3, h4, h5, hp, ← h6]
  rfl
/-- The pages of a state that fits are taken. -/
theorem enc_dec {c : Cfg} {t : Tree} {p : Pool} (h : EOK (c, t, p)) (hn : NodsOK t.nods) (hpi : PoolIn (c, p)) :
    Shaped c (encL (c, t, p)) ∧ (encL (c, t, p)).flatten = fullS c t p ∧ DcOK c (encL (c, t, p)) ∧ Reads c t p (fullS c t p) := by
  have hC := h.cfg
  have hci := hC.ok
  simp only at hC hci
  obtain ⟨c1, c2, c3, c4, c5, c6⟩ := id hci
  obtain ⟨f1, f2, f3⟩ := full_fits hC
  have hpr := pages_range hC
  have hI : ImgIn (c, t, p) := ⟨hci, hn, hpi, h.tree, h.pool⟩
  have hlen := imgS_len hI
  simp only at hlen
  have hsl : ((fullS c t p).length : Int) = pagesI c * (c.page - 5) := by simp only [fullS, List.length_append, zs, List.length_replicate]; omega
  obtain ⟨b, hb⟩ : ∃ b : Nat, c.page - 5 = (b : Int) := ⟨(c.page - 5).toNat, by omega⟩
  have hL : encL (c, t, p) = pieces (fullS c t p) b (pagesI c).toNat := by rw [encL_ok h]; simp only [hb, Int.toNat_natCast]
  have hN : ((pagesI c).toNat : Int) = pagesI c := by omega
  have hlb : (fullS c t p).length = (pagesI c).toNat * b := by
    have : ((fullS c t p).length : Int) = (((pagesI c).toNat * b : Nat) : Int) := by rw [hsl, hb, Int.natCast_mul, hN]
    exact Int.ofNat.inj this
  have hS : Shaped c (encL (c, t, p)) := by
    rw [hL]
    refine ⟨by rw [pieces_len]; exact hN, ⟨fun j hj => ?_⟩⟩
    rw [pieces_len] at hj
    rw [pieces, getD_range _ hj, hb]
    have : (j + 1) * b ≤ (pagesI c).toNat * b := Nat.mul_le_mul_right _ hj
    rw [Nat.succ_mul] at this
    simp only [List.length_take, List.length_drop]
    omega
  have hF : (encL (c, t, p)).flatten = fullS c t p := by rw [hL, flat_pieces, List.take_of_length_le (by omega)]
  have R := reads hC hn h.tree hpi h.pool
  have ht := h.tree
  have hp := h.pool
  simp only at ht hp
  refine ⟨hS, hF, ⟨hC, hS.n, hS.all, by rw [hF]; exact R.good, ?_, ?_⟩, R⟩
  · rw [hF, tree_eq R]
    exact ⟨ht.files, ht.dirs, ⟨ht.up.le, ht.up.all, ht.up.up⟩⟩
  · rw [hF, pool_eq R hp.len]
    exact ⟨hp.len, hp.qlen, ⟨hp.objs.le, fun j hj => ⟨(hp.objs.all j hj).n, (hp.objs.all j hj).t, (hp.objs.all j hj).b, (hp.objs.all j hj).o⟩⟩, ⟨hp.q.le, hp.q.all⟩⟩
theorem dec_same {c : Cfg} {t : Tree} {p : Pool} {n k : Int} {u : (Tree × Pool) × Int × Int × Int} (hF : (encL (c, t, p)).flatten = fullS c t p) (hD : DcOK c (encL (c, t, p))) (R : Reads c t p (fullS c t p)) (hu : DcPost (c, ⟨encL (c, t, p), n, k⟩) u) : SameT t u.1.1 ∧ SameP p u.1.2 := by
  rcases hu.ex with ⟨_, a, b, d, _, _, _, _, _, _, e⟩ | ⟨h, _⟩
  · simp only [hF] at e
    rw [e]
    exact ⟨R.tree a, R.pool b d⟩
  · exact absurd hD h
structure LbIn (x : Cfg × Nums × Nums) : Prop where
  cfg : CfgI64 x.1
  a : NumsOK x.2.1
  b : NumsOK x.2.2
theorem mt_eok {c : Cfg} (hC : CfgOK c) {a b : Nums} {y : Nods} {z : Pool} (hy : MtPost (c, a) y) (hz : MpPost (c, b) z) : EOK (c, ⟨c.files, c.dirs, y⟩, z) := ⟨hC, hy.fits, hz.fits⟩
end Go.PL
set_option linter.unusedSectionVars false
set_option linter.unusedSimpArgs false
set_option linter.unusedVariables false
namespace Go.Eng
variable [CW : CWorld]
open Go.Proofs Go.PL
set_option maxRecDepth 100000
attribute [local irreducible] run
noncomputable def bkSpecs : Specs := fun f a h => match f with
  | 2 => some lateMark
  | 16 => some madeSpec
  | 17 => some mtSpec
  | 18 => some mpSpec
  | 19 => some encI
  | 22 => some shSpec
  | 10 => some dcSpec
  | 12 => some stree
  | 13 => some spool
  | _ => cSpecs f a h
theorem bkSpecs_ok : SpecsOK PP bkSpecs := by
  intro CW f xs _ S h
  unfold bkSpecs at h
  split at h
  · cases h; exact lateMark_ok
  · cases h; exact madeSpec_ok
  · cases h; exact mtSpec_ok
  · cases h; exact mpSpec_ok
  · cases h; exact encI_ok
  · cases h; exact shSpec_ok
  · cases h; exact dc_ok
  · cases h; exact stree_ok
  · cases h; exact spool_ok
  · exact cSpecs_ok CW _ _ _ _ h
noncomputable def lbSpec : Spec where
  X := Cfg × Nums × Nums
  A x := [.agg (cfgL x.1), numsS x.2.1, numsS x.2.2]
  H _ := []
  pre x := PL.LbIn x
  outs := [lawOut _]
def lb_vc (ar : AR) (x : lbSpec.X) : Prop :=
  ∃ (x_1 : Cfg), x.fst.slots = x_1.slots ∧ x.fst.files = x_1.files ∧ x.fst.dirs = x_1.dirs ∧ x.fst.most = x_1.most ∧ x.fst.least = x_1.least ∧ x.fst.page = x_1.page ∧ CfgI64 x_1 ∧
  ∀ (y : Unit), True → ∃ (x_2 : Cfg × Nums), Int.add 1 (x_1.slots.emod 64) = x_2.1.slots ∧ Int.add 1 (x_1.files.emod 64) = x_2.1.files ∧ x_1.dirs.emod 64 = x_2.1.dirs ∧
  x_1.most.emod 65537 = x_2.1.most ∧ Int.add 16 (x_1.least.emod 65521) = x_2.1.least ∧ Int.add 64 (x_1.page.emod 1024) = x_2.1.page ∧ x.snd.fst.l = x_2.2.l ∧ x.snd.fst.len =
  x_2.2.len ∧ x.snd.fst.cap = x_2.2.cap ∧ MtIn x_2 ∧ ∀ (y : Nods), MtPost x_2 y → ∃ (x_3 : Cfg × Nums), Int.add 1 (x_1.slots.emod 64) = x_3.1.slots ∧ Int.add 1 (x_1.files.emod 64)
  = x_3.1.files ∧ x_1.dirs.emod 64 = x_3.1.dirs ∧ x_1.most.emod 65537 = x_3.1.most ∧ Int.add 16 (x_1.least.emod 65521) = x_3.1.least ∧ Int.add 64 (x_1.page.emod 1024) = x_3.1.page
  ∧ x.snd.snd.l = x_3.2.l ∧ x.snd.snd.len = x_3.2.len ∧ x.snd.snd.cap = x_3.2.cap ∧ MtIn x_3 ∧ ∀ (y_1 : Pool), MpPost x_3 y_1 → ∃ (x : Cfg × Tree × Pool), Int.add 1 (x_1.slots.emod
  64) = x.1.slots ∧ Int.add 1 (x_1.files.emod 64) = x.1.files ∧ x_1.dirs.emod 64 = x.1.dirs ∧ x_1.most.emod 65537 = x.1.most ∧ Int.add 16 (x_1.least.emod 65521) = x.1.least ∧
  Int.add 64 (x_1.page.emod 1024) = x.1.page ∧ x_2.1.files = x.snd.fst.files ∧ x_2.1.dirs = x.snd.fst.dirs ∧ ar.le 0 0 ∧ ar.le (ar.add 0 y.len) (ar.ilen y.K) ∧ ar.le (ar.add 0
  y.len) (ar.ilen y.N) ∧ ar.le (ar.add 0 y.len) (ar.ilen y.P) ∧ ar.le (ar.add 0 y.len) (ar.tlen y.S) ∧ ar.le (ar.add 0 y.len) (ar.ilen y.Z) ∧ ar.isub y.K 0 y.len = x.snd.fst.nods.K
  ∧ ar.isub y.N 0 y.len = x.snd.fst.nods.N ∧ ar.isub y.P 0 y.len = x.snd.fst.nods.P ∧ ar.tsub y.S 0 y.len = x.snd.fst.nods.S ∧ ar.isub y.Z 0 y.len = x.snd.fst.nods.Z ∧ y.len =
  x.snd.fst.nods.len ∧ y.cap = x.snd.fst.nods.cap ∧ ar.le 0 0 ∧ ar.le (ar.add 0 y_1.1.len) (ar.tlen y_1.1.N) ∧ ar.le (ar.add 0 y_1.1.len) (ar.tlen y_1.1.T) ∧ ar.le (ar.add 0
  y_1.1.len) (ar.ilen y_1.1.B) ∧ ar.le (ar.add 0 y_1.1.len) (ar.ilen y_1.1.O) ∧ ar.tsub y_1.1.N 0 y_1.1.len = x.snd.snd.objs.N ∧ ar.tsub y_1.1.T 0 y_1.1.len = x.snd.snd.objs.T ∧
  ar.isub y_1.1.B 0 y_1.1.len = x.snd.snd.objs.B ∧ ar.isub y_1.1.O 0 y_1.1.len = x.snd.snd.objs.O ∧ y_1.1.len = x.snd.snd.objs.len ∧ y_1.1.cap = x.snd.snd.objs.cap ∧ ar.le 0 0 ∧
  ar.le (ar.add 0 y_1.qlen) (ar.ilen y_1.q) ∧ ar.isub y_1.q 0 y_1.qlen = x.snd.snd.q ∧ y_1.qlen = x.snd.snd.qlen ∧ y_1.qcap = x.snd.snd.qcap ∧ EIn x ∧ ∀ (y_2 : Int), Enc4Post x y_2
  → ∃ (x_4 : Int), encErr x = x_4 ∧ Ints3 (x_4, x_4, x_4) ∧ ∀ (y_3 : Unit), True → ((¬ar.eq x_4 0 → False) → ∃ (x_5 : Cfg), Int.add 1 (x_1.slots.emod 64) = x_5.slots ∧ Int.add 1
  (x_1.files.emod 64) = x_5.files ∧ x_1.dirs.emod 64 = x_5.dirs ∧ x_1.most.emod 65537 = x_5.most ∧ Int.add 16 (x_1.least.emod 65521) = x_5.least ∧ Int.add 64 (x_1.page.emod 1024) =
  x_5.page ∧ CfgAny x_5 ∧ ∀ (y_4 : Unit), True → ∃ (x_6 : Int), chk x_5 = x_6 ∧ Ints3 (x_6, x_6, x_6) ∧ ∀ (y_5 : Unit), True → ((¬ar.eq x_6 0 → False) → ∃ (x_7 : Cfg × Txts),
  Int.add 1 (x_1.slots.emod 64) = x_7.1.slots ∧ Int.add 1 (x_1.files.emod 64) = x_7.1.files ∧ x_1.dirs.emod 64 = x_7.1.dirs ∧ x_1.most.emod 65537 = x_7.1.most ∧ Int.add 16
  (x_1.least.emod 65521) = x_7.1.least ∧ Int.add 64 (x_1.page.emod 1024) = x_7.1.page ∧ ar.le 0 0 ∧ ar.le (ar.add 0 (↑(encL x).length : Int)) (ar.tlen (encL x)) ∧ ar.tsub (encL x)
  0 (↑(encL x).length : Int) = x_7.2.l ∧ (↑(encL x).length : Int) = x_7.2.len ∧ (↑(encL x).length : Int) = x_7.2.cap ∧ ShIn x_7 ∧ ∀ (y_6 : Unit), True → (¬Shaped x_7.fst x_7.2.l →
  ∃ (y : Unit), True ∧ False) ∧ (¬¬Shaped x_7.fst x_7.2.l → ∃ (x_8 : Cfg × Txts), Int.add 1 (x_1.slots.emod 64) = x_8.1.slots ∧ Int.add 1 (x_1.files.emod 64) = x_8.1.files ∧
  x_1.dirs.emod 64 = x_8.1.dirs ∧ x_1.most.emod 65537 = x_8.1.most ∧ Int.add 16 (x_1.least.emod 65521) = x_8.1.least ∧ Int.add 64 (x_1.page.emod 1024) = x_8.1.page ∧ ar.le 0 0 ∧
  ar.le (ar.add 0 (↑(encL x).length : Int)) (ar.tlen (encL x)) ∧ ar.tsub (encL x) 0 (↑(encL x).length : Int) = x_8.2.l ∧ (↑(encL x).length : Int) = x_8.2.len ∧ (↑(encL x).length :
  Int) = x_8.2.cap ∧ DcIn x_8 ∧ ∀ (y_7 : (Tree × Pool) × Int × Int × Int), DcPost x_8 y_7 → ∃ (x : Int), dcE x_8.fst x_8.2.l = x ∧ Ints3 (x, x, x) ∧ ∀ (y_8 : Unit), True → (ar.eq x
  0 → ∃ (x : Tree × Tree), x_2.1.files = x.1.files ∧ x_2.1.dirs = x.1.dirs ∧ ar.le 0 0 ∧ ar.le (ar.add 0 y.len) (ar.ilen y.K) ∧ ar.le (ar.add 0 y.len) (ar.ilen y.N) ∧ ar.le (ar.add
  0 y.len) (ar.ilen y.P) ∧ ar.le (ar.add 0 y.len) (ar.tlen y.S) ∧ ar.le (ar.add 0 y.len) (ar.ilen y.Z) ∧ ar.isub y.K 0 y.len = x.fst.nods.K ∧ ar.isub y.N 0 y.len = x.fst.nods.N ∧
  ar.isub y.P 0 y.len = x.fst.nods.P ∧ ar.tsub y.S 0 y.len = x.fst.nods.S ∧ ar.isub y.Z 0 y.len = x.fst.nods.Z ∧ y.len = x.fst.nods.len ∧ y.cap = x.fst.nods.cap ∧ y_7.fst.fst.files
  = x.2.files ∧ y_7.fst.fst.dirs = x.2.dirs ∧ ar.le 0 0 ∧ ar.le (ar.add 0 y_7.fst.fst.nods.len) (ar.ilen y_7.fst.fst.nods.K) ∧ ar.le (ar.add 0 y_7.fst.fst.nods.len) (ar.ilen
  y_7.fst.fst.nods.N) ∧ ar.le (ar.add 0 y_7.fst.fst.nods.len) (ar.ilen y_7.fst.fst.nods.P) ∧ ar.le (ar.add 0 y_7.fst.fst.nods.len) (ar.tlen y_7.fst.fst.nods.S) ∧ ar.le (ar.add 0
  y_7.fst.fst.nods.len) (ar.ilen y_7.fst.fst.nods.Z) ∧ ar.isub y_7.fst.fst.nods.K 0 y_7.fst.fst.nods.len = x.snd.nods.K ∧ ar.isub y_7.fst.fst.nods.N 0 y_7.fst.fst.nods.len =
  x.snd.nods.N ∧ ar.isub y_7.fst.fst.nods.P 0 y_7.fst.fst.nods.len = x.snd.nods.P ∧ ar.tsub y_7.fst.fst.nods.S 0 y_7.fst.fst.nods.len = x.snd.nods.S ∧ ar.isub y_7.fst.fst.nods.Z 0
  y_7.fst.fst.nods.len = x.snd.nods.Z ∧ y_7.fst.fst.nods.len = x.snd.nods.len ∧ y_7.fst.fst.nods.cap = x.snd.nods.cap ∧ SameTIn x ∧ ∀ (y : Unit), True → (SameT x.fst x.snd → ∃ (x :
  Pool × Pool), ar.le 0 0 ∧ ar.le (ar.add 0 y_1.1.len) (ar.tlen y_1.1.N) ∧ ar.le (ar.add 0 y_1.1.len) (ar.tlen y_1.1.T) ∧ ar.le (ar.add 0 y_1.1.len) (ar.ilen y_1.1.B) ∧ ar.le
  (ar.add 0 y_1.1.len) (ar.ilen y_1.1.O) ∧ ar.tsub y_1.1.N 0 y_1.1.len = x.fst.objs.N ∧ ar.tsub y_1.1.T 0 y_1.1.len = x.fst.objs.T ∧ ar.isub y_1.1.B 0 y_1.1.len = x.fst.objs.B ∧
  ar.isub y_1.1.O 0 y_1.1.len = x.fst.objs.O ∧ y_1.1.len = x.fst.objs.len ∧ y_1.1.cap = x.fst.objs.cap ∧ ar.le 0 0 ∧ ar.le (ar.add 0 y_1.qlen) (ar.ilen y_1.q) ∧ ar.isub y_1.q 0
  y_1.qlen = x.1.q ∧ y_1.qlen = x.1.qlen ∧ y_1.qcap = x.1.qcap ∧ ar.le 0 0 ∧ ar.le (ar.add 0 y_7.fst.snd.objs.len) (ar.tlen y_7.fst.snd.objs.N) ∧ ar.le (ar.add 0
  y_7.fst.snd.objs.len) (ar.tlen y_7.fst.snd.objs.T) ∧ ar.le (ar.add 0 y_7.fst.snd.objs.len) (ar.ilen y_7.fst.snd.objs.B) ∧ ar.le (ar.add 0 y_7.fst.snd.objs.len) (ar.ilen
  y_7.fst.snd.objs.O) ∧ ar.tsub y_7.fst.snd.objs.N 0 y_7.fst.snd.objs.len = x.snd.objs.N ∧ ar.tsub y_7.fst.snd.objs.T 0 y_7.fst.snd.objs.len = x.snd.objs.T ∧ ar.isub
  y_7.fst.snd.objs.B 0 y_7.fst.snd.objs.len = x.snd.objs.B ∧ ar.isub y_7.fst.snd.objs.O 0 y_7.fst.snd.objs.len = x.snd.objs.O ∧ y_7.fst.snd.objs.len = x.snd.objs.len ∧
  y_7.fst.snd.objs.cap = x.snd.objs.cap ∧ ar.le 0 0 ∧ ar.le (ar.add 0 y_7.fst.snd.qlen) (ar.ilen y_7.fst.snd.q) ∧ ar.isub y_7.fst.snd.q 0 y_7.fst.snd.qlen = x.2.q ∧
  y_7.fst.snd.qlen = x.2.qlen ∧ y_7.fst.snd.qcap = x.2.qcap ∧ SamePIn x ∧ ∀ (y : Unit), True → ∃ (y : Unit), True ∧ (SameP x.fst x.snd ↔ true = true) ∧ True) ∧ (¬SameT x.fst x.snd
  → ∃ (y : Unit), True ∧ False)) ∧ (¬ar.eq x 0 → ∃ (y : Unit), True ∧ False))) ∧ (¬(¬ar.eq x_6 0 → False) → ∃ (y : Unit), True ∧ False)) ∧ (¬(¬ar.eq x_4 0 → False) → ∃ (y : Unit),
  True ∧ False)
theorem lb_eq (ar : AR) (x : lbSpec.X) : (run ar PP bkSpecs noInv 1000 5 (lbSpec.H x).length (Tryd.f5.body.getD .skip) (lbSpec.A x ++ List.replicate (Tryd.f5.ntmps - (lbSpec.A x).length) .any) (lbSpec.H x) (endCall ar PP Tryd.f5.results.toList (lbSpec.fin x))) = lb_vc ar x := by
  kernel_rfl
theorem lb_of (h : ∀ x, lbSpec.pre x → lb_vc ar0 x) : lbSpec.OK PP 5 :=
  Spec.ok_of_run (fn := Tryd.f5) (c := Tryd.f5.body.getD .skip) (by kernel_rfl) (by kernel_rfl) (by kernel_rfl) bkSpecs_ok (fun _ => noInv) 1000 (fun x hx => (lb_eq ar0 x).mpr (h x hx))
theorem ex_cfg6 {a b c d e f : Int} {Q : Cfg → Prop} : (∃ y : Cfg, a = y.slots ∧ b = y.files ∧ c = y.dirs ∧ d = y.most ∧ e = y.least ∧ f = y.page ∧ Q y) ↔ Q ⟨a, b, c, d, e, f⟩ := by
  constructor
  · rintro ⟨⟨a, b, c, d, e, f⟩, h1, h2, h3, h4, h5, h6, h⟩
    simp only at h1 h2 h3 h4 h5 h6
    subst h1 h2 h3 h4 h5 h6
    exact h
  · exact fun h => ⟨_, rfl, rfl, rfl, rfl, rfl, rfl, h⟩
theorem ex_cn {a b c d e f n k : Int} {l : List Int} {Q : Cfg × Nums → Prop} : (∃ y : Cfg × Nums, a = y.1.slots ∧ b = y.1.files ∧ c = y.1.dirs ∧ d = y.1.most ∧ e = y.1.least ∧ f = y.1.page ∧ l = y.2.l ∧ n = y.2.len ∧ k = y.2.cap ∧ Q y) ↔ Q (⟨a, b, c, d, e, f⟩, ⟨l, n, k⟩) := by
  constructor
  · rintro ⟨⟨⟨a, b, c, d, e, f⟩, ⟨l, n, k⟩⟩, h1, h2, h3, h4, h5, h6, h7, h8, h9, h⟩
    simp only at h1 h2 h3 h4 h5 h6 h7 h8 h9
    subst h1 h2 h3 h4 h5 h6 h7 h8 h9
    exact h
  · exact fun h => ⟨_, rfl, rfl, rfl, rfl, rfl, rfl, rfl, rfl, rfl, h⟩
theorem ex_ct6 {a b c d e f n k : Int} {l : List (List UInt8)} {Q : Cfg × Txts → Prop} : (∃ y : Cfg × Txts, a = y.1.slots ∧ b = y.1.files ∧ c = y.1.dirs ∧ d = y.1.most ∧ e = y.1.least ∧ f = y.1.page ∧ l = y.2.l ∧ n = y.2.len ∧ k = y.2.cap ∧ Q y) ↔ Q (⟨a, b, c, d, e, f⟩, ⟨l, n, k⟩) := by
  constructor
  · rintro ⟨⟨⟨a, b, c, d, e, f⟩, ⟨l, n, k⟩⟩, h1, h2, h3, h4, h5, h6, h7, h8, h9, h⟩
    simp only at h1 h2 h3 h4 h5 h6 h7 h8 h9
    subst h1 h2 h3 h4 h5 h6 h7 h8 h9
    exact h
  · exact fun h => ⟨_, rfl, rfl, rfl, rfl, rfl, rfl, rfl, rfl, rfl, h⟩
theorem made_eta (c : Cfg) : (⟨1 + c.slots % 64, 1 + c.files % 64, c.dirs % 64, c.most % 65537, 16 + c.least % 65521, 64 + c.page % 1024⟩ : Cfg) = made c := rfl
theorem take_self (l : List (List UInt8)) : List.take l.length (List.drop (Int.toNat 0) l) = l := by simp
theorem lbSpec_ok : lbSpec.OK PP 5 := by
  refine lb_of fun x hx => ?_
  obtain ⟨c, a, b⟩ := x
  obtain ⟨h1, h2, h3⟩ : PL.LbIn (c, a, b) := hx
  simp only at h1 h2 h3
  unfold lb_vc
  simp only [ars, ars2, ars3, ex_cfg, ex_cfg6, ex_cn, ex_ct6, ex_intx, cfgAny, ints3, true_and, and_true, exists_const, forall_const, forall_eq, imp_false, Classical.not_not, Int.toNat_natCast, Int.zero_add, Int.le_refl, made_eta, take_self]
  have hC := made_ok c
  have hci := hC.ok
  refine ⟨h1, ⟨hci, h2⟩, fun y hy => ⟨⟨hci, h3⟩, fun z hz => ?_⟩⟩
  obtain ⟨k1, k2, k3, k4, k5, k6⟩ := id hy.ok
  obtain ⟨p0, p1, p2, p3, p4, p5, p6, p7⟩ := id hz.ok
  simp only at p0 p1 p2 p3 p4 p5 p6 p7
  have hE := mt_eok hC hy hz
  obtain ⟨hS, hF, hD, R⟩ := enc_dec hE hy.ok hz.ok
  simp only [k1, k2, k3, k4, k5, p1, p2, p3, p4, p5, dropz k1, dropz k2, dropz k3, dropz k4, dropz k5, dropz p1, dropz p2, dropz p3, dropz p4, dropz p5, Int.le_refl, true_and]
  refine ⟨(made c, ⟨(made c).files, (made c).dirs, y⟩, z), rfl, rfl, rfl, rfl, rfl, rfl, rfl, rfl, rfl, rfl, rfl, rfl, rfl, rfl, rfl, rfl, rfl, rfl, rfl, rfl, rfl, rfl, rfl, rfl, ⟨hy.ok, fun _ => hz.ok⟩, fun d hd => ?_⟩
  have hlen : ((encL (made c, ⟨(made c).files, (made c).dirs, y⟩, z)).length : Int) ≤ 140737488351232 := by
    have h4 := hS.n
    have h5 := hC.pages
    omega
  refine ⟨fun _ => ⟨fun _ => ⟨⟨hC, rfl⟩, hS, fun _ => ⟨⟨rfl, hlen⟩, fun u hu => ⟨fun _ => ?_, dcE_ok hD⟩⟩⟩, PL.chk_ok hC⟩, PL.encErr_ok hE⟩
  obtain ⟨s1, s2⟩ := dec_same hF hD R hu
  obtain ⟨⟨j1, j2, j3, j4, j5, j6⟩, ⟨⟨j7, j8, j9, j10, j11⟩, j12, j13⟩⟩ := dcPost_any hu
  simp only [j1, j2, j3, j4, j5, j7, j8, j9, j10, j12, dropz j1, dropz j2, dropz j3, dropz j4, dropz j5, dropz j7, dropz j8, dropz j9, dropz j10, dropz j12, Int.le_refl, true_and]
  refine ⟨(⟨(made c).files, (made c).dirs, y⟩, u.1.1), rfl, rfl, rfl, rfl, rfl, rfl, rfl, rfl, rfl, rfl, rfl, rfl, rfl, rfl, rfl, rfl, rfl, rfl, ⟨hy.ok, ⟨j1, j2, j3, j4, j5, j6⟩⟩, fun _ => ?_, s1⟩
  refine ⟨(z, u.1.2), rfl, rfl, rfl, rfl, rfl, rfl, rfl, rfl, rfl, rfl, rfl, rfl, rfl, rfl, rfl, rfl, rfl, rfl, ⟨⟨⟨p1, p2, p3, p4, p6⟩, p5, p7⟩, ⟨⟨j7, j8, j9, j10, j11⟩, j12, j13⟩⟩, ?_⟩
  exact ⟨fun _ => trivial, fun _ => s2⟩
end Go.Eng
