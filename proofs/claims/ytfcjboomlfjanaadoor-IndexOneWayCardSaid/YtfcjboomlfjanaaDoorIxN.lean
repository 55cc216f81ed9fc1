/- Index: the law IndexOneWay. -/
import Derived.Test.YtfcjboomlfjanaaDoorIxL
import Derived.Test.YtfcjboomlfjanaaDoorIxM
set_option linter.unusedVariables false
set_option linter.unusedSimpArgs false

/- Index: a state's pages do not hang on its lists' capacities. -/
set_option linter.unusedVariables false
namespace Go.PL
theorem slot_cap {K N P : List Int} {S : List (List UInt8)} {Z : List Int} {len cap cap' : Int} (v : Int) (w : Nat) : slot ⟨K, N, P, S, Z, len, cap⟩ v w = slot ⟨K, N, P, S, Z, len, cap'⟩ v w := rfl
theorem dirsS_cap {K N P : List Int} {S : List (List UInt8)} {Z : List Int} {len cap : Int} (cap' : Int) : ∀ k, dirsS ⟨K, N, P, S, Z, len, cap⟩ k = dirsS ⟨K, N, P, S, Z, len, cap'⟩ k
  | 0 => rfl
  | k + 1 => by rw [dirsS, dirsS, dirsS_cap cap' k, slot_cap]
theorem filesS_cap {K N P : List Int} {S : List (List UInt8)} {Z : List Int} {len cap : Int} (cap' : Int) : ∀ k, filesS ⟨K, N, P, S, Z, len, cap⟩ k = filesS ⟨K, N, P, S, Z, len, cap'⟩ k
  | 0 => rfl
  | k + 1 => by rw [filesS, filesS, filesS_cap cap' k, slot_cap]
theorem objsL_cap {N T : List (List UInt8)} {B O : List Int} {len cap : Int} (cap' : Int) : ∀ k, objsL ⟨N, T, B, O, len, cap⟩ k = objsL ⟨N, T, B, O, len, cap'⟩ k
  | 0 => rfl
  | k + 1 => by rw [objsL, objsL, objsL_cap cap' k]; rfl
theorem fullS_cap {c : Cfg} {tf td : Int} {K N P : List Int} {S : List (List UInt8)} {Z : List Int} {len cap : Int} {oN oT : List (List UInt8)} {oB oO : List Int} {ol oc : Int} {q : List Int} {ql qc : Int} (k1 k2 k3 : Int) :
    fullS c ⟨tf, td, ⟨K, N, P, S, Z, len, cap⟩⟩ ⟨⟨oN, oT, oB, oO, ol, oc⟩, q, ql, qc⟩ = fullS c ⟨tf, td, ⟨K, N, P, S, Z, len, k1⟩⟩ ⟨⟨oN, oT, oB, oO, ol, k2⟩, q, ql, k3⟩ := by
  simp only [fullS, imgS, dirsS_cap (cap := cap) k1, filesS_cap (cap := cap) k1, objsL_cap (cap := oc) k2]
theorem treeOK_cap {c : Cfg} {tf td : Int} {K N P : List Int} {S : List (List UInt8)} {Z : List Int} {len cap : Int} (k1 : Int) : TreeOK c ⟨tf, td, ⟨K, N, P, S, Z, len, cap⟩⟩ ↔ TreeOK c ⟨tf, td, ⟨K, N, P, S, Z, len, k1⟩⟩ :=
  ⟨fun ⟨h1, h2, ⟨h3, h4, h5⟩⟩ => ⟨h1, h2, ⟨h3, h4, h5⟩⟩, fun ⟨h1, h2, ⟨h3, h4, h5⟩⟩ => ⟨h1, h2, ⟨h3, h4, h5⟩⟩⟩
theorem poolOK_cap {c : Cfg} {oN oT : List (List UInt8)} {oB oO : List Int} {ol oc : Int} {q : List Int} {ql qc : Int} (k2 k3 : Int) : PoolOK c ⟨⟨oN, oT, oB, oO, ol, oc⟩, q, ql, qc⟩ ↔ PoolOK c ⟨⟨oN, oT, oB, oO, ol, k2⟩, q, ql, k3⟩ :=
  ⟨fun ⟨h1, h2, ⟨h3, h4⟩, h5⟩ => ⟨h1, h2, ⟨h3, fun j hj => ⟨(h4 j hj).n, (h4 j hj).t, (h4 j hj).b, (h4 j hj).o⟩⟩, h5⟩, fun ⟨h1, h2, ⟨h3, h4⟩, h5⟩ => ⟨h1, h2, ⟨h3, fun j hj => ⟨(h4 j hj).n, (h4 j hj).t, (h4 j hj).b, (h4 j hj).o⟩⟩, h5⟩⟩
theorem enc_cap {c : Cfg} {tf td : Int} {K N P : List Int} {S : List (List UInt8)} {Z : List Int} {len cap : Int} {oN oT : List (List UInt8)} {oB oO : List Int} {ol oc : Int} {q : List Int} {ql qc : Int} (k1 k2 k3 : Int) :
    encL (c, ⟨tf, td, ⟨K, N, P, S, Z, len, cap⟩⟩, ⟨⟨oN, oT, oB, oO, ol, oc⟩, q, ql, qc⟩) = encL (c, ⟨tf, td, ⟨K, N, P, S, Z, len, k1⟩⟩, ⟨⟨oN, oT, oB, oO, ol, k2⟩, q, ql, k3⟩) ∧
    encErr (c, ⟨tf, td, ⟨K, N, P, S, Z, len, cap⟩⟩, ⟨⟨oN, oT, oB, oO, ol, oc⟩, q, ql, qc⟩) = encErr (c, ⟨tf, td, ⟨K, N, P, S, Z, len, k1⟩⟩, ⟨⟨oN, oT, oB, oO, ol, k2⟩, q, ql, k3⟩) := by
  have ht := treeOK_cap (c := c) (tf := tf) (td := td) (K := K) (N := N) (P := P) (S := S) (Z := Z) (len := len) (cap := cap) k1
  have hp := poolOK_cap (c := c) (oN := oN) (oT := oT) (oB := oB) (oO := oO) (ol := ol) (oc := oc) (q := q) (ql := ql) (qc := qc) k2 k3
  constructor
  · by_cases h : EOK (c, ⟨tf, td, ⟨K, N, P, S, Z, len, cap⟩⟩, ⟨⟨oN, oT, oB, oO, ol, oc⟩, q, ql, qc⟩)
    · have h' : EOK (c, ⟨tf, td, ⟨K, N, P, S, Z, len, k1⟩⟩, ⟨⟨oN, oT, oB, oO, ol, k2⟩, q, ql, k3⟩) := ⟨h.cfg, ht.1 h.tree, hp.1 h.pool⟩
      rw [encL_ok h, encL_ok h']
      simp only
      rw [fullS_cap k1 k2 k3]
    · have h' : ¬ EOK (c, ⟨tf, td, ⟨K, N, P, S, Z, len, k1⟩⟩, ⟨⟨oN, oT, oB, oO, ol, k2⟩, q, ql, k3⟩) := fun h' => h ⟨h'.cfg, ht.2 h'.tree, hp.2 h'.pool⟩
      rw [encL_no h, encL_no h']
  · unfold encErr
    simp only
    by_cases hc : CfgOK c
    · rw [if_pos hc, if_pos hc]
      by_cases a : TreeOK c ⟨tf, td, ⟨K, N, P, S, Z, len, cap⟩⟩
      · rw [if_pos a, if_pos (ht.1 a)]
        by_cases b : PoolOK c ⟨⟨oN, oT, oB, oO, ol, oc⟩, q, ql, qc⟩
        · rw [if_pos b, if_pos (hp.1 b)]
        · rw [if_neg b, if_neg (fun h => b (hp.2 h))]
      · rw [if_neg a, if_neg (fun h => a (ht.2 h))]
    · rw [if_neg hc, if_neg hc]
end Go.PL

namespace Go.PL
structure LoIn (x : Cfg × Nums × Nums × Int × Int) : Prop where
  cfg : CfgI64 x.1
  a : NumsOK x.2.1
  b : NumsOK x.2.2.1
  p : I64 x.2.2.2.1
  q : I64 x.2.2.2.2
/-- The same state, written: the same pages. -/
theorem enc_same {c : Cfg} {t u : Tree} {p q : Pool} (ht : NodsOK t.nods) (hu : NodsOK u.nods) (hp : PoolAny p) (hq : PoolAny q) (h1 : SameT t u) (h2 : SameP p q) : encL (c, t, p) = encL (c, u, q) := by
  obtain ⟨t1, t2, ⟨K, N, P, S, Z, len, cap⟩⟩ := t
  obtain ⟨u1, u2, ⟨K', N', P', S', Z', len', cap'⟩⟩ := u
  obtain ⟨⟨oN, oT, oB, oO, ol, oc⟩, pq, ql, qc⟩ := p
  obtain ⟨⟨oN', oT', oB', oO', ol', oc'⟩, pq', ql', qc'⟩ := q
  obtain ⟨a1, a2, ⟨a3, a4, a5, a6, a7⟩⟩ := h1
  obtain ⟨b1, b2, b3, b4, b5⟩ := h2
  have k1 := ht.k
  have k2 := hu.k
  have k3 := hp.objs.n
  have k4 := hq.objs.n
  have k5 := hp.q
  have k6 := hq.q
  simp only at a1 a2 a3 a4 a5 a6 a7 b1 b2 b3 b4 b5 k1 k2 k3 k4 k5 k6
  subst a1 a2 a3 a4 a5 a6 a7 b1 b2 b3 b4 b5
  obtain rfl : len = len' := by omega
  obtain rfl : ol = ol' := by omega
  obtain rfl : ql = ql' := by omega
  exact (enc_cap cap' oc' qc').1
theorem dcPost_no {x : Cfg × Txts} {y : (Tree × Pool) × Int × Int × Int} (hn : ¬ DcOK x.1 x.2.l) (h : DcPost x y) : y = ((noTree, noPool), 0, 0, 0) := by
  rcases h.ex with ⟨hD, _⟩ | ⟨_, e⟩
  · exact absurd hD hn
  · exact e
theorem xor_ne {a b : UInt8} (h : b ≠ 0) : a ^^^ b ≠ a := fun e => h (by
  have : a ^^^ (a ^^^ b) = a ^^^ a := by rw [e]
  rwa [← UInt8.xor_assoc, UInt8.xor_self, UInt8.zero_xor] at this)
end Go.PL
set_option linter.unusedSectionVars false
set_option linter.unusedSimpArgs false
set_option linter.unusedVariables false
namespace Go.Eng
variable [CW : CWorld]
open Go.Proofs Go.PL
set_option maxRecDepth 100000
attribute [local irreducible] run
noncomputable def owSpecs : Specs := fun f a h => match f with
  | 23 => some modSpec
  | 15 => some stSpec
  | _ => bkSpecs f a h
theorem owSpecs_ok : SpecsOK PP owSpecs := by
  intro CW f xs _ S h
  unfold owSpecs at h
  split at h
  · cases h; exact modSpec_ok
  · cases h; exact stSpec_ok
  · exact bkSpecs_ok CW _ _ _ _ h
noncomputable def loSpec : Spec where
  X := Cfg × Nums × Nums × Int × Int
  A x := [.agg (cfgL x.1), numsS x.2.1, numsS x.2.2.1, .int .i64 (.x x.2.2.2.1), .int .i64 (.x x.2.2.2.2)]
  H _ := []
  pre x := PL.LoIn x
  outs := [lawOut _]
def lo_vc (ar : AR) (x : loSpec.X) : Prop :=
  ∃ (x_1 : Cfg), x.fst.slots = x_1.slots ∧ x.fst.files = x_1.files ∧ x.fst.dirs = x_1.dirs ∧ x.fst.most = x_1.most ∧ x.fst.least = x_1.least ∧ x.fst.page = x_1.page ∧ CfgI64 x_1 ∧
  ∀ (y : Unit), True → ∃ (x_2 : Cfg × Nums), Int.add 1 (x_1.slots.emod 64) = x_2.1.slots ∧ Int.add 1 (x_1.files.emod 64) = x_2.1.files ∧ x_1.dirs.emod 64 = x_2.1.dirs ∧
  x_1.most.emod 65537 = x_2.1.most ∧ Int.add 16 (x_1.least.emod 65521) = x_2.1.least ∧ Int.add 64 (x_1.page.emod 1024) = x_2.1.page ∧ x.snd.fst.l = x_2.2.l ∧ x.snd.fst.len =
  x_2.2.len ∧ x.snd.fst.cap = x_2.2.cap ∧ MtIn x_2 ∧ ∀ (y : Nods), MtPost x_2 y → ∃ (x_3 : Cfg × Nums), Int.add 1 (x_1.slots.emod 64) = x_3.1.slots ∧ Int.add 1 (x_1.files.emod 64)
  = x_3.1.files ∧ x_1.dirs.emod 64 = x_3.1.dirs ∧ x_1.most.emod 65537 = x_3.1.most ∧ Int.add 16 (x_1.least.emod 65521) = x_3.1.least ∧ Int.add 64 (x_1.page.emod 1024) = x_3.1.page
  ∧ x.snd.snd.fst.l = x_3.2.l ∧ x.snd.snd.fst.len = x_3.2.len ∧ x.snd.snd.fst.cap = x_3.2.cap ∧ MtIn x_3 ∧ ∀ (y_1 : Pool), MpPost x_3 y_1 → ∃ (x_4 : Cfg × Tree × Pool), Int.add 1
  (x_1.slots.emod 64) = x_4.1.slots ∧ Int.add 1 (x_1.files.emod 64) = x_4.1.files ∧ x_1.dirs.emod 64 = x_4.1.dirs ∧ x_1.most.emod 65537 = x_4.1.most ∧ Int.add 16 (x_1.least.emod
  65521) = x_4.1.least ∧ Int.add 64 (x_1.page.emod 1024) = x_4.1.page ∧ x_2.1.files = x_4.snd.fst.files ∧ x_2.1.dirs = x_4.snd.fst.dirs ∧ ar.le 0 0 ∧ ar.le (ar.add 0 y.len)
  (ar.ilen y.K) ∧ ar.le (ar.add 0 y.len) (ar.ilen y.N) ∧ ar.le (ar.add 0 y.len) (ar.ilen y.P) ∧ ar.le (ar.add 0 y.len) (ar.tlen y.S) ∧ ar.le (ar.add 0 y.len) (ar.ilen y.Z) ∧
  ar.isub y.K 0 y.len = x_4.snd.fst.nods.K ∧ ar.isub y.N 0 y.len = x_4.snd.fst.nods.N ∧ ar.isub y.P 0 y.len = x_4.snd.fst.nods.P ∧ ar.tsub y.S 0 y.len = x_4.snd.fst.nods.S ∧
  ar.isub y.Z 0 y.len = x_4.snd.fst.nods.Z ∧ y.len = x_4.snd.fst.nods.len ∧ y.cap = x_4.snd.fst.nods.cap ∧ ar.le 0 0 ∧ ar.le (ar.add 0 y_1.1.len) (ar.tlen y_1.1.N) ∧ ar.le (ar.add
  0 y_1.1.len) (ar.tlen y_1.1.T) ∧ ar.le (ar.add 0 y_1.1.len) (ar.ilen y_1.1.B) ∧ ar.le (ar.add 0 y_1.1.len) (ar.ilen y_1.1.O) ∧ ar.tsub y_1.1.N 0 y_1.1.len = x_4.snd.snd.objs.N ∧
  ar.tsub y_1.1.T 0 y_1.1.len = x_4.snd.snd.objs.T ∧ ar.isub y_1.1.B 0 y_1.1.len = x_4.snd.snd.objs.B ∧ ar.isub y_1.1.O 0 y_1.1.len = x_4.snd.snd.objs.O ∧ y_1.1.len =
  x_4.snd.snd.objs.len ∧ y_1.1.cap = x_4.snd.snd.objs.cap ∧ ar.le 0 0 ∧ ar.le (ar.add 0 y_1.qlen) (ar.ilen y_1.q) ∧ ar.isub y_1.q 0 y_1.qlen = x_4.snd.snd.q ∧ y_1.qlen =
  x_4.snd.snd.qlen ∧ y_1.qcap = x_4.snd.snd.qcap ∧ EIn x_4 ∧ ∀ (y_2 : Int), Enc4Post x_4 y_2 → ∃ (x_5 : Int), encErr x_4 = x_5 ∧ Ints3 (x_5, x_5, x_5) ∧ ∀ (y_3 : Unit), True →
  ((¬ar.eq x_5 0 → False) → ∃ (x_6 : Cfg × Txts), Int.add 1 (x_1.slots.emod 64) = x_6.1.slots ∧ Int.add 1 (x_1.files.emod 64) = x_6.1.files ∧ x_1.dirs.emod 64 = x_6.1.dirs ∧
  x_1.most.emod 65537 = x_6.1.most ∧ Int.add 16 (x_1.least.emod 65521) = x_6.1.least ∧ Int.add 64 (x_1.page.emod 1024) = x_6.1.page ∧ ar.le 0 0 ∧ ar.le (ar.add 0 (↑(encL
  x_4).length : Int)) (ar.tlen (encL x_4)) ∧ ar.tsub (encL x_4) 0 (↑(encL x_4).length : Int) = x_6.2.l ∧ (↑(encL x_4).length : Int) = x_6.2.len ∧ (↑(encL x_4).length : Int) =
  x_6.2.cap ∧ ShIn x_6 ∧ ∀ (y_4 : Unit), True → (¬Shaped x_6.fst x_6.2.l → ∃ (y : Unit), True ∧ False) ∧ (¬¬Shaped x_6.fst x_6.2.l → ∀ (z : Int), z = ar.wrap IntKind.i64 (ar.sub
  (Int.add 64 (x_1.page.emod 1024)) 5) → ∀ (z_1 : Int), z_1 = ar.wrap IntKind.i64 (ar.mul (↑(encL x_4).length : Int) z) → ∃ (x_7 : Int × Int), x.snd.snd.snd.fst = x_7.fst ∧ z_1 =
  x_7.snd ∧ ModIn x_7 ∧ ∀ (y_5 : Unit), True → ∀ (z : Int), z = ar.wrap IntKind.i64 (ar.sub (Int.add 64 (x_1.page.emod 1024)) 5) → ¬ar.eq z 0 ∧ ∀ (z_2 : Int), z_2 = ar.wrap
  IntKind.i64 (ar.quo (x_7.fst.emod x_7.snd) z) → ∀ (z : Int), z = ar.wrap IntKind.i64 (ar.sub (Int.add 64 (x_1.page.emod 1024)) 5) → ¬ar.eq z 0 ∧ ∀ (z_3 : Int), z_3 = ar.rem
  (x_7.fst.emod x_7.snd) z → ∃ (x_8 : Int × Int), x.snd.snd.snd.snd = x_8.fst ∧ 255 = x_8.snd ∧ ModIn x_8 ∧ ∀ (y_6 : Unit), True → ∀ (z : Int), z = ar.wrap IntKind.i64 (ar.add 1
  (x_8.fst.emod x_8.snd)) → ∀ (z_4 : Int), z_4 = ar.wrap IntKind.u8 z → ar.le 0 0 ∧ ar.le (ar.add 0 (↑(encL x_4).length : Int)) (ar.tlen (encL x_4)) ∧ ar.le (ar.mul (↑(encL
  x_4).length : Int) 16) 140737488355328 ∧ ∀ (c : Int), ar.le (↑(encL x_4).length : Int) c → ar.le 0 z_2 ∧ ar.lt z_2 (↑(encL x_4).length : Int) ∧ ar.le 0 z_2 ∧ ar.lt z_2 (ar.tlen
  (encL x_4)) ∧ ar.le 0 z_3 ∧ ar.le z_3 (ar.slen (ar.tget (encL x_4) z_2)) ∧ ∀ (t : List UInt8), t = ar.sext (ar.tget (encL x_4) z_2) 0 z_3 → ar.le 0 z_2 ∧ ar.lt z_2 (↑(encL
  x_4).length : Int) ∧ ar.le 0 z_2 ∧ ar.lt z_2 (ar.tlen (encL x_4)) ∧ ar.le 0 z_3 ∧ ar.lt z_3 (ar.slen (ar.tget (encL x_4) z_2)) ∧ ∀ (z : Int), z = ar.sget (ar.tget (encL x_4) z_2)
  z_3 → ∀ (z_5 : Int), z_5 = ar.bxor IntKind.u8 z z_4 → ar.le 0 z_2 ∧ ar.lt z_2 (↑(encL x_4).length : Int) ∧ ar.le 0 z_2 ∧ ar.lt z_2 (ar.tlen (encL x_4)) ∧ ∀ (z : Int), z = ar.wrap
  IntKind.i64 (ar.add z_3 1) → ar.le 0 z ∧ ar.le z (ar.slen (ar.tget (encL x_4) z_2)) ∧ ∀ (t_1 : List UInt8), t_1 = ar.sext (ar.tget (encL x_4) z_2) z (ar.slen (ar.tget (encL x_4)
  z_2)) → ∀ (t_2 : List UInt8), t_2 = ar.bytes [z_5] → ar.le (ar.add (ar.slen t) (ar.slen t_2)) 9223372036854775807 ∧ ∀ (t_3 : List UInt8), t_3 = ar.sapp t t_2 → ar.le (ar.add
  (ar.slen t_3) (ar.slen t_1)) 9223372036854775807 ∧ ∀ (t : List UInt8), t = ar.sapp t_3 t_1 → ar.le 0 z_2 ∧ ar.lt z_2 (↑(encL x_4).length : Int) ∧ ar.le 0 z_2 ∧ ar.lt z_2 (ar.tlen
  (ar.tsub (encL x_4) 0 (↑(encL x_4).length : Int))) ∧ ∃ (x : Cfg × Txts), Int.add 1 (x_1.slots.emod 64) = x.1.slots ∧ Int.add 1 (x_1.files.emod 64) = x.1.files ∧ x_1.dirs.emod 64
  = x.1.dirs ∧ x_1.most.emod 65537 = x.1.most ∧ Int.add 16 (x_1.least.emod 65521) = x.1.least ∧ Int.add 64 (x_1.page.emod 1024) = x.1.page ∧ ar.le 0 0 ∧ ar.le (ar.add 0 (↑(encL
  x_4).length : Int)) (ar.tlen (ar.tset (ar.tsub (encL x_4) 0 (↑(encL x_4).length : Int)) z_2 t)) ∧ ar.tsub (ar.tset (ar.tsub (encL x_4) 0 (↑(encL x_4).length : Int)) z_2 t) 0
  (↑(encL x_4).length : Int) = x.2.l ∧ (↑(encL x_4).length : Int) = x.2.len ∧ c = x.2.cap ∧ DcIn x ∧ ∀ (y_7 : (Tree × Pool) × Int × Int × Int), DcPost x y_7 → ∃ (x_9 : Int), dcE
  x.fst x.2.l = x_9 ∧ Ints3 (x_9, x_9, x_9) ∧ ∀ (y_8 : Unit), True → (¬ar.eq x_9 0 → ∃ (x_10 : Int), dcE x.fst x.2.l = x_10 ∧ Ints3 (x_10, x_10, x_10) ∧ ∀ (y : Unit), True → (ar.eq
  x_10 141 → (ar.eq y_7.fst.fst.nods.len 0 → ∃ (y : Unit), True ∧ (ar.eq y_7.fst.snd.objs.len 0 ↔ true = true) ∧ True) ∧ (¬ar.eq y_7.fst.fst.nods.len 0 → ∃ (y : Unit), True ∧
  False)) ∧ (¬ar.eq x_10 141 → ∃ (y : Unit), True ∧ False)) ∧ (¬¬ar.eq x_9 0 → ∃ (x : Cfg × Tree × Pool), Int.add 1 (x_1.slots.emod 64) = x.1.slots ∧ Int.add 1 (x_1.files.emod 64)
  = x.1.files ∧ x_1.dirs.emod 64 = x.1.dirs ∧ x_1.most.emod 65537 = x.1.most ∧ Int.add 16 (x_1.least.emod 65521) = x.1.least ∧ Int.add 64 (x_1.page.emod 1024) = x.1.page ∧
  y_7.fst.fst.files = x.snd.fst.files ∧ y_7.fst.fst.dirs = x.snd.fst.dirs ∧ ar.le 0 0 ∧ ar.le (ar.add 0 y_7.fst.fst.nods.len) (ar.ilen y_7.fst.fst.nods.K) ∧ ar.le (ar.add 0
  y_7.fst.fst.nods.len) (ar.ilen y_7.fst.fst.nods.N) ∧ ar.le (ar.add 0 y_7.fst.fst.nods.len) (ar.ilen y_7.fst.fst.nods.P) ∧ ar.le (ar.add 0 y_7.fst.fst.nods.len) (ar.tlen
  y_7.fst.fst.nods.S) ∧ ar.le (ar.add 0 y_7.fst.fst.nods.len) (ar.ilen y_7.fst.fst.nods.Z) ∧ ar.isub y_7.fst.fst.nods.K 0 y_7.fst.fst.nods.len = x.snd.fst.nods.K ∧ ar.isub
  y_7.fst.fst.nods.N 0 y_7.fst.fst.nods.len = x.snd.fst.nods.N ∧ ar.isub y_7.fst.fst.nods.P 0 y_7.fst.fst.nods.len = x.snd.fst.nods.P ∧ ar.tsub y_7.fst.fst.nods.S 0
  y_7.fst.fst.nods.len = x.snd.fst.nods.S ∧ ar.isub y_7.fst.fst.nods.Z 0 y_7.fst.fst.nods.len = x.snd.fst.nods.Z ∧ y_7.fst.fst.nods.len = x.snd.fst.nods.len ∧ y_7.fst.fst.nods.cap
  = x.snd.fst.nods.cap ∧ ar.le 0 0 ∧ ar.le (ar.add 0 y_7.fst.snd.objs.len) (ar.tlen y_7.fst.snd.objs.N) ∧ ar.le (ar.add 0 y_7.fst.snd.objs.len) (ar.tlen y_7.fst.snd.objs.T) ∧ ar.le
  (ar.add 0 y_7.fst.snd.objs.len) (ar.ilen y_7.fst.snd.objs.B) ∧ ar.le (ar.add 0 y_7.fst.snd.objs.len) (ar.ilen y_7.fst.snd.objs.O) ∧ ar.tsub y_7.fst.snd.objs.N 0
  y_7.fst.snd.objs.len = x.snd.snd.objs.N ∧ ar.tsub y_7.fst.snd.objs.T 0 y_7.fst.snd.objs.len = x.snd.snd.objs.T ∧ ar.isub y_7.fst.snd.objs.B 0 y_7.fst.snd.objs.len =
  x.snd.snd.objs.B ∧ ar.isub y_7.fst.snd.objs.O 0 y_7.fst.snd.objs.len = x.snd.snd.objs.O ∧ y_7.fst.snd.objs.len = x.snd.snd.objs.len ∧ y_7.fst.snd.objs.cap = x.snd.snd.objs.cap ∧
  ar.le 0 0 ∧ ar.le (ar.add 0 y_7.fst.snd.qlen) (ar.ilen y_7.fst.snd.q) ∧ ar.isub y_7.fst.snd.q 0 y_7.fst.snd.qlen = x.snd.snd.q ∧ y_7.fst.snd.qlen = x.snd.snd.qlen ∧
  y_7.fst.snd.qcap = x.snd.snd.qcap ∧ EIn x ∧ ∀ (y_9 : Int), Enc4Post x y_9 → ∃ (x_10 : Int), encErr x = x_10 ∧ Ints3 (x_10, x_10, x_10) ∧ ∀ (y_10 : Unit), True → (ar.eq x_10 0 → ∃
  (x_11 : Txts × Txts), ar.le 0 0 ∧ ar.le (ar.add 0 (↑(encL x).length : Int)) (ar.tlen (encL x)) ∧ ar.tsub (encL x) 0 (↑(encL x).length : Int) = x_11.1.l ∧ (↑(encL x).length : Int)
  = x_11.1.len ∧ (↑(encL x).length : Int) = x_11.1.cap ∧ ar.le 0 0 ∧ ar.le (ar.add 0 (↑(encL x_4).length : Int)) (ar.tlen (ar.tset (ar.tsub (encL x_4) 0 (↑(encL x_4).length : Int))
  z_2 t)) ∧ ar.tsub (ar.tset (ar.tsub (encL x_4) 0 (↑(encL x_4).length : Int)) z_2 t) 0 (↑(encL x_4).length : Int) = x_11.2.l ∧ (↑(encL x_4).length : Int) = x_11.2.len ∧ c =
  x_11.2.cap ∧ TxtsIn x_11 ∧ ∀ (y_11 : Unit), True → (x_11.1.l = x_11.2.l → ∃ (x : Tree × Tree), x_2.1.files = x.1.files ∧ x_2.1.dirs = x.1.dirs ∧ ar.le 0 0 ∧ ar.le (ar.add 0
  y.len) (ar.ilen y.K) ∧ ar.le (ar.add 0 y.len) (ar.ilen y.N) ∧ ar.le (ar.add 0 y.len) (ar.ilen y.P) ∧ ar.le (ar.add 0 y.len) (ar.tlen y.S) ∧ ar.le (ar.add 0 y.len) (ar.ilen y.Z) ∧
  ar.isub y.K 0 y.len = x.fst.nods.K ∧ ar.isub y.N 0 y.len = x.fst.nods.N ∧ ar.isub y.P 0 y.len = x.fst.nods.P ∧ ar.tsub y.S 0 y.len = x.fst.nods.S ∧ ar.isub y.Z 0 y.len =
  x.fst.nods.Z ∧ y.len = x.fst.nods.len ∧ y.cap = x.fst.nods.cap ∧ y_7.fst.fst.files = x.2.files ∧ y_7.fst.fst.dirs = x.2.dirs ∧ ar.le 0 0 ∧ ar.le (ar.add 0 y_7.fst.fst.nods.len)
  (ar.ilen y_7.fst.fst.nods.K) ∧ ar.le (ar.add 0 y_7.fst.fst.nods.len) (ar.ilen y_7.fst.fst.nods.N) ∧ ar.le (ar.add 0 y_7.fst.fst.nods.len) (ar.ilen y_7.fst.fst.nods.P) ∧ ar.le
  (ar.add 0 y_7.fst.fst.nods.len) (ar.tlen y_7.fst.fst.nods.S) ∧ ar.le (ar.add 0 y_7.fst.fst.nods.len) (ar.ilen y_7.fst.fst.nods.Z) ∧ ar.isub y_7.fst.fst.nods.K 0
  y_7.fst.fst.nods.len = x.snd.nods.K ∧ ar.isub y_7.fst.fst.nods.N 0 y_7.fst.fst.nods.len = x.snd.nods.N ∧ ar.isub y_7.fst.fst.nods.P 0 y_7.fst.fst.nods.len = x.snd.nods.P ∧
  ar.tsub y_7.fst.fst.nods.S 0 y_7.fst.fst.nods.len = x.snd.nods.S ∧ ar.isub y_7.fst.fst.nods.Z 0 y_7.fst.fst.nods.len = x.snd.nods.Z ∧ y_7.fst.fst.nods.len = x.snd.nods.len ∧
  y_7.fst.fst.nods.cap = x.snd.nods.cap ∧ SameTIn x ∧ ∀ (y : Unit), True → ((¬SameT x.fst x.snd → False) → ∃ (x : Pool × Pool), ar.le 0 0 ∧ ar.le (ar.add 0 y_1.1.len) (ar.tlen
  y_1.1.N) ∧ ar.le (ar.add 0 y_1.1.len) (ar.tlen y_1.1.T) ∧ ar.le (ar.add 0 y_1.1.len) (ar.ilen y_1.1.B) ∧ ar.le (ar.add 0 y_1.1.len) (ar.ilen y_1.1.O) ∧ ar.tsub y_1.1.N 0
  y_1.1.len = x.fst.objs.N ∧ ar.tsub y_1.1.T 0 y_1.1.len = x.fst.objs.T ∧ ar.isub y_1.1.B 0 y_1.1.len = x.fst.objs.B ∧ ar.isub y_1.1.O 0 y_1.1.len = x.fst.objs.O ∧ y_1.1.len =
  x.fst.objs.len ∧ y_1.1.cap = x.fst.objs.cap ∧ ar.le 0 0 ∧ ar.le (ar.add 0 y_1.qlen) (ar.ilen y_1.q) ∧ ar.isub y_1.q 0 y_1.qlen = x.1.q ∧ y_1.qlen = x.1.qlen ∧ y_1.qcap = x.1.qcap
  ∧ ar.le 0 0 ∧ ar.le (ar.add 0 y_7.fst.snd.objs.len) (ar.tlen y_7.fst.snd.objs.N) ∧ ar.le (ar.add 0 y_7.fst.snd.objs.len) (ar.tlen y_7.fst.snd.objs.T) ∧ ar.le (ar.add 0
  y_7.fst.snd.objs.len) (ar.ilen y_7.fst.snd.objs.B) ∧ ar.le (ar.add 0 y_7.fst.snd.objs.len) (ar.ilen y_7.fst.snd.objs.O) ∧ ar.tsub y_7.fst.snd.objs.N 0 y_7.fst.snd.objs.len =
  x.snd.objs.N ∧ ar.tsub y_7.fst.snd.objs.T 0 y_7.fst.snd.objs.len = x.snd.objs.T ∧ ar.isub y_7.fst.snd.objs.B 0 y_7.fst.snd.objs.len = x.snd.objs.B ∧ ar.isub y_7.fst.snd.objs.O 0
  y_7.fst.snd.objs.len = x.snd.objs.O ∧ y_7.fst.snd.objs.len = x.snd.objs.len ∧ y_7.fst.snd.objs.cap = x.snd.objs.cap ∧ ar.le 0 0 ∧ ar.le (ar.add 0 y_7.fst.snd.qlen) (ar.ilen
  y_7.fst.snd.q) ∧ ar.isub y_7.fst.snd.q 0 y_7.fst.snd.qlen = x.2.q ∧ y_7.fst.snd.qlen = x.2.qlen ∧ y_7.fst.snd.qcap = x.2.qcap ∧ SamePIn x ∧ ∀ (y : Unit), True → ∃ (y : Unit),
  True ∧ (SameP x.fst x.snd → False ↔ true = true) ∧ True) ∧ (¬(¬SameT x.fst x.snd → False) → ∃ (y : Unit), True ∧ True)) ∧ (¬x_11.1.l = x_11.2.l → ∃ (y : Unit), True ∧ False)) ∧
  (¬ar.eq x_10 0 → ∃ (y : Unit), True ∧ False)))) ∧ (¬(¬ar.eq x_5 0 → False) → ∃ (y : Unit), True ∧ False)
theorem lo_eq (ar : AR) (x : loSpec.X) : (run ar PP owSpecs noInv 1000 6 (loSpec.H x).length (Tryd.f6.body.getD .skip) (loSpec.A x ++ List.replicate (Tryd.f6.ntmps - (loSpec.A x).length) .any) (loSpec.H x) (endCall ar PP Tryd.f6.results.toList (loSpec.fin x))) = lo_vc ar x := by
  kernel_rfl
theorem lo_of (h : ∀ x, loSpec.pre x → lo_vc ar0 x) : loSpec.OK PP 6 :=
  Spec.ok_of_run (fn := Tryd.f6) (c := Tryd.f6.body.getD .skip) (by kernel_rfl) (by kernel_rfl) (by kernel_rfl) owSpecs_ok (fun _ => noInv) 1000 (fun x hx => (lo_eq ar0 x).mpr (h x hx))
theorem loSpec_ok : loSpec.OK PP 6 := by
  refine lo_of fun x hx => ?_
  obtain ⟨c, a, b, p, q⟩ := x
  obtain ⟨h1, h2, h3, ⟨h4, h5⟩, ⟨h6, h7⟩⟩ : PL.LoIn (c, a, b, p, q) := hx
  simp only at h1 h2 h3 h4 h5 h6 h7
  unfold lo_vc
  simp only [ars, ars2, ars3, ex_cfg, ex_cfg6, ex_cn, ex_ct6, ex_pair, ex_intx, cfgAny, ints3, true_and, and_true, exists_const, forall_const, forall_eq, imp_false, Classical.not_not, Int.toNat_natCast, Int.zero_add, Int.le_refl, made_eta, take_self]
  have hC := made_ok c
  have hci := hC.ok
  refine ⟨h1, ⟨hci, h2⟩, fun y hy => ⟨⟨hci, h3⟩, fun z hz => ?_⟩⟩
  obtain ⟨k1, k2, k3, k4, k5, k6⟩ := id hy.ok
  obtain ⟨p0, p1, p2, p3, p4, p5, p6, p7⟩ := id hz.ok
  simp only at p0 p1 p2 p3 p4 p5 p6 p7
  have hE := mt_eok hC hy hz
  obtain ⟨hS, hF, hD, R⟩ := enc_dec hE hy.ok hz.ok
  simp only [k1, k2, k3, k4, k5, p1, p2, p3, p4, p5, dropz k1, dropz k2, dropz k3, dropz k4, dropz k5, dropz p1, dropz p2, dropz p3, dropz p4, dropz p5, Int.le_refl, true_and]
  refine ⟨(made c, ⟨(made c).files, (made c).dirs, y⟩, z), rfl, rfl, rfl, rfl, rfl, rfl, rfl, rfl, rfl, rfl, rfl, rfl, rfl, rfl, rfl, rfl, rfl, rfl, rfl, rfl, rfl, rfl, rfl, rfl, ⟨hy.ok, fun _ => hz.ok⟩, fun d hd => ⟨fun _ => ⟨⟨hC, rfl⟩, hS, fun _ => ?_⟩, PL.encErr_ok hE⟩⟩
  have hpr := PL.pages_range hC
  have hpg := hC.pages
  obtain ⟨c1, c2, c3, c4, c5, c6⟩ := id hci
  have hEnc : ∀ (u : Tree) (v : Pool), NodsOK u.nods → PoolAny v → SameT ⟨(made c).files, (made c).dirs, y⟩ u → SameP z v → encL (made c, ⟨(made c).files, (made c).dirs, y⟩, z) = encL (made c, u, v) := fun u v hu hv s1 s2 => enc_same hy.ok hu ⟨⟨p1, p2, p3, p4, p6⟩, p5, p7⟩ hv s1 s2
  generalize hLd : encL (made c, ⟨(made c).files, (made c).dirs, y⟩, z) = L at hS hEnc
  obtain ⟨hn, hall⟩ := hS
  obtain ⟨β, hβ⟩ : ∃ β : Nat, (made c).page - 5 = (β : Int) := ⟨((made c).page - 5).toNat, by omega⟩
  have hβ' : 64 + c.page % 1024 - 5 = (β : Int) := hβ
  have hβ0 : 59 ≤ β ∧ β ≤ 65531 := by omega
  have w0 : IntKind.i64.wrap (64 + c.page % 1024 - 5) = (β : Int) := by rw [hβ']; exact wrap_i64 (by omega) (by omega)
  have hm1 : (L.length : Int) * (β : Int) ≤ 1024 * 65531 := Int.mul_le_mul (by omega) (by omega) (by omega) (by omega)
  have hm0 : 1 * 59 ≤ (L.length : Int) * (β : Int) := Int.mul_le_mul (by omega) (by omega) (by omega) (by omega)
  have w1 : IntKind.i64.wrap ((L.length : Int) * (β : Int)) = (L.length : Int) * (β : Int) := wrap_i64 (by omega) (by omega)
  have m0 := Int.emod_nonneg p (b := (L.length : Int) * (β : Int)) (by omega)
  have m1 := Int.emod_lt_of_pos p (b := (L.length : Int) * (β : Int)) (by omega)
  obtain ⟨κ, hκ⟩ : ∃ κ : Nat, p % ((L.length : Int) * (β : Int)) = κ := ⟨(p % ((L.length : Int) * (β : Int))).toNat, by omega⟩
  rw [hκ] at m0 m1
  have hκl : κ < L.length * β := by
    have : (κ : Int) < ((L.length * β : Nat) : Int) := by rw [Int.natCast_mul]; exact m1
    exact Int.ofNat_lt.1 this
  have hi : κ / β < L.length := (Nat.div_lt_iff_lt_mul (by omega)).2 hκl
  have ha : κ % β < β := Nat.mod_lt _ (by omega)
  have td : (κ : Int).tdiv (β : Int) = ((κ / β : Nat) : Int) := by rw [Int.tdiv_eq_ediv_of_nonneg (by omega)]; rfl
  have tm : (κ : Int).tmod (β : Int) = ((κ % β : Nat) : Int) := by rw [Int.tmod_eq_emod_of_nonneg (by omega)]; rfl
  generalize κ / β = i at hi td
  generalize κ % β = e at ha tm
  have wi : IntKind.i64.wrap (i : Int) = i := wrap_i64 (by omega) (by omega)
  have we : IntKind.i64.wrap ((e : Int) + 1) = e + 1 := wrap_i64 (by omega) (by omega)
  have n0 := Int.emod_nonneg q (b := 255) (by omega)
  have n1 := Int.emod_lt_of_pos q (b := 255) (by omega)
  have wb : IntKind.i64.wrap (1 + q % 255) = 1 + q % 255 := wrap_i64 (by omega) (by omega)
  simp only [w0, w1, hκ, td, tm, wi, we, wb, wrap_b8, bxor_u8, Int.toNat_natCast]
  have hlk := hall.all i hi
  rw [hβ] at hlk
  have hbz : PL.b8 (1 + q % 255) ≠ 0 := fun h0 => by
    have := PL.b8_toNat (1 + q % 255)
    rw [h0] at this
    simp at this
    omega
  have eb : ∀ A : UInt8, List.map (fun n : Int => UInt8.ofNat n.toNat) [((A.toNat : Nat) : Int)] = [A] := fun A => by simp
  simp only [eb]
  have tset : ∀ s : List UInt8, ar0.tset L (i : Int) s = L.set i s := fun s => by show L.set (i : Int).toNat s = _; rw [Int.toNat_natCast]
  have ls : ∀ s : List UInt8, (L.set i s).length = L.length := fun s => by simp
  have ts : ∀ s : List UInt8, List.take L.length (List.drop (Int.toNat 0) (L.set i s)) = L.set i s := fun s => by rw [← ls s]; exact take_self _
  simp only [tset, ls, ts]
  generalize hP' : List.drop (Int.toNat 0) (List.take e (L.getD i [])) ++ [(L.getD i []).getD e 0 ^^^ PL.b8 (1 + q % 255)] ++ List.drop ((e : Int) + 1).toNat (List.take (L.getD i []).length (L.getD i [])) = P'
  have hne : L.set i P' ≠ L := fun h0 => by
    have h8 : (L.set i P').getD i [] = L.getD i [] := by rw [h0]
    rw [List.getD, List.getElem?_set_self hi, Option.getD_some] at h8
    have h9 : P'.getD e 0 = (L.getD i []).getD e 0 ^^^ PL.b8 (1 + q % 255) := by
      rw [← hP', List.getD, List.append_assoc, List.getElem?_append_right (by simp; omega)]
      simp only [show Int.toNat 0 = 0 from rfl, List.drop_zero, List.length_take]
      rw [show e - min e (L.getD i []).length = 0 by omega]
      rfl
    rw [h8] at h9
    exact xor_ne hbz h9.symm
  have hM : ∀ k, DcIn (made c, ⟨L.set i P', L.length, k⟩) := fun k => ⟨by simp only [ls], by simp only; omega⟩
  refine ⟨⟨⟨h4, h5⟩, by simp only; omega⟩, by omega, by omega, ⟨⟨h6, h7⟩, by simp only; omega⟩, by omega, fun c' hc' => ?_⟩
  repeat' (first | refine And.intro ?_ ?_ | intro _)
  all_goals try first
    | omega
    | exact hM _
    | (simp only [List.length_append, List.length_drop, List.length_take, List.length_cons, List.length_nil, show Int.toNat 0 = 0 from rfl]; omega)
  refine ⟨(made c, ⟨L.set i P', L.length, c'⟩), rfl, rfl, rfl, rfl, rfl, rfl, Int.le_refl _, rfl, rfl, rfl, hM _, fun u hu => ?_⟩
  by_cases hDM : DcOK (made c) (L.set i P')
  · refine ⟨fun h0 => absurd (dcE_ok hDM) h0, fun _ => ?_⟩
    obtain ⟨⟨j1, j2, j3, j4, j5, j6⟩, ⟨⟨j7, j8, j9, j10, j11⟩, j12, j13⟩⟩ := dcPost_any hu
    have hU : NodsOK u.1.1.nods := ⟨j1, j2, j3, j4, j5, j6⟩
    have hV : PoolAny u.1.2 := ⟨⟨j7, j8, j9, j10, j11⟩, j12, j13⟩
    have hEM : EOK (made c, u.1.1, u.1.2) ∧ encL (made c, u.1.1, u.1.2) = L.set i P' := by
      rcases hu.ex with ⟨_, a', b', d', _, _, _, _, _, _, e'⟩ | ⟨h, _⟩
      · have := (ref_iff (a := a') (b := b') (d := d') hC hDM.n hDM.all).2 hDM
        rw [tree_same hDM.good, pool_same hDM.good] at this
        have e1 : u.1.1 = treeP (L.set i P').flatten (made c) a' := congrArg Prod.fst e'
        have e2 : u.1.2 = poolP (L.set i P').flatten (made c) b' d' := congrArg Prod.snd e'
        rw [e1, e2]
        exact this
      · exact absurd hDM h
    simp only [j1, j2, j3, j4, j5, j7, j8, j9, j10, j12, dropz j1, dropz j2, dropz j3, dropz j4, dropz j5, dropz j7, dropz j8, dropz j9, dropz j10, dropz j12, Int.le_refl, true_and]
    refine ⟨(made c, u.1.1, u.1.2), rfl, rfl, rfl, rfl, rfl, rfl, rfl, rfl, rfl, rfl, rfl, rfl, rfl, rfl, rfl, rfl, rfl, rfl, rfl, rfl, rfl, rfl, rfl, rfl, ⟨hU, fun _ => ⟨hci, j7, j8, j9, j10, j12, j11, j13⟩⟩, fun d2 hd2 => ⟨fun _ => ?_, PL.encErr_ok hEM.1⟩⟩
    have hl2 : ((L.set i P').length : Int) = L.length := by rw [ls]
    simp only [hEM.2, take_self, ls, Int.le_refl, true_and]
    refine ⟨(⟨L.set i P', L.length, L.length⟩, ⟨L.set i P', L.length, c'⟩), rfl, rfl, rfl, rfl, rfl, rfl, ⟨by simp only [ls], by simp only [ls], by simp only; omega⟩, fun _ => ?_, rfl⟩
    refine ⟨(⟨(made c).files, (made c).dirs, y⟩, u.1.1), rfl, rfl, rfl, rfl, rfl, rfl, rfl, rfl, rfl, rfl, rfl, rfl, rfl, rfl, rfl, rfl, rfl, rfl, ⟨hy.ok, hU⟩, fun s1 => ?_, fun _ => trivial⟩
    refine ⟨(z, u.1.2), rfl, rfl, rfl, rfl, rfl, rfl, rfl, rfl, rfl, rfl, rfl, rfl, rfl, rfl, rfl, rfl, rfl, rfl, ⟨⟨⟨p1, p2, p3, p4, p6⟩, p5, p7⟩, hV⟩, ?_⟩
    exact ⟨fun _ => trivial, fun _ s2 => hne ((hEnc _ _ hU hV s1 s2).trans hEM.2).symm⟩
  · have hE1 := dcE_i hC hDM
    have hno := dcPost_no hDM hu
    simp only [hE1, hno]
    refine ⟨fun _ => ?_, fun h => absurd h (by omega)⟩
    simp [noTree, noPool]
end Go.Eng
