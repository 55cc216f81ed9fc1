/- Index: the law of EncodeRoot and DecodeRoot. -/
import Derived.Test.YtfcjboomlfjanaaIndexA
set_option linter.unusedVariables false
set_option linter.unusedSimpArgs false

/- Index: DecodeRoot, the program's and the document's. -/
namespace Go.PL
def sub (s : List UInt8) (a n : Nat) : List UInt8 := (s.drop a).take n
def num4 (s : List UInt8) (a : Nat) : Int := numB (sub s a 4)
def decCfg (s : List UInt8) : Cfg := ⟨num4 s 1, num4 s 5, num4 s 9, num4 s 13, num4 s 17, num4 s 21⟩
def decCnt (s : List UInt8) : Int := numB (sub s 25 2)
def decN (s : List UInt8) (n : Nat) : List (List UInt8) := (List.range n).map fun i => sub s (27 + 32 * i) 16
def decT (s : List UInt8) (n : Nat) : List (List UInt8) := (List.range n).map fun i => sub s (43 + 32 * i) 16
/-- So many pieces, and nothing for the others. -/
def decNi (s : List UInt8) (n i : Nat) : List (List UInt8) := (List.range n).map fun j => if j < i then sub s (27 + 32 * j) 16 else []
def decTi (s : List UInt8) (n i : Nat) : List (List UInt8) := (List.range n).map fun j => if j < i then sub s (43 + 32 * j) 16 else []
structure DecH (s : List UInt8) : Prop where
  len : 27 ≤ s.length
  mark : s.getD 0 0 = 82
structure DecI (s : List UInt8) : Prop where
  head : DecH s
  cfg : CfgOK (decCfg s)
  cnt : decCnt s = pagesI (decCfg s)
  len : (s.length : Int) = 27 + decCnt s * 32
structure DecOK (c : Cfg) (s : List UInt8) : Prop where
  ok : CfgOK c
  i : DecI s
  cfg : decCfg s = c
noncomputable def decE (c : Cfg) (s : List UInt8) : Int := @ite _ (CfgOK c) (Classical.propDecidable _) (@ite _ (DecI s) (Classical.propDecidable _) (@ite _ (decCfg s = c) (Classical.propDecidable _) 0 140) 141) 140
def noRoot : Root := ⟨⟨0, 0, 0, 0, 0, 0⟩, ⟨[], [], 0, 0⟩⟩
noncomputable def decR (c : Cfg) (s : List UInt8) (cap : Int) : Root := @ite _ (DecOK c s) (Classical.propDecidable _) ⟨c, ⟨decN s (decCnt s).toNat, decT s (decCnt s).toNat, decCnt s, cap⟩⟩ noRoot
structure DecIn (x : Cfg × List UInt8) : Prop where
  len : x.2.length ≤ 140737488355328
structure DecPost (x : Cfg × List UInt8) (r : Root) : Prop where
  eq : ∃ cap, r = decR x.1 x.2 cap ∧ r.refs.len ≤ cap
structure DecAt (x : Cfg × List UInt8) (i : Nat) : Prop where
  le : (i : Int) ≤ decCnt x.2
structure RDecAt (x : Cfg × List UInt8) (i : Nat × Int) : Prop where
  le : 27 + 32 * i.1 ≤ x.2.length
  cap : (i.1 : Int) ≤ i.2
structure True1 (u : Unit) : Prop where
  any : True
theorem sub_length {s : List UInt8} {a n : Nat} (h : a + n ≤ s.length) : (sub s a n).length = n := by simp [sub]; omega
theorem sub_drop (s : List UInt8) (a n : Nat) : s.drop a = sub s a n ++ s.drop (a + n) := by
  rw [sub, ← List.drop_drop, List.take_append_drop]
theorem flat2_snoc {N T : List (List UInt8)} {a b : List UInt8} (h : N.length = T.length) : flat2 (N ++ [a]) (T ++ [b]) = flat2 N T ++ (a ++ b) := by
  simp [flat2, List.zipWith_append h]
theorem decN_succ (s : List UInt8) (n : Nat) : decN s (n + 1) = decN s n ++ [sub s (27 + 32 * n) 16] := by simp [decN, List.range_succ]
theorem decT_succ (s : List UInt8) (n : Nat) : decT s (n + 1) = decT s n ++ [sub s (43 + 32 * n) 16] := by simp [decT, List.range_succ]
theorem decN_length (s : List UInt8) (n : Nat) : (decN s n).length = n := by simp [decN]
theorem decT_length (s : List UInt8) (n : Nat) : (decT s n).length = n := by simp [decT]
theorem flat_dec (s : List UInt8) : ∀ n, flat2 (decN s n) (decT s n) = (s.drop 27).take (32 * n)
  | 0 => rfl
  | n + 1 => by
    rw [decN_succ, decT_succ, flat2_snoc (by rw [decN_length, decT_length]), flat_dec s n, show 32 * (n + 1) = 32 * n + (16 + 16) by omega, List.take_add, List.drop_drop, List.take_add, List.drop_drop]
    simp only [sub]
    rw [show 27 + 32 * n + 16 = 43 + 32 * n by omega]
theorem dec_good (s : List UInt8) (n : Nat) (cap : Int) (h : 27 + 32 * n ≤ s.length) : Good ⟨decN s n, decT s n, n, cap⟩ := by
  refine ⟨fun i hi => ?_⟩
  simp only at hi
  have hi : i < n := by omega
  simp only [SixT, decN, decT, List.getD, List.getElem?_map, List.getElem?_range hi, Option.map_some, Option.getD_some]
  exact ⟨sub_length (by omega), sub_length (by omega)⟩
theorem head_dec {s : List UInt8} (h : DecH s) : rootHead (decCfg s) ++ sub s 25 2 ++ s.drop 27 = s := by
  have hl := h.len
  have b : ∀ a, a + 4 ≤ s.length → big (num4 s a) 4 = sub s a 4 := fun a ha => big_numB 4 _ (sub_length ha)
  have h0 : s = 82 :: s.drop 1 := by
    cases s with
    | nil => simp at hl
    | cons x t => have := h.mark; simp at this; subst this; rfl
  simp only [rootHead, decCfg]
  rw [b 1 (by omega), b 5 (by omega), b 9 (by omega), b 13 (by omega), b 17 (by omega), b 21 (by omega)]
  conv => rhs; rw [h0]
  simp only [List.cons_append, List.append_assoc]
  rw [sub_drop s 1 4, sub_drop s 5 4, sub_drop s 9 4, sub_drop s 13 4, sub_drop s 17 4, sub_drop s 21 4, sub_drop s 25 2]
theorem root_dec {s : List UInt8} {n : Nat} {cap : Int} (h : DecH s) (hn : decCnt s = n) (hl : s.length = 27 + 32 * n) : rootBytes (decCfg s) ⟨decN s n, decT s n, n, cap⟩ = s := by
  have hb : big (decCnt s) 2 = sub s 25 2 := big_numB 2 _ (sub_length (by omega))
  simp only [rootBytes]
  rw [flat_dec, ← hn, hb, List.take_of_length_le (by simp; omega), ← List.append_assoc]
  exact head_dec h
theorem dec_root {s : List UInt8} {c : Cfg} {n : Nat} {cap : Int} (h27 : 27 + 32 * n ≤ s.length) (hn : n < 65536) (h : rootBytes c ⟨decN s n, decT s n, n, cap⟩ = s) : DecH s ∧ decCnt s = n ∧ s.length = 27 + 32 * n := by
  have hlen : s.length = 27 + 32 * n := by
    have h1 := congrArg List.length h
    simp only [rootBytes, List.length_append, rootHead_length, big_length, flat_dec, List.length_take, List.length_drop] at h1
    omega
  refine ⟨⟨by omega, ?_⟩, ?_, hlen⟩
  · rw [← h]; rfl
  · have e : sub s 25 2 = big (n : Int) 2 := by
      conv => lhs; rw [← h]
      simp only [sub, rootBytes]
      rw [← rootHead_length c, List.drop_left, List.take_append_of_le_length (by rw [big_length]; omega), List.take_of_length_le (by rw [big_length]; omega)]
    rw [decCnt, e, numB_big 2 _ (by omega) (by have : (256 : Int) ^ 2 = 65536 := by decide
                                               omega)]
theorem decE_ok {c : Cfg} {s : List UInt8} (h : DecOK c s) : decE c s = 0 := by unfold decE; rw [if_pos h.ok, if_pos h.i, if_pos h.cfg]
theorem decE_c {c : Cfg} {s : List UInt8} (h : ¬ CfgOK c) : decE c s = 140 := by unfold decE; rw [if_neg h]
theorem decE_i {c : Cfg} {s : List UInt8} (h : CfgOK c) (h2 : ¬ DecI s) : decE c s = 141 := by unfold decE; rw [if_pos h, if_neg h2]
theorem decE_o {c : Cfg} {s : List UInt8} (h : CfgOK c) (h2 : DecI s) (h3 : decCfg s ≠ c) : decE c s = 140 := by unfold decE; rw [if_pos h, if_pos h2, if_neg h3]
theorem decR_ok {c : Cfg} {s : List UInt8} {cap : Int} (h : DecOK c s) : decR c s cap = ⟨c, ⟨decN s (decCnt s).toNat, decT s (decCnt s).toNat, decCnt s, cap⟩⟩ := if_pos h
theorem decR_no {c : Cfg} {s : List UInt8} {cap : Int} (h : ¬ DecOK c s) : decR c s cap = noRoot := if_neg h
end Go.PL
set_option linter.unusedSectionVars false
set_option linter.unusedSimpArgs false
set_option linter.unusedVariables false
namespace Go.Eng
variable [CW : CWorld]
open Go.Proofs
open Go.PL (Cfg CfgIn CfgOK CfgBad Img RImg Refs Root)
set_option maxRecDepth 100000
attribute [local irreducible] run
theorem ex_cfg6 {a b c d e f : Int} {Q : Cfg → Prop} : (∃ y : Cfg, a = y.slots ∧ b = y.files ∧ c = y.dirs ∧ d = y.most ∧ e = y.least ∧ f = y.page ∧ Q y) ↔ Q ⟨a, b, c, d, e, f⟩ := by
  constructor
  · rintro ⟨⟨a, b, c, d, e, f⟩, h1, h2, h3, h4, h5, h6, h⟩
    simp only at h1 h2 h3 h4 h5 h6
    subst h1 h2 h3 h4 h5 h6
    exact h
  · exact fun h => ⟨_, rfl, rfl, rfl, rfl, rfl, rfl, h⟩
theorem cfg_eta (x : Cfg) : (⟨x.slots, x.files, x.dirs, x.most, x.least, x.page⟩ : Cfg) = x := rfl
theorem cfg_eq6 {a b c d e f : Int} {x : Cfg} : (a = x.slots ∧ b = x.files ∧ c = x.dirs ∧ d = x.most ∧ e = x.least ∧ f = x.page) ↔ (⟨a, b, c, d, e, f⟩ : Cfg) = x := PL.cfg_eq (a := ⟨a, b, c, d, e, f⟩)
theorem ex_rimg {v k s cap : Int} {L M : List UInt8} {b : Prop} {Q : RImg × Int → Prop} :
    (∃ x : RImg × Int, v = x.2 ∧ 0 + (k + s).toNat * 1 + 0 = 0 + (x.1.k + 0).toNat * 1 + 0 ∧ (M.length : Int) - (k + s) = (x.1.l.length : Int) - (x.1.k + 0) ∧ cap - (k + s) = x.1.cap - (x.1.k + 0) ∧ (b ↔ x.1.bad) ∧ cap = x.1.cap ∧ PL.ints L = PL.ints x.1.l ∧ Q x) ↔
      (M.length = L.length ∧ Q (⟨L, cap, b, k + s⟩, v)) := by
  constructor
  · rintro ⟨⟨⟨l, c, d, k'⟩, e⟩, h1, h2, h3, h4, h5, h6, h7, h⟩
    simp only at h1 h2 h3 h4 h5 h6 h7
    have := PL.ints_inj h7
    have h5 := propext h5
    subst h1 h6 this h5
    have : k' = k + s := by omega
    subst this
    exact ⟨by omega, h⟩
  · rintro ⟨h0, h⟩
    exact ⟨_, rfl, by simp, by simp only [h0]; omega, by simp only; omega, Iff.rfl, rfl, rfl, h⟩
theorem ex_noroot {x : Cfg × List UInt8} {E : Prop} : (∃ y : Root, PL.DecPost x y ∧ 0 = y.cfg.slots ∧ 0 = y.cfg.files ∧ 0 = y.cfg.dirs ∧ 0 = y.cfg.most ∧ 0 = y.cfg.least ∧ 0 = y.cfg.page ∧ 0 = y.refs.len ∧ 0 = y.refs.cap ∧ E ∧ y.refs.cap = 0 ∧ y.refs.N = [] ∧ y.refs.T = []) ↔
    (PL.DecPost x PL.noRoot ∧ E) := by
  constructor
  · rintro ⟨⟨⟨a, b, c, d, e, f⟩, ⟨g1, g2, g3, g4⟩⟩, h, h1, h2, h3, h4, h5, h6, h7, h8, hE, h9, h10, h11⟩
    simp only at h1 h2 h3 h4 h5 h6 h7 h8 h9 h10 h11
    subst h1 h2 h3 h4 h5 h6 h7 h8 h10 h11
    exact ⟨h, hE⟩
  · rintro ⟨h, hE⟩
    exact ⟨PL.noRoot, h, rfl, rfl, rfl, rfl, rfl, rfl, rfl, rfl, hE, rfl, rfl, rfl⟩
theorem post_no {c : Cfg} {s : List UInt8} (h : ¬ PL.DecOK c s) : PL.DecPost (c, s) PL.noRoot := ⟨⟨0, (PL.decR_no h).symm, by simp [PL.noRoot]⟩⟩
theorem dropk_tail (s : List UInt8) (k n : Int) : PL.dropk (List.drop 1 (List.take s.length s)) k n = PL.sub s (1 + k.toNat) n.toNat := by
  simp only [PL.dropk, PL.sub, List.take_length, List.drop_drop]
theorem decCfg_eq (s : List UInt8) : (⟨PL.numB (PL.sub s 1 4), PL.numB (PL.sub s 5 4), PL.numB (PL.sub s 9 4), PL.numB (PL.sub s 13 4), PL.numB (PL.sub s 17 4), PL.numB (PL.sub s 21 4)⟩ : Cfg) = PL.decCfg s := rfl
theorem decCnt_eq (s : List UInt8) : PL.numB (PL.sub s 25 2) = PL.decCnt s := rfl
theorem ni_zero (s : List UInt8) (n : Nat) : PL.decNi s n 0 = List.replicate n [] := by
  simp only [PL.decNi, Nat.not_lt_zero, if_false, List.map_const', List.length_range]
theorem ti_zero (s : List UInt8) (n : Nat) : PL.decTi s n 0 = List.replicate n [] := by
  simp only [PL.decTi, Nat.not_lt_zero, if_false, List.map_const', List.length_range]
theorem range_set (f : Nat → List UInt8) (n i : Nat) : ((List.range n).map fun j => if j < i then f j else []).set i (f i) = (List.range n).map fun j => if j < i + 1 then f j else [] := by
  apply List.ext_getElem?
  intro k
  rw [List.getElem?_set]
  by_cases hk : i = k
  · subst hk
    by_cases h : i < n <;> simp [h]
  · by_cases h : k < n
    · simp only [hk, if_false, List.getElem?_map, List.getElem?_range h, Option.map_some]
      congr 1
      by_cases h2 : k < i
      · rw [if_pos h2, if_pos (by omega)]
      · rw [if_neg h2, if_neg (by omega)]
    · rw [if_neg hk, List.getElem?_eq_none (by simp; omega), List.getElem?_eq_none (by simp; omega)]
theorem range_full (f : Nat → List UInt8) (n : Nat) : ((List.range n).map fun j => if j < n then f j else []) = (List.range n).map f := by
  apply List.map_congr_left
  intro j hj
  rw [if_pos (List.mem_range.1 hj)]
theorem piece (s : List UInt8) (k : Nat) (a : Int) (h : a = k) : List.map (fun n : Int => UInt8.ofNat n.toNat) (List.take 16 (List.drop a.toNat (PL.ints (List.drop 1 (List.take s.length s))))) = PL.sub s (1 + k) 16 := by
  subst h
  rw [← PL.ints_drop, ← PL.ints_take, PL.bytes_ints]
  simp only [PL.sub, List.take_length, List.drop_drop, Int.toNat_natCast]
theorem ex_list {t : List UInt8} {Q : List UInt8 → Prop} : (∃ x, t = x ∧ Q x) ↔ Q t := by
  constructor
  · rintro ⟨x, rfl, h⟩; exact h
  · exact fun h => ⟨t, rfl, h⟩
def refsB (r : Refs) : Blk := .mk 37 [.arr (.x r.cap) [.strs r.N, .strs r.T]]
def rootS (n : Nat) (r : Root) : SV := .agg (cfgL r.cfg ++ [.slc n (.l 0) (.x r.refs.len) (.x r.refs.cap)])
noncomputable def decSpec : Spec where
  X := Cfg × List UInt8
  A x := [.agg (cfgL x.1), .str x.2]
  H x := []
  pre x := PL.DecIn x
  outs := [{ Y _ := Root, post x y := PL.DecPost x y, R x y := .tup [rootS 0 y, .int .i64 (.x (PL.decE x.1 x.2))], H' x y := [refsB y.refs] }]
  frz := true
noncomputable def decSpecs : Specs := fun f xs hp => match f with
  | 37 => some numberSpec
  | 38 => some takeSpec
  | _ => eSpecs f xs hp
theorem decSpecs_ok : SpecsOK PP decSpecs := by
  intro CW f xs hp S h
  unfold decSpecs at h
  split at h
  · cases h; exact numberSpec_ok
  · cases h; exact takeSpec_ok
  · exact eSpecs_ok CW f xs hp S h
def capOf : Blk → Int
  | .mk _ [.arr (.x c) _] => c
  | _ => 0
noncomputable def decInv (x : Cfg × List UInt8) : Code → List SV → List Blk → List Inv := fun b fr hp => [
  { ι := Nat, fr := fun i => only b fr 0 [2, 4, 8, 11, 88] [(7, .ptr 2 (.l 0)), (89, .int .i64 (.x (i : Int)))],
    hp := fun i => [hp.getD 0 .gone, hp.getD 1 .gone, imgB 3 (.x 0 1 (26 + 32 * (i : Int)) 0) (((x.2.take x.2.length).drop 1).length - (26 + 32 * (i : Int))) (capOf (hp.getD 2 .gone) - (26 + 32 * (i : Int))) False, hp.getD 2 .gone, hp.getD 4 .gone, .gone,
      .mk 37 [.arr (.x (PL.decCnt x.2)) [.strs (PL.decNi x.2 (PL.decCnt x.2).toNat i), .strs (PL.decTi x.2 (PL.decCnt x.2).toNat i)]]],
    μ := fun i => (PL.decCnt x.2).toNat - i, ok := fun i => PL.DecAt x i }]
noncomputable def decInvs (x : Cfg × List UInt8) : Invs := fun f n => match f, n with
  | 15, 20 => some (decInv x)
  | _, _ => none
def dec_vc (ar : AR) (x : decSpec.X) : Prop :=
  ∃ (x_1 : Cfg), x.fst.slots = x_1.slots ∧ x.fst.files = x_1.files ∧ x.fst.dirs = x_1.dirs ∧ x.fst.most = x_1.most ∧ x.fst.least = x_1.least ∧ x.fst.page = x_1.page ∧ PL.CfgAny x_1
  ∧ ∀ (y : Unit), True → (¬ar.eq (PL.chk x_1) 0 → ∃ (y : Root), PL.DecPost x y ∧ 0 = y.1.slots ∧ 0 = y.1.files ∧ 0 = y.1.dirs ∧ 0 = y.1.most ∧ 0 = y.1.least ∧ 0 = y.1.page ∧ 0 =
  y.2.len ∧ 0 = y.2.cap ∧ PL.chk x_1 = PL.decE x.fst x.snd ∧ y.2.cap = 0 ∧ y.2.N = [] ∧ y.2.T = [] ∧ True) ∧ (¬¬ar.eq (PL.chk x_1) 0 → ((ar.lt (ar.slen x.snd) 27 → False) → ar.lt 0
  (ar.slen x.snd) ∧ ∀ (z : Int), z = ar.sget x.snd 0 → (¬ar.eq z 82 → ∃ (y : Root), PL.DecPost x y ∧ 0 = y.1.slots ∧ 0 = y.1.files ∧ 0 = y.1.dirs ∧ 0 = y.1.most ∧ 0 = y.1.least ∧ 0
  = y.1.page ∧ 0 = y.2.len ∧ 0 = y.2.cap ∧ 141 = PL.decE x.fst x.snd ∧ y.2.cap = 0 ∧ y.2.N = [] ∧ y.2.T = [] ∧ True) ∧ (¬¬ar.eq z 82 → ar.le 1 (ar.slen x.snd) ∧ ∀ (t : List UInt8),
  t = ar.sext x.snd 1 (ar.slen x.snd) → ∀ (c : Int), (ar.slen t).le c → ∃ (x_2 : RImg × Int), 4 = x_2.snd ∧ 0 = (Nat.add 0 ((x_2.1.k.add 0).toNat.mul 1)).add 0 ∧ ar.slen t =
  (↑x_2.1.l.length : Int).sub (x_2.1.k.add 0) ∧ c = x_2.1.cap.sub (x_2.1.k.add 0) ∧ (false = true ↔ x_2.1.3) ∧ c = x_2.1.cap ∧ ar.ints t = PL.ints x_2.1.l ∧ PL.NumIn x_2 ∧ ∀ (y :
  Unit), True → ∃ (x_3 : RImg × Int), 4 = x_3.snd ∧ (Nat.add 0 ((x_2.1.k.add x_2.snd).toNat.mul 1)).add 0 = (Nat.add 0 ((x_3.1.k.add 0).toNat.mul 1)).add 0 ∧ (↑x_2.1.l.length :
  Int).sub (x_2.1.k.add x_2.snd) = (↑x_3.1.l.length : Int).sub (x_3.1.k.add 0) ∧ x_2.1.cap.sub (x_2.1.k.add x_2.snd) = x_3.1.cap.sub (x_3.1.k.add 0) ∧ (x_2.1.3 ↔ x_3.1.3) ∧
  x_2.1.cap = x_3.1.cap ∧ PL.ints x_2.1.l = PL.ints x_3.1.l ∧ PL.NumIn x_3 ∧ ∀ (y : Unit), True → ∃ (x_4 : RImg × Int), 4 = x_4.snd ∧ (Nat.add 0 ((x_3.1.k.add x_3.snd).toNat.mul
  1)).add 0 = (Nat.add 0 ((x_4.1.k.add 0).toNat.mul 1)).add 0 ∧ (↑x_3.1.l.length : Int).sub (x_3.1.k.add x_3.snd) = (↑x_4.1.l.length : Int).sub (x_4.1.k.add 0) ∧ x_3.1.cap.sub
  (x_3.1.k.add x_3.snd) = x_4.1.cap.sub (x_4.1.k.add 0) ∧ (x_3.1.3 ↔ x_4.1.3) ∧ x_3.1.cap = x_4.1.cap ∧ PL.ints x_3.1.l = PL.ints x_4.1.l ∧ PL.NumIn x_4 ∧ ∀ (y : Unit), True → ∃
  (x_5 : RImg × Int), 4 = x_5.snd ∧ (Nat.add 0 ((x_4.1.k.add x_4.snd).toNat.mul 1)).add 0 = (Nat.add 0 ((x_5.1.k.add 0).toNat.mul 1)).add 0 ∧ (↑x_4.1.l.length : Int).sub
  (x_4.1.k.add x_4.snd) = (↑x_5.1.l.length : Int).sub (x_5.1.k.add 0) ∧ x_4.1.cap.sub (x_4.1.k.add x_4.snd) = x_5.1.cap.sub (x_5.1.k.add 0) ∧ (x_4.1.3 ↔ x_5.1.3) ∧ x_4.1.cap =
  x_5.1.cap ∧ PL.ints x_4.1.l = PL.ints x_5.1.l ∧ PL.NumIn x_5 ∧ ∀ (y : Unit), True → ∃ (x_6 : RImg × Int), 4 = x_6.snd ∧ (Nat.add 0 ((x_5.1.k.add x_5.snd).toNat.mul 1)).add 0 =
  (Nat.add 0 ((x_6.1.k.add 0).toNat.mul 1)).add 0 ∧ (↑x_5.1.l.length : Int).sub (x_5.1.k.add x_5.snd) = (↑x_6.1.l.length : Int).sub (x_6.1.k.add 0) ∧ x_5.1.cap.sub (x_5.1.k.add
  x_5.snd) = x_6.1.cap.sub (x_6.1.k.add 0) ∧ (x_5.1.3 ↔ x_6.1.3) ∧ x_5.1.cap = x_6.1.cap ∧ PL.ints x_5.1.l = PL.ints x_6.1.l ∧ PL.NumIn x_6 ∧ ∀ (y : Unit), True → ∃ (x_7 : RImg ×
  Int), 4 = x_7.snd ∧ (Nat.add 0 ((x_6.1.k.add x_6.snd).toNat.mul 1)).add 0 = (Nat.add 0 ((x_7.1.k.add 0).toNat.mul 1)).add 0 ∧ (↑x_6.1.l.length : Int).sub (x_6.1.k.add x_6.snd) =
  (↑x_7.1.l.length : Int).sub (x_7.1.k.add 0) ∧ x_6.1.cap.sub (x_6.1.k.add x_6.snd) = x_7.1.cap.sub (x_7.1.k.add 0) ∧ (x_6.1.3 ↔ x_7.1.3) ∧ x_6.1.cap = x_7.1.cap ∧ PL.ints x_6.1.l
  = PL.ints x_7.1.l ∧ PL.NumIn x_7 ∧ ∀ (y : Unit), True → ∃ (x_8 : RImg × Int), 2 = x_8.snd ∧ (Nat.add 0 ((x_7.1.k.add x_7.snd).toNat.mul 1)).add 0 = (Nat.add 0 ((x_8.1.k.add
  0).toNat.mul 1)).add 0 ∧ (↑x_7.1.l.length : Int).sub (x_7.1.k.add x_7.snd) = (↑x_8.1.l.length : Int).sub (x_8.1.k.add 0) ∧ x_7.1.cap.sub (x_7.1.k.add x_7.snd) = x_8.1.cap.sub
  (x_8.1.k.add 0) ∧ (x_7.1.3 ↔ x_8.1.3) ∧ x_7.1.cap = x_8.1.cap ∧ PL.ints x_7.1.l = PL.ints x_8.1.l ∧ PL.NumIn x_8 ∧ ∀ (y : Unit), True → ∃ (x_9 : Cfg), PL.numB (PL.dropk x_2.1.l
  x_2.1.k x_2.snd) = x_9.slots ∧ PL.numB (PL.dropk x_3.1.l x_3.1.k x_3.snd) = x_9.files ∧ PL.numB (PL.dropk x_4.1.l x_4.1.k x_4.snd) = x_9.dirs ∧ PL.numB (PL.dropk x_5.1.l x_5.1.k
  x_5.snd) = x_9.most ∧ PL.numB (PL.dropk x_6.1.l x_6.1.k x_6.snd) = x_9.least ∧ PL.numB (PL.dropk x_7.1.l x_7.1.k x_7.snd) = x_9.page ∧ PL.CfgAny x_9 ∧ ∀ (y : Unit), True →
  ((¬ar.eq (PL.chk x_9) 0 → False) → ∃ (x_10 : Cfg), PL.numB (PL.dropk x_2.1.l x_2.1.k x_2.snd) = x_10.slots ∧ PL.numB (PL.dropk x_3.1.l x_3.1.k x_3.snd) = x_10.files ∧ PL.numB
  (PL.dropk x_4.1.l x_4.1.k x_4.snd) = x_10.dirs ∧ PL.numB (PL.dropk x_5.1.l x_5.1.k x_5.snd) = x_10.most ∧ PL.numB (PL.dropk x_6.1.l x_6.1.k x_6.snd) = x_10.least ∧ PL.numB
  (PL.dropk x_7.1.l x_7.1.k x_7.snd) = x_10.page ∧ CfgIn x_10 ∧ ∀ (y : Unit), True → ((¬ar.eq (PL.numB (PL.dropk x_8.1.l x_8.1.k x_8.snd)) (PL.pagesI x_10) → False) → ∀ (z : Int),
  z = ar.wrap IntKind.i64 (ar.mul (PL.numB (PL.dropk x_8.1.l x_8.1.k x_8.snd)) 32) → ∀ (z_1 : Int), z_1 = ar.wrap IntKind.i64 (ar.add 27 z) → (¬ar.eq (ar.slen x.snd) z_1 → ∃ (y :
  Root), PL.DecPost x y ∧ 0 = y.1.slots ∧ 0 = y.1.files ∧ 0 = y.1.dirs ∧ 0 = y.1.most ∧ 0 = y.1.least ∧ 0 = y.1.page ∧ 0 = y.2.len ∧ 0 = y.2.cap ∧ 141 = PL.decE x.fst x.snd ∧
  y.2.cap = 0 ∧ y.2.N = [] ∧ y.2.T = [] ∧ True) ∧ (¬¬ar.eq (ar.slen x.snd) z_1 → (¬(ar.eq (PL.numB (PL.dropk x_2.1.l x_2.1.k x_2.snd)) x.fst.slots ∧ ar.eq (PL.numB (PL.dropk
  x_3.1.l x_3.1.k x_3.snd)) x.fst.files ∧ ar.eq (PL.numB (PL.dropk x_4.1.l x_4.1.k x_4.snd)) x.fst.dirs ∧ ar.eq (PL.numB (PL.dropk x_5.1.l x_5.1.k x_5.snd)) x.fst.most ∧ ar.eq
  (PL.numB (PL.dropk x_6.1.l x_6.1.k x_6.snd)) x.fst.least ∧ ar.eq (PL.numB (PL.dropk x_7.1.l x_7.1.k x_7.snd)) x.fst.page) → ∃ (y : Root), PL.DecPost x y ∧ 0 = y.1.slots ∧ 0 =
  y.1.files ∧ 0 = y.1.dirs ∧ 0 = y.1.most ∧ 0 = y.1.least ∧ 0 = y.1.page ∧ 0 = y.2.len ∧ 0 = y.2.cap ∧ 140 = PL.decE x.fst x.snd ∧ y.2.cap = 0 ∧ y.2.N = [] ∧ y.2.T = [] ∧ True) ∧
  (¬¬(ar.eq (PL.numB (PL.dropk x_2.1.l x_2.1.k x_2.snd)) x.fst.slots ∧ ar.eq (PL.numB (PL.dropk x_3.1.l x_3.1.k x_3.snd)) x.fst.files ∧ ar.eq (PL.numB (PL.dropk x_4.1.l x_4.1.k
  x_4.snd)) x.fst.dirs ∧ ar.eq (PL.numB (PL.dropk x_5.1.l x_5.1.k x_5.snd)) x.fst.most ∧ ar.eq (PL.numB (PL.dropk x_6.1.l x_6.1.k x_6.snd)) x.fst.least ∧ ar.eq (PL.numB (PL.dropk
  x_7.1.l x_7.1.k x_7.snd)) x.fst.page) → ar.le 0 (PL.numB (PL.dropk x_8.1.l x_8.1.k x_8.snd)) ∧ ar.le (PL.numB (PL.dropk x_8.1.l x_8.1.k x_8.snd)) (PL.numB (PL.dropk x_8.1.l
  x_8.1.k x_8.snd)) ∧ ar.le (ar.mul (PL.numB (PL.dropk x_8.1.l x_8.1.k x_8.snd)) 32) 140737488355328 ∧ (∃ (i : Nat), PL.DecAt x i ∧ PL.numB (PL.dropk x_8.1.l x_8.1.k x_8.snd) =
  PL.numB (PL.dropk x_8.1.l x_8.1.k x_8.snd) ∧ PL.numB (PL.dropk x_8.1.l x_8.1.k x_8.snd) = PL.numB (PL.dropk x_8.1.l x_8.1.k x_8.snd) ∧ 0 = (↑i : Int) ∧ x.fst.slots = x.fst.slots
  ∧ x.fst.files = x.fst.files ∧ x.fst.dirs = x.fst.dirs ∧ x.fst.most = x.fst.most ∧ x.fst.least = x.fst.least ∧ x.fst.page = x.fst.page ∧ (Nat.add 0 ((x_8.1.k.add
  x_8.snd).toNat.mul 1)).add 0 = (Nat.add 0 ((Int.add 26 (Int.mul 32 (↑i : Int))).toNat.mul 1)).add 0 ∧ (↑x_8.1.l.length : Int).sub (x_8.1.k.add x_8.snd) = (↑(List.drop 1
  (List.take x.snd.length x.snd)).length : Int).sub (Int.add 26 (Int.mul 32 (↑i : Int))) ∧ x_8.1.cap.sub (x_8.1.k.add x_8.snd) = x_8.1.cap.sub (Int.add 26 (Int.mul 32 (↑i : Int)))
  ∧ (x_8.1.3 ↔ False) ∧ x_8.1.cap = x_8.1.cap ∧ PL.ints x_8.1.l = PL.ints x_8.1.l ∧ PL.numB (PL.dropk x_2.1.l x_2.1.k x_2.snd) = PL.numB (PL.dropk x_2.1.l x_2.1.k x_2.snd) ∧
  PL.numB (PL.dropk x_3.1.l x_3.1.k x_3.snd) = PL.numB (PL.dropk x_3.1.l x_3.1.k x_3.snd) ∧ PL.numB (PL.dropk x_4.1.l x_4.1.k x_4.snd) = PL.numB (PL.dropk x_4.1.l x_4.1.k x_4.snd)
  ∧ PL.numB (PL.dropk x_5.1.l x_5.1.k x_5.snd) = PL.numB (PL.dropk x_5.1.l x_5.1.k x_5.snd) ∧ PL.numB (PL.dropk x_6.1.l x_6.1.k x_6.snd) = PL.numB (PL.dropk x_6.1.l x_6.1.k
  x_6.snd) ∧ PL.numB (PL.dropk x_7.1.l x_7.1.k x_7.snd) = PL.numB (PL.dropk x_7.1.l x_7.1.k x_7.snd) ∧ PL.numB (PL.dropk x_8.1.l x_8.1.k x_8.snd) = PL.numB (PL.dropk x_8.1.l
  x_8.1.k x_8.snd) ∧ PL.numB (PL.dropk x_8.1.l x_8.1.k x_8.snd) = PL.numB (PL.dropk x_8.1.l x_8.1.k x_8.snd) ∧ PL.numB (PL.dropk x_8.1.l x_8.1.k x_8.snd) = PL.decCnt x.snd ∧
  ar.trep [] (PL.numB (PL.dropk x_8.1.l x_8.1.k x_8.snd)) = PL.decNi x.snd (PL.decCnt x.snd).toNat i ∧ ar.trep [] (PL.numB (PL.dropk x_8.1.l x_8.1.k x_8.snd)) = PL.decTi x.snd
  (PL.decCnt x.snd).toNat i ∧ True) ∧ ∀ (i : Nat), PL.DecAt x i → (ar.lt (↑i : Int) (PL.numB (PL.dropk x_8.1.l x_8.1.k x_8.snd)) → ∃ (x_11 : RImg × Int), 16 = x_11.snd ∧ (Nat.add 0
  ((Int.add 26 (Int.mul 32 (↑i : Int))).toNat.mul 1)).add 0 = (Nat.add 0 ((x_11.1.k.add 0).toNat.mul 1)).add 0 ∧ (↑(List.drop 1 (List.take x.snd.length x.snd)).length : Int).sub
  (Int.add 26 (Int.mul 32 (↑i : Int))) = (↑x_11.1.l.length : Int).sub (x_11.1.k.add 0) ∧ x_8.1.cap.sub (Int.add 26 (Int.mul 32 (↑i : Int))) = x_11.1.cap.sub (x_11.1.k.add 0) ∧
  (False ↔ x_11.1.3) ∧ x_8.1.cap = x_11.1.cap ∧ PL.ints x_8.1.l = PL.ints x_11.1.l ∧ PL.RImgOK x_11.fst x_11.snd ∧ ∀ (y : Unit), True → (ar.le 0 x_11.1.k ∧ ar.le (ar.add x_11.1.k
  x_11.snd) (ar.ilen (PL.ints x_11.1.l)) ∧ ∀ (t : List UInt8), t = ar.bytes (ar.isub (PL.ints x_11.1.l) x_11.1.k x_11.snd) → ∃ (x_12 : RImg × Int), 16 = x_12.snd ∧ (Nat.add 0
  ((x_11.1.k.add x_11.snd).toNat.mul 1)).add 0 = (Nat.add 0 ((x_12.1.k.add 0).toNat.mul 1)).add 0 ∧ (↑x_11.1.l.length : Int).sub (x_11.1.k.add x_11.snd) = (↑x_12.1.l.length :
  Int).sub (x_12.1.k.add 0) ∧ x_11.1.cap.sub (x_11.1.k.add x_11.snd) = x_12.1.cap.sub (x_12.1.k.add 0) ∧ (x_11.1.3 ↔ x_12.1.3) ∧ x_11.1.cap = x_12.1.cap ∧ PL.ints x_11.1.l =
  PL.ints x_12.1.l ∧ PL.RImgOK x_12.fst x_12.snd ∧ ∀ (y : Unit), True → ar.le 0 x_12.1.k ∧ ar.le (ar.add x_12.1.k x_12.snd) (ar.ilen (PL.ints x_12.1.l)) ∧ ∀ (t_1 : List UInt8), t_1
  = ar.bytes (ar.isub (PL.ints x_12.1.l) x_12.1.k x_12.snd) → ar.le 0 (↑i : Int) ∧ ar.lt (↑i : Int) (PL.numB (PL.dropk x_8.1.l x_8.1.k x_8.snd)) ∧ ar.le 0 (↑i : Int) ∧ ar.lt (↑i :
  Int) (ar.tlen (PL.decNi x.snd (PL.decCnt x.snd).toNat i)) ∧ ar.le 0 (↑i : Int) ∧ ar.lt (↑i : Int) (ar.tlen (PL.decTi x.snd (PL.decCnt x.snd).toNat i)) ∧ ∀ (z : Int), z = ar.wrap
  IntKind.i64 (ar.add (↑i : Int) 1) → ∃ (j : Nat), PL.DecAt x j ∧ ((PL.decCnt x.snd).toNat.sub j).lt ((PL.decCnt x.snd).toNat.sub i) ∧ PL.numB (PL.dropk x_8.1.l x_8.1.k x_8.snd) =
  PL.numB (PL.dropk x_8.1.l x_8.1.k x_8.snd) ∧ PL.numB (PL.dropk x_8.1.l x_8.1.k x_8.snd) = PL.numB (PL.dropk x_8.1.l x_8.1.k x_8.snd) ∧ z = (↑j : Int) ∧ x.fst.slots = x.fst.slots
  ∧ x.fst.files = x.fst.files ∧ x.fst.dirs = x.fst.dirs ∧ x.fst.most = x.fst.most ∧ x.fst.least = x.fst.least ∧ x.fst.page = x.fst.page ∧ (Nat.add 0 ((x_12.1.k.add
  x_12.snd).toNat.mul 1)).add 0 = (Nat.add 0 ((Int.add 26 (Int.mul 32 (↑j : Int))).toNat.mul 1)).add 0 ∧ (↑x_12.1.l.length : Int).sub (x_12.1.k.add x_12.snd) = (↑(List.drop 1
  (List.take x.snd.length x.snd)).length : Int).sub (Int.add 26 (Int.mul 32 (↑j : Int))) ∧ x_12.1.cap.sub (x_12.1.k.add x_12.snd) = x_8.1.cap.sub (Int.add 26 (Int.mul 32 (↑j :
  Int))) ∧ (x_12.1.3 ↔ False) ∧ x_12.1.cap = x_8.1.cap ∧ PL.ints x_12.1.l = PL.ints x_8.1.l ∧ PL.numB (PL.dropk x_2.1.l x_2.1.k x_2.snd) = PL.numB (PL.dropk x_2.1.l x_2.1.k
  x_2.snd) ∧ PL.numB (PL.dropk x_3.1.l x_3.1.k x_3.snd) = PL.numB (PL.dropk x_3.1.l x_3.1.k x_3.snd) ∧ PL.numB (PL.dropk x_4.1.l x_4.1.k x_4.snd) = PL.numB (PL.dropk x_4.1.l
  x_4.1.k x_4.snd) ∧ PL.numB (PL.dropk x_5.1.l x_5.1.k x_5.snd) = PL.numB (PL.dropk x_5.1.l x_5.1.k x_5.snd) ∧ PL.numB (PL.dropk x_6.1.l x_6.1.k x_6.snd) = PL.numB (PL.dropk
  x_6.1.l x_6.1.k x_6.snd) ∧ PL.numB (PL.dropk x_7.1.l x_7.1.k x_7.snd) = PL.numB (PL.dropk x_7.1.l x_7.1.k x_7.snd) ∧ PL.numB (PL.dropk x_8.1.l x_8.1.k x_8.snd) = PL.numB
  (PL.dropk x_8.1.l x_8.1.k x_8.snd) ∧ PL.numB (PL.dropk x_8.1.l x_8.1.k x_8.snd) = PL.numB (PL.dropk x_8.1.l x_8.1.k x_8.snd) ∧ PL.decCnt x.snd = PL.decCnt x.snd ∧ ar.tset
  (PL.decNi x.snd (PL.decCnt x.snd).toNat i) (↑i : Int) t = PL.decNi x.snd (PL.decCnt x.snd).toNat j ∧ ar.tset (PL.decTi x.snd (PL.decCnt x.snd).toNat i) (↑i : Int) t_1 = PL.decTi
  x.snd (PL.decCnt x.snd).toNat j ∧ True) ∧ ∃ (x_12 : RImg × Int), 16 = x_12.snd ∧ (Nat.add 0 ((x_11.1.k.add x_11.snd).toNat.mul 1)).add 0 = (Nat.add 0 ((x_12.1.k.add 0).toNat.mul
  1)).add 0 ∧ (↑x_11.1.l.length : Int).sub (x_11.1.k.add x_11.snd) = (↑x_12.1.l.length : Int).sub (x_12.1.k.add 0) ∧ x_11.1.cap.sub (x_11.1.k.add x_11.snd) = x_12.1.cap.sub
  (x_12.1.k.add 0) ∧ (x_11.1.3 ↔ x_12.1.3) ∧ x_11.1.cap = x_12.1.cap ∧ PL.ints x_11.1.l = PL.ints x_12.1.l ∧ PL.RImgOK x_12.fst x_12.snd ∧ ∀ (y : Unit), True → ar.le 0 x_11.1.k ∧
  ar.le (ar.add x_11.1.k x_11.snd) (ar.ilen (PL.ints x_12.1.l)) ∧ ∀ (t : List UInt8), t = ar.bytes (ar.isub (PL.ints x_12.1.l) x_11.1.k x_11.snd) → ar.le 0 x_12.1.k ∧ ar.le (ar.add
  x_12.1.k x_12.snd) (ar.ilen (PL.ints x_12.1.l)) ∧ ∀ (t_1 : List UInt8), t_1 = ar.bytes (ar.isub (PL.ints x_12.1.l) x_12.1.k x_12.snd) → ar.le 0 (↑i : Int) ∧ ar.lt (↑i : Int)
  (PL.numB (PL.dropk x_8.1.l x_8.1.k x_8.snd)) ∧ ar.le 0 (↑i : Int) ∧ ar.lt (↑i : Int) (ar.tlen (PL.decNi x.snd (PL.decCnt x.snd).toNat i)) ∧ ar.le 0 (↑i : Int) ∧ ar.lt (↑i : Int)
  (ar.tlen (PL.decTi x.snd (PL.decCnt x.snd).toNat i)) ∧ ∀ (z : Int), z = ar.wrap IntKind.i64 (ar.add (↑i : Int) 1) → ∃ (j : Nat), PL.DecAt x j ∧ ((PL.decCnt x.snd).toNat.sub j).lt
  ((PL.decCnt x.snd).toNat.sub i) ∧ PL.numB (PL.dropk x_8.1.l x_8.1.k x_8.snd) = PL.numB (PL.dropk x_8.1.l x_8.1.k x_8.snd) ∧ PL.numB (PL.dropk x_8.1.l x_8.1.k x_8.snd) = PL.numB
  (PL.dropk x_8.1.l x_8.1.k x_8.snd) ∧ z = (↑j : Int) ∧ x.fst.slots = x.fst.slots ∧ x.fst.files = x.fst.files ∧ x.fst.dirs = x.fst.dirs ∧ x.fst.most = x.fst.most ∧ x.fst.least =
  x.fst.least ∧ x.fst.page = x.fst.page ∧ (Nat.add 0 ((x_12.1.k.add x_12.snd).toNat.mul 1)).add 0 = (Nat.add 0 ((Int.add 26 (Int.mul 32 (↑j : Int))).toNat.mul 1)).add 0 ∧
  (↑x_12.1.l.length : Int).sub (x_12.1.k.add x_12.snd) = (↑(List.drop 1 (List.take x.snd.length x.snd)).length : Int).sub (Int.add 26 (Int.mul 32 (↑j : Int))) ∧ x_12.1.cap.sub
  (x_12.1.k.add x_12.snd) = x_8.1.cap.sub (Int.add 26 (Int.mul 32 (↑j : Int))) ∧ (x_12.1.3 ↔ False) ∧ x_12.1.cap = x_8.1.cap ∧ PL.ints x_12.1.l = PL.ints x_8.1.l ∧ PL.numB
  (PL.dropk x_2.1.l x_2.1.k x_2.snd) = PL.numB (PL.dropk x_2.1.l x_2.1.k x_2.snd) ∧ PL.numB (PL.dropk x_3.1.l x_3.1.k x_3.snd) = PL.numB (PL.dropk x_3.1.l x_3.1.k x_3.snd) ∧
  PL.numB (PL.dropk x_4.1.l x_4.1.k x_4.snd) = PL.numB (PL.dropk x_4.1.l x_4.1.k x_4.snd) ∧ PL.numB (PL.dropk x_5.1.l x_5.1.k x_5.snd) = PL.numB (PL.dropk x_5.1.l x_5.1.k x_5.snd)
  ∧ PL.numB (PL.dropk x_6.1.l x_6.1.k x_6.snd) = PL.numB (PL.dropk x_6.1.l x_6.1.k x_6.snd) ∧ PL.numB (PL.dropk x_7.1.l x_7.1.k x_7.snd) = PL.numB (PL.dropk x_7.1.l x_7.1.k
  x_7.snd) ∧ PL.numB (PL.dropk x_8.1.l x_8.1.k x_8.snd) = PL.numB (PL.dropk x_8.1.l x_8.1.k x_8.snd) ∧ PL.numB (PL.dropk x_8.1.l x_8.1.k x_8.snd) = PL.numB (PL.dropk x_8.1.l
  x_8.1.k x_8.snd) ∧ PL.decCnt x.snd = PL.decCnt x.snd ∧ ar.tset (PL.decNi x.snd (PL.decCnt x.snd).toNat i) (↑i : Int) t = PL.decNi x.snd (PL.decCnt x.snd).toNat j ∧ ar.tset
  (PL.decTi x.snd (PL.decCnt x.snd).toNat i) (↑i : Int) t_1 = PL.decTi x.snd (PL.decCnt x.snd).toNat j ∧ True) ∧ (¬ar.lt (↑i : Int) (PL.numB (PL.dropk x_8.1.l x_8.1.k x_8.snd)) → ∃
  (y : Root), PL.DecPost x y ∧ PL.numB (PL.dropk x_2.1.l x_2.1.k x_2.snd) = y.1.slots ∧ PL.numB (PL.dropk x_3.1.l x_3.1.k x_3.snd) = y.1.files ∧ PL.numB (PL.dropk x_4.1.l x_4.1.k
  x_4.snd) = y.1.dirs ∧ PL.numB (PL.dropk x_5.1.l x_5.1.k x_5.snd) = y.1.most ∧ PL.numB (PL.dropk x_6.1.l x_6.1.k x_6.snd) = y.1.least ∧ PL.numB (PL.dropk x_7.1.l x_7.1.k x_7.snd)
  = y.1.page ∧ PL.numB (PL.dropk x_8.1.l x_8.1.k x_8.snd) = y.2.len ∧ PL.numB (PL.dropk x_8.1.l x_8.1.k x_8.snd) = y.2.cap ∧ 0 = PL.decE x.fst x.snd ∧ PL.decCnt x.snd = y.2.cap ∧
  PL.decNi x.snd (PL.decCnt x.snd).toNat i = y.2.N ∧ PL.decTi x.snd (PL.decCnt x.snd).toNat i = y.2.T ∧ True)))) ∧ (¬(¬ar.eq (PL.numB (PL.dropk x_8.1.l x_8.1.k x_8.snd)) (PL.pagesI
  x_10) → False) → ∃ (y : Root), PL.DecPost x y ∧ 0 = y.1.slots ∧ 0 = y.1.files ∧ 0 = y.1.dirs ∧ 0 = y.1.most ∧ 0 = y.1.least ∧ 0 = y.1.page ∧ 0 = y.2.len ∧ 0 = y.2.cap ∧ 141 =
  PL.decE x.fst x.snd ∧ y.2.cap = 0 ∧ y.2.N = [] ∧ y.2.T = [] ∧ True)) ∧ (¬(¬ar.eq (PL.chk x_9) 0 → False) → ∃ (y : Root), PL.DecPost x y ∧ 0 = y.1.slots ∧ 0 = y.1.files ∧ 0 =
  y.1.dirs ∧ 0 = y.1.most ∧ 0 = y.1.least ∧ 0 = y.1.page ∧ 0 = y.2.len ∧ 0 = y.2.cap ∧ 141 = PL.decE x.fst x.snd ∧ y.2.cap = 0 ∧ y.2.N = [] ∧ y.2.T = [] ∧ True))) ∧ (¬(ar.lt
  (ar.slen x.snd) 27 → False) → ∃ (y : Root), PL.DecPost x y ∧ 0 = y.1.slots ∧ 0 = y.1.files ∧ 0 = y.1.dirs ∧ 0 = y.1.most ∧ 0 = y.1.least ∧ 0 = y.1.page ∧ 0 = y.2.len ∧ 0 =
  y.2.cap ∧ 141 = PL.decE x.fst x.snd ∧ y.2.cap = 0 ∧ y.2.N = [] ∧ y.2.T = [] ∧ True))
theorem dec_eq (ar : AR) (x : decSpec.X) : (run ar PP decSpecs (decInvs x) 1000 15 (decSpec.H x).length (Try.f15.body.getD .skip) (decSpec.A x ++ List.replicate (Try.f15.ntmps - (decSpec.A x).length) .any) (decSpec.H x) (endCall ar PP Try.f15.results.toList (decSpec.fin x))) = dec_vc ar x := by
  kernel_rfl
theorem dec_of (h : ∀ x, decSpec.pre x → dec_vc ar0 x) : decSpec.OK PP 15 :=
  Spec.ok_of_run (fn := Try.f15) (c := Try.f15.body.getD .skip) (by kernel_rfl) (by kernel_rfl) (by kernel_rfl) decSpecs_ok decInvs 1000 (fun x hx => (dec_eq ar0 x).mpr (h x hx))
theorem idecSpec_ok : decSpec.OK PP 15 := by
  refine dec_of fun x hx => ?_
  obtain ⟨c, s⟩ := x
  obtain ⟨hlen⟩ : PL.DecIn (c, s) := hx
  simp only at hlen
  unfold dec_vc
  simp only [ars, ars2, ex_cfg6, cfg_eta, cfg_eq6, ex_rimg, ex_noroot, cfgAny, true_and, and_true, exists_const, forall_const, imp_false, Classical.not_not, forall_eq, Int.toNat_natCast, Int.reduceToNat]
  have len_tail : (List.drop 1 (List.take s.length s)).length = s.length - 1 := by simp
  refine ⟨fun hc => ⟨post_no fun h => hc (PL.chk_ok h.ok), ?_⟩, fun hc => ?_⟩
  · have hn : ¬ CfgOK c := fun h => hc (PL.chk_ok h)
    rw [PL.chk_bad hn, PL.decE_c hn]
  have hC := PL.chk_zero.1 hc
  have bad : ¬ PL.DecI s → PL.DecPost (c, s) PL.noRoot ∧ 141 = PL.decE c s := fun h => ⟨post_no fun g => h g.i, (PL.decE_i hC h).symm⟩
  refine ⟨fun h27 => ⟨by omega, fun hm => bad fun h => hm (by have := h.head.mark; rw [this]; rfl), fun hm => ⟨by omega, fun cap hcap => ⟨(⟨List.drop 1 (List.take s.length s), cap, False, 0⟩, 4), rfl, rfl, by simp, by simp, by simp, rfl, rfl, ?_⟩⟩⟩, fun h27 => bad fun h => absurd h.head.len (by omega)⟩
  rw [len_tail] at hcap
  have hH : PL.DecH s := ⟨by omega, by apply UInt8.toNat_inj.1; exact_mod_cast hm⟩
  simp only [dropk_tail, Int.reduceAdd, Int.reduceToNat, Nat.reduceAdd, PL.ints_length, len_tail]
  have num : ∀ k n : Int, 0 ≤ k → 0 ≤ n → n ≤ 7 → k + n ≤ 26 → PL.NumIn (⟨List.drop 1 (List.take s.length s), cap, False, k⟩, n) := fun k n h1 h2 h3 h4 => ⟨⟨by simp only [len_tail]; omega, h1, h2, by simp only [len_tail]; omega⟩, h3⟩
  refine ⟨num 0 4 (by omega) (by omega) (by omega) (by omega), num 4 4 (by omega) (by omega) (by omega) (by omega), num 8 4 (by omega) (by omega) (by omega) (by omega), num 12 4 (by omega) (by omega) (by omega) (by omega), num 16 4 (by omega) (by omega) (by omega) (by omega), num 20 4 (by omega) (by omega) (by omega) (by omega), num 24 2 (by omega) (by omega) (by omega) (by omega), ?_⟩
  simp only [decCfg_eq, decCnt_eq]
  have hcb := PL.numB_lt (l := PL.sub s 25 2) (k := 2) (by simp [PL.sub]; omega)
  rw [decCnt_eq] at hcb
  have h256 : (256 : Int) ^ 2 = 65536 := by decide
  rw [wrap_i64 (n := PL.decCnt s * 32) (by omega) (by omega), wrap_i64 (n := 27 + PL.decCnt s * 32) (by omega) (by omega)]
  refine ⟨fun hd => ?_, fun hd => bad fun h => hd (PL.chk_ok h.cfg)⟩
  have hD := PL.chk_zero.1 hd
  refine ⟨hD.ok, fun hp => ?_, fun hp => bad fun h => hp h.cnt⟩
  refine ⟨fun hl => bad fun h => hl h.len, fun hl => ?_⟩
  have hI : PL.DecI s := ⟨hH, hD, hp, hl⟩
  refine ⟨fun he => ⟨post_no fun g => he g.cfg, (PL.decE_o hC hI he).symm⟩, fun he => ?_⟩
  have hOK : PL.DecOK c s := ⟨hC, hI, he⟩
  have hn : ((PL.decCnt s).toNat : Int) = PL.decCnt s := Int.toNat_of_nonneg hcb.1
  refine ⟨hcb.1, Int.le_refl _, by omega, ⟨0, ⟨by simpa using hcb.1⟩, rfl, by simp, by simp, by simp, trivial, trivial, (ni_zero _ _).symm, (ti_zero _ _).symm⟩, fun i hi => ?_⟩
  have hle := hi.le
  simp only at hle
  have nl : (PL.decNi s (PL.decCnt s).toNat i).length = (PL.decCnt s).toNat := by simp [PL.decNi]
  have tl : (PL.decTi s (PL.decCnt s).toNat i).length = (PL.decCnt s).toNat := by simp [PL.decTi]
  simp only [nl, tl]
  refine ⟨fun hlt => ?_, fun hge => ?_⟩
  · have r1 : PL.RImgOK ⟨List.drop 1 (List.take s.length s), cap, False, 26 + 32 * (i : Int)⟩ 16 := ⟨by simp only [len_tail]; omega, by simp only; omega, by omega, by simp only [len_tail]; omega⟩
    have r2 : PL.RImgOK ⟨List.drop 1 (List.take s.length s), cap, False, 26 + 32 * (i : Int) + 16⟩ 16 := ⟨by simp only [len_tail]; omega, by simp only; omega, by omega, by simp only [len_tail]; omega⟩
    rw [piece s (26 + 32 * i) _ (by omega), piece s (42 + 32 * i) _ (by omega), wrap_i64 (by omega) (by omega)]
    have e1 : (PL.decNi s (PL.decCnt s).toNat i).set i (PL.sub s (1 + (26 + 32 * i)) 16) = PL.decNi s (PL.decCnt s).toNat (i + 1) := by
      rw [show 1 + (26 + 32 * i) = 27 + 32 * i by omega]
      exact range_set (fun j => PL.sub s (27 + 32 * j) 16) _ i
    have e2 : (PL.decTi s (PL.decCnt s).toNat i).set i (PL.sub s (1 + (42 + 32 * i)) 16) = PL.decTi s (PL.decCnt s).toNat (i + 1) := by
      rw [show 1 + (42 + 32 * i) = 43 + 32 * i by omega]
      exact range_set (fun j => PL.sub s (43 + 32 * j) 16) _ i
    have e1' : ar0.tset (PL.decNi s (PL.decCnt s).toNat i) (i : Int) (PL.sub s (1 + (26 + 32 * i)) 16) = PL.decNi s (PL.decCnt s).toNat (i + 1) := e1
    have e2' : ar0.tset (PL.decTi s (PL.decCnt s).toNat i) (i : Int) (PL.sub s (1 + (42 + 32 * i)) 16) = PL.decTi s (PL.decCnt s).toNat (i + 1) := e2
    rw [e1', e2']
    refine ⟨trivial, r1, ⟨by omega, by omega, r2, by omega, by omega, by omega, hlt, by omega, by omega, by omega, by omega, i + 1, ⟨by simp only; omega⟩, by omega, by omega, by omega, by omega, by omega, rfl, rfl⟩,
      r2, by omega, by omega, by omega, by omega, by omega, hlt, by omega, by omega, by omega, by omega, i + 1, ⟨by simp only; omega⟩, by omega, by omega, by omega, by omega, by omega, rfl, rfl⟩
  · have : i = (PL.decCnt s).toNat := by omega
    subst this
    have f1 : PL.decNi s (PL.decCnt s).toNat (PL.decCnt s).toNat = PL.decN s (PL.decCnt s).toNat := range_full (fun j => PL.sub s (27 + 32 * j) 16) _
    have f2 : PL.decTi s (PL.decCnt s).toNat (PL.decCnt s).toNat = PL.decT s (PL.decCnt s).toNat := range_full (fun j => PL.sub s (43 + 32 * j) 16) _
    rw [f1, f2]
    refine ⟨⟨PL.decCfg s, ⟨PL.decN s (PL.decCnt s).toNat, PL.decT s (PL.decCnt s).toNat, PL.decCnt s, PL.decCnt s⟩⟩, ⟨⟨PL.decCnt s, by rw [PL.decR_ok hOK, he], Int.le_refl _⟩⟩, rfl, rfl, rfl, rfl, rfl, rfl, rfl, rfl, (PL.decE_ok hOK).symm, rfl, rfl, rfl⟩
theorem renc13_ok : encSpec.OK PP 13 := rencSpec_ok
noncomputable def rdecSpecs : Specs := fun f xs hp => match f with
  | 13 => some encSpec
  | 39 => some snumSpec
  | _ => eSpecs f xs hp
theorem rdecSpecs_ok : SpecsOK PP rdecSpecs := by
  intro CW f xs hp S h
  unfold rdecSpecs at h
  split at h
  · cases h; exact rencSpec_ok
  · cases h; exact snumSpec_ok
  · exact eSpecs_ok CW f xs hp S h
def rdecR (x : Cfg × List UInt8) (i : Nat × Int) : Blk := .mk 35 ((cfgL (PL.decCfg x.2)).map .one ++ [.one (.slc 3 (.l 0) (.x (i.1 : Int)) (.x i.2))])
def rdecP (x : Cfg × List UInt8) (i : Nat × Int) : Blk := .mk 37 [.arr (.x i.2) [.strs (PL.decN x.2 i.1), .strs (PL.decT x.2 i.1)]]
def rdecInv (x : Cfg × List UInt8) : Code → List SV → List Blk → List Inv := fun b fr hp => [
  { ι := Nat × Int, fr := fun i => only b fr 0 [1, 2, 4, 6] [(7, .int .i64 (.x (27 + 32 * (i.1 : Int))))], hp := fun i => [hp.getD 0 .gone, hp.getD 1 .gone, rdecR x i, rdecP x i],
    μ := fun i => x.2.length - 32 * i.1, ok := fun i => PL.RDecAt x i }]
def rdecCut (x : Cfg × List UInt8) : Code → List SV → List Blk → List Inv := fun b fr hp => [
  { ι := Unit, fr := fun i => only b fr 0 [1, 2, 4] [(6, .ptr 2 (.l 0))], hp := fun i => [hp.getD 0 .gone, hp.getD 1 .gone, .mk 35 ((cfgL (PL.decCfg x.2)).map .one ++ [.one .nslc])], μ := fun i => 0, ok := fun i => PL.True1 i }]
def rdecInvs (x : Cfg × List UInt8) : Invs := fun f n => match f, n with
  | 16, 7 => some (rdecInv x)
  | 16, 1000005 => some (rdecCut x)
  | _, _ => none
def rdec_vc (ar : AR) (x : decSpec.X) : Prop :=
  ∃ (x_1 : Cfg), x.fst.slots = x_1.slots ∧ x.fst.files = x_1.files ∧ x.fst.dirs = x_1.dirs ∧ x.fst.most = x_1.most ∧ x.fst.least = x_1.least ∧ x.fst.page = x_1.page ∧ PL.CfgAny x_1
  ∧ ∀ (y : Unit), True → (¬ar.eq (PL.chk x_1) 0 → ∃ (y : Root), PL.DecPost x y ∧ 0 = y.1.slots ∧ 0 = y.1.files ∧ 0 = y.1.dirs ∧ 0 = y.1.most ∧ 0 = y.1.least ∧ 0 = y.1.page ∧ 0 =
  y.2.len ∧ 0 = y.2.cap ∧ 140 = PL.decE x.fst x.snd ∧ y.2.cap = 0 ∧ y.2.N = [] ∧ y.2.T = [] ∧ True) ∧ (¬¬ar.eq (PL.chk x_1) 0 → (ar.lt (ar.slen x.snd) 27 → ∃ (y : Root), PL.DecPost
  x y ∧ 0 = y.1.slots ∧ 0 = y.1.files ∧ 0 = y.1.dirs ∧ 0 = y.1.most ∧ 0 = y.1.least ∧ 0 = y.1.page ∧ 0 = y.2.len ∧ 0 = y.2.cap ∧ 141 = PL.decE x.fst x.snd ∧ y.2.cap = 0 ∧ y.2.N =
  [] ∧ y.2.T = [] ∧ True) ∧ (¬ar.lt (ar.slen x.snd) 27 → (ar.le 5 (ar.slen x.snd) ∧ ∀ (t : List UInt8), t = ar.sext x.snd 1 5 → ar.le 9 (ar.slen x.snd) ∧ ∀ (t_1 : List UInt8), t_1
  = ar.sext x.snd 5 9 → ar.le 13 (ar.slen x.snd) ∧ ∀ (t_2 : List UInt8), t_2 = ar.sext x.snd 9 13 → ar.le 17 (ar.slen x.snd) ∧ ∀ (t_3 : List UInt8), t_3 = ar.sext x.snd 13 17 →
  ar.le 21 (ar.slen x.snd) ∧ ∀ (t_4 : List UInt8), t_4 = ar.sext x.snd 17 21 → ar.le 25 (ar.slen x.snd) ∧ ∀ (t_5 : List UInt8), t_5 = ar.sext x.snd 21 25 → (∃ (x_2 : List UInt8), t
  = x_2 ∧ PL.SNumIn x_2 ∧ ∀ (y : Unit), True → (∃ (x_3 : List UInt8), t_1 = x_3 ∧ PL.SNumIn x_3 ∧ ∀ (y : Unit), True → (∃ (x_4 : List UInt8), t_2 = x_4 ∧ PL.SNumIn x_4 ∧ ∀ (y :
  Unit), True → (∃ (x_5 : List UInt8), t_3 = x_5 ∧ PL.SNumIn x_5 ∧ ∀ (y : Unit), True → (∃ (x_6 : List UInt8), t_4 = x_6 ∧ PL.SNumIn x_6 ∧ ∀ (y : Unit), True → (∃ (x_7 : List
  UInt8), t_5 = x_7 ∧ PL.SNumIn x_7 ∧ ∀ (y : Unit), True → ∃ (i : Unit), PL.True1 i ∧ x.snd = x.snd ∧ x.fst.slots = x.fst.slots ∧ x.fst.files = x.fst.files ∧ x.fst.dirs =
  x.fst.dirs ∧ x.fst.most = x.fst.most ∧ x.fst.least = x.fst.least ∧ x.fst.page = x.fst.page ∧ PL.numB x_2 = PL.num4 x.snd 1 ∧ PL.numB x_3 = PL.num4 x.snd 5 ∧ PL.numB x_4 = PL.num4
  x.snd 9 ∧ PL.numB x_5 = PL.num4 x.snd 13 ∧ PL.numB x_6 = PL.num4 x.snd 17 ∧ PL.numB x_7 = PL.num4 x.snd 21 ∧ True) ∧ ∃ (x_7 : List UInt8), t_5 = x_7 ∧ PL.SNumIn x_7 ∧ ∀ (y :
  Unit), True → ∃ (i : Unit), PL.True1 i ∧ x.snd = x.snd ∧ x.fst.slots = x.fst.slots ∧ x.fst.files = x.fst.files ∧ x.fst.dirs = x.fst.dirs ∧ x.fst.most = x.fst.most ∧ x.fst.least =
  x.fst.least ∧ x.fst.page = x.fst.page ∧ PL.numB x_2 = PL.num4 x.snd 1 ∧ PL.numB x_3 = PL.num4 x.snd 5 ∧ PL.numB x_4 = PL.num4 x.snd 9 ∧ PL.numB x_5 = PL.num4 x.snd 13 ∧ PL.numB
  x_6 = PL.num4 x.snd 17 ∧ PL.numB x_7 = PL.num4 x.snd 21 ∧ True) ∧ ∃ (x_6 : List UInt8), t_4 = x_6 ∧ PL.SNumIn x_6 ∧ ∀ (y : Unit), True → ∃ (x_7 : List UInt8), t_5 = x_7 ∧
  PL.SNumIn x_7 ∧ ∀ (y : Unit), True → ∃ (i : Unit), PL.True1 i ∧ x.snd = x.snd ∧ x.fst.slots = x.fst.slots ∧ x.fst.files = x.fst.files ∧ x.fst.dirs = x.fst.dirs ∧ x.fst.most =
  x.fst.most ∧ x.fst.least = x.fst.least ∧ x.fst.page = x.fst.page ∧ PL.numB x_2 = PL.num4 x.snd 1 ∧ PL.numB x_3 = PL.num4 x.snd 5 ∧ PL.numB x_4 = PL.num4 x.snd 9 ∧ PL.numB x_5 =
  PL.num4 x.snd 13 ∧ PL.numB x_6 = PL.num4 x.snd 17 ∧ PL.numB x_7 = PL.num4 x.snd 21 ∧ True) ∧ ∃ (x_5 : List UInt8), t_3 = x_5 ∧ PL.SNumIn x_5 ∧ ∀ (y : Unit), True → ∃ (x_6 : List
  UInt8), t_4 = x_6 ∧ PL.SNumIn x_6 ∧ ∀ (y : Unit), True → ∃ (x_7 : List UInt8), t_5 = x_7 ∧ PL.SNumIn x_7 ∧ ∀ (y : Unit), True → ∃ (i : Unit), PL.True1 i ∧ x.snd = x.snd ∧
  x.fst.slots = x.fst.slots ∧ x.fst.files = x.fst.files ∧ x.fst.dirs = x.fst.dirs ∧ x.fst.most = x.fst.most ∧ x.fst.least = x.fst.least ∧ x.fst.page = x.fst.page ∧ PL.numB x_2 =
  PL.num4 x.snd 1 ∧ PL.numB x_3 = PL.num4 x.snd 5 ∧ PL.numB x_4 = PL.num4 x.snd 9 ∧ PL.numB x_5 = PL.num4 x.snd 13 ∧ PL.numB x_6 = PL.num4 x.snd 17 ∧ PL.numB x_7 = PL.num4 x.snd 21
  ∧ True) ∧ ∃ (x_4 : List UInt8), t_2 = x_4 ∧ PL.SNumIn x_4 ∧ ∀ (y : Unit), True → ∃ (x_5 : List UInt8), t_3 = x_5 ∧ PL.SNumIn x_5 ∧ ∀ (y : Unit), True → ∃ (x_6 : List UInt8), t_4
  = x_6 ∧ PL.SNumIn x_6 ∧ ∀ (y : Unit), True → ∃ (x_7 : List UInt8), t_5 = x_7 ∧ PL.SNumIn x_7 ∧ ∀ (y : Unit), True → ∃ (i : Unit), PL.True1 i ∧ x.snd = x.snd ∧ x.fst.slots =
  x.fst.slots ∧ x.fst.files = x.fst.files ∧ x.fst.dirs = x.fst.dirs ∧ x.fst.most = x.fst.most ∧ x.fst.least = x.fst.least ∧ x.fst.page = x.fst.page ∧ PL.numB x_2 = PL.num4 x.snd 1
  ∧ PL.numB x_3 = PL.num4 x.snd 5 ∧ PL.numB x_4 = PL.num4 x.snd 9 ∧ PL.numB x_5 = PL.num4 x.snd 13 ∧ PL.numB x_6 = PL.num4 x.snd 17 ∧ PL.numB x_7 = PL.num4 x.snd 21 ∧ True) ∧ ∃
  (x_3 : List UInt8), t_1 = x_3 ∧ PL.SNumIn x_3 ∧ ∀ (y : Unit), True → ∃ (x_4 : List UInt8), t_2 = x_4 ∧ PL.SNumIn x_4 ∧ ∀ (y : Unit), True → ∃ (x_5 : List UInt8), t_3 = x_5 ∧
  PL.SNumIn x_5 ∧ ∀ (y : Unit), True → ∃ (x_6 : List UInt8), t_4 = x_6 ∧ PL.SNumIn x_6 ∧ ∀ (y : Unit), True → ∃ (x_7 : List UInt8), t_5 = x_7 ∧ PL.SNumIn x_7 ∧ ∀ (y : Unit), True →
  ∃ (i : Unit), PL.True1 i ∧ x.snd = x.snd ∧ x.fst.slots = x.fst.slots ∧ x.fst.files = x.fst.files ∧ x.fst.dirs = x.fst.dirs ∧ x.fst.most = x.fst.most ∧ x.fst.least = x.fst.least ∧
  x.fst.page = x.fst.page ∧ PL.numB x_2 = PL.num4 x.snd 1 ∧ PL.numB x_3 = PL.num4 x.snd 5 ∧ PL.numB x_4 = PL.num4 x.snd 9 ∧ PL.numB x_5 = PL.num4 x.snd 13 ∧ PL.numB x_6 = PL.num4
  x.snd 17 ∧ PL.numB x_7 = PL.num4 x.snd 21 ∧ True) ∧ ∃ (x_2 : List UInt8), t = x_2 ∧ PL.SNumIn x_2 ∧ ∀ (y : Unit), True → ∃ (x_3 : List UInt8), t_1 = x_3 ∧ PL.SNumIn x_3 ∧ ∀ (y :
  Unit), True → ∃ (x_4 : List UInt8), t_2 = x_4 ∧ PL.SNumIn x_4 ∧ ∀ (y : Unit), True → ∃ (x_5 : List UInt8), t_3 = x_5 ∧ PL.SNumIn x_5 ∧ ∀ (y : Unit), True → ∃ (x_6 : List UInt8),
  t_4 = x_6 ∧ PL.SNumIn x_6 ∧ ∀ (y : Unit), True → ∃ (x_7 : List UInt8), t_5 = x_7 ∧ PL.SNumIn x_7 ∧ ∀ (y : Unit), True → ∃ (i : Unit), PL.True1 i ∧ x.snd = x.snd ∧ x.fst.slots =
  x.fst.slots ∧ x.fst.files = x.fst.files ∧ x.fst.dirs = x.fst.dirs ∧ x.fst.most = x.fst.most ∧ x.fst.least = x.fst.least ∧ x.fst.page = x.fst.page ∧ PL.numB x_2 = PL.num4 x.snd 1
  ∧ PL.numB x_3 = PL.num4 x.snd 5 ∧ PL.numB x_4 = PL.num4 x.snd 9 ∧ PL.numB x_5 = PL.num4 x.snd 13 ∧ PL.numB x_6 = PL.num4 x.snd 17 ∧ PL.numB x_7 = PL.num4 x.snd 21 ∧ True) ∧ ∀ (i
  : Unit), PL.True1 i → (∃ (i : Nat × Int), PL.RDecAt x i ∧ x.snd = x.snd ∧ 27 = Int.add 27 (Int.mul 32 (↑i.fst : Int)) ∧ x.fst.slots = x.fst.slots ∧ x.fst.files = x.fst.files ∧
  x.fst.dirs = x.fst.dirs ∧ x.fst.most = x.fst.most ∧ x.fst.least = x.fst.least ∧ x.fst.page = x.fst.page ∧ PL.num4 x.snd 1 = PL.num4 x.snd 1 ∧ PL.num4 x.snd 5 = PL.num4 x.snd 5 ∧
  PL.num4 x.snd 9 = PL.num4 x.snd 9 ∧ PL.num4 x.snd 13 = PL.num4 x.snd 13 ∧ PL.num4 x.snd 17 = PL.num4 x.snd 17 ∧ PL.num4 x.snd 21 = PL.num4 x.snd 21 ∧ 0 = (↑i.fst : Int) ∧ 0 =
  i.snd ∧ i.snd = 0 ∧ PL.decN x.snd i.fst = [] ∧ PL.decT x.snd i.fst = [] ∧ True) ∧ ∀ (i : Nat × Int), PL.RDecAt x i → ∀ (z : Int), z = ar.wrap IntKind.i64 (ar.add (Int.add 27
  (Int.mul 32 (↑i.fst : Int))) 32) → (ar.le z (ar.slen x.snd) → ∀ (z : Int), z = ar.wrap IntKind.i64 (ar.add (Int.add 27 (Int.mul 32 (↑i.fst : Int))) 16) → ar.le 0 (Int.add 27
  (Int.mul 32 (↑i.fst : Int))) ∧ ar.le (Int.add 27 (Int.mul 32 (↑i.fst : Int))) z ∧ ar.le z (ar.slen x.snd) ∧ ∀ (t : List UInt8), t = ar.sext x.snd (Int.add 27 (Int.mul 32 (↑i.fst
  : Int))) z → ∀ (z : Int), z = ar.wrap IntKind.i64 (ar.add (Int.add 27 (Int.mul 32 (↑i.fst : Int))) 16) → ∀ (z_1 : Int), z_1 = ar.wrap IntKind.i64 (ar.add (Int.add 27 (Int.mul 32
  (↑i.fst : Int))) 32) → ar.le 0 z ∧ ar.le z z_1 ∧ ar.le z_1 (ar.slen x.snd) ∧ ∀ (t_1 : List UInt8), t_1 = ar.sext x.snd z z_1 → ar.le (ar.add 0 (↑i.fst : Int)) (ar.tlen (PL.decN
  x.snd i.fst)) ∧ ar.le (ar.add 0 (↑i.fst : Int)) (ar.tlen (PL.decT x.snd i.fst)) ∧ i.snd = i.snd ∧ ar.le (ar.mul (ar.add (↑i.fst : Int) 1) 32) 140737488355328 ∧ ∀ (c : Int), ar.le
  (ar.add (↑i.fst : Int) 1) c → ∀ (z : Int), z = ar.wrap IntKind.i64 (ar.add (Int.add 27 (Int.mul 32 (↑i.fst : Int))) 32) → ∃ (j : Nat × Int), PL.RDecAt x j ∧ (x.snd.length.sub
  (Nat.mul 32 j.fst)).lt (x.snd.length.sub (Nat.mul 32 i.fst)) ∧ x.snd = x.snd ∧ z = Int.add 27 (Int.mul 32 (↑j.fst : Int)) ∧ x.fst.slots = x.fst.slots ∧ x.fst.files = x.fst.files
  ∧ x.fst.dirs = x.fst.dirs ∧ x.fst.most = x.fst.most ∧ x.fst.least = x.fst.least ∧ x.fst.page = x.fst.page ∧ PL.num4 x.snd 1 = PL.num4 x.snd 1 ∧ PL.num4 x.snd 5 = PL.num4 x.snd 5
  ∧ PL.num4 x.snd 9 = PL.num4 x.snd 9 ∧ PL.num4 x.snd 13 = PL.num4 x.snd 13 ∧ PL.num4 x.snd 17 = PL.num4 x.snd 17 ∧ PL.num4 x.snd 21 = PL.num4 x.snd 21 ∧ ar.add (↑i.fst : Int) 1 =
  (↑j.fst : Int) ∧ c = j.snd ∧ c = j.snd ∧ ar.tapp (ar.tsub (PL.decN x.snd i.fst) 0 (↑i.fst : Int)) [t] = PL.decN x.snd j.fst ∧ ar.tapp (ar.tsub (PL.decT x.snd i.fst) 0 (↑i.fst :
  Int)) [t_1] = PL.decT x.snd j.fst ∧ True) ∧ (¬ar.le z (ar.slen x.snd) → ∃ (x_2 : Cfg × Root), PL.num4 x.snd 1 = x_2.1.slots ∧ PL.num4 x.snd 5 = x_2.1.files ∧ PL.num4 x.snd 9 =
  x_2.1.dirs ∧ PL.num4 x.snd 13 = x_2.1.most ∧ PL.num4 x.snd 17 = x_2.1.least ∧ PL.num4 x.snd 21 = x_2.1.page ∧ PL.num4 x.snd 1 = x_2.snd.cfg.slots ∧ PL.num4 x.snd 5 =
  x_2.snd.cfg.files ∧ PL.num4 x.snd 9 = x_2.snd.cfg.dirs ∧ PL.num4 x.snd 13 = x_2.snd.cfg.most ∧ PL.num4 x.snd 17 = x_2.snd.cfg.least ∧ PL.num4 x.snd 21 = x_2.snd.cfg.page ∧ ar.le
  0 0 ∧ ar.le (ar.add 0 (↑i.fst : Int)) (ar.tlen (PL.decN x.snd i.fst)) ∧ ar.le (ar.add 0 (↑i.fst : Int)) (ar.tlen (PL.decT x.snd i.fst)) ∧ ar.tsub (PL.decN x.snd i.fst) 0 (↑i.fst
  : Int) = x_2.snd.refs.N ∧ ar.tsub (PL.decT x.snd i.fst) 0 (↑i.fst : Int) = x_2.snd.refs.T ∧ (↑i.fst : Int) = x_2.snd.refs.len ∧ i.snd = x_2.snd.refs.cap ∧ PL.RootIn x_2 ∧ ∀ (y :
  Unit), True → ((¬ar.eq (PL.encE x_2.fst x_2.snd) 0 → False) → (¬ar.seq (PL.encS x_2.fst x_2.snd) x.snd → ∃ (y : Root), PL.DecPost x y ∧ 0 = y.1.slots ∧ 0 = y.1.files ∧ 0 =
  y.1.dirs ∧ 0 = y.1.most ∧ 0 = y.1.least ∧ 0 = y.1.page ∧ 0 = y.2.len ∧ 0 = y.2.cap ∧ 141 = PL.decE x.fst x.snd ∧ y.2.cap = 0 ∧ y.2.N = [] ∧ y.2.T = [] ∧ True) ∧ (¬¬ar.seq
  (PL.encS x_2.fst x_2.snd) x.snd → (¬(ar.eq (PL.num4 x.snd 1) x.fst.slots ∧ ar.eq (PL.num4 x.snd 5) x.fst.files ∧ ar.eq (PL.num4 x.snd 9) x.fst.dirs ∧ ar.eq (PL.num4 x.snd 13)
  x.fst.most ∧ ar.eq (PL.num4 x.snd 17) x.fst.least ∧ ar.eq (PL.num4 x.snd 21) x.fst.page) → ∃ (y : Root), PL.DecPost x y ∧ 0 = y.1.slots ∧ 0 = y.1.files ∧ 0 = y.1.dirs ∧ 0 =
  y.1.most ∧ 0 = y.1.least ∧ 0 = y.1.page ∧ 0 = y.2.len ∧ 0 = y.2.cap ∧ 140 = PL.decE x.fst x.snd ∧ y.2.cap = 0 ∧ y.2.N = [] ∧ y.2.T = [] ∧ True) ∧ (¬¬(ar.eq (PL.num4 x.snd 1)
  x.fst.slots ∧ ar.eq (PL.num4 x.snd 5) x.fst.files ∧ ar.eq (PL.num4 x.snd 9) x.fst.dirs ∧ ar.eq (PL.num4 x.snd 13) x.fst.most ∧ ar.eq (PL.num4 x.snd 17) x.fst.least ∧ ar.eq
  (PL.num4 x.snd 21) x.fst.page) → ∃ (y : Root), PL.DecPost x y ∧ PL.num4 x.snd 1 = y.1.slots ∧ PL.num4 x.snd 5 = y.1.files ∧ PL.num4 x.snd 9 = y.1.dirs ∧ PL.num4 x.snd 13 =
  y.1.most ∧ PL.num4 x.snd 17 = y.1.least ∧ PL.num4 x.snd 21 = y.1.page ∧ (↑i.fst : Int) = y.2.len ∧ i.snd = y.2.cap ∧ 0 = PL.decE x.fst x.snd ∧ i.snd = y.2.cap ∧ PL.decN x.snd
  i.fst = y.2.N ∧ PL.decT x.snd i.fst = y.2.T ∧ True))) ∧ (¬(¬ar.eq (PL.encE x_2.fst x_2.snd) 0 → False) → ∃ (y : Root), PL.DecPost x y ∧ 0 = y.1.slots ∧ 0 = y.1.files ∧ 0 =
  y.1.dirs ∧ 0 = y.1.most ∧ 0 = y.1.least ∧ 0 = y.1.page ∧ 0 = y.2.len ∧ 0 = y.2.cap ∧ 141 = PL.decE x.fst x.snd ∧ y.2.cap = 0 ∧ y.2.N = [] ∧ y.2.T = [] ∧ True))))
theorem rdec_eq (ar : AR) (x : decSpec.X) : (run ar PP rdecSpecs (rdecInvs x) 1000 16 (decSpec.H x).length (Try.f16.body.getD .skip) (decSpec.A x ++ List.replicate (Try.f16.ntmps - (decSpec.A x).length) .any) (decSpec.H x) (endCall ar PP Try.f16.results.toList (decSpec.fin x))) = rdec_vc ar x := by
  kernel_rfl
theorem rdec_of (h : ∀ x, decSpec.pre x → rdec_vc ar0 x) : decSpec.OK PP 16 :=
  Spec.ok_of_run (fn := Try.f16) (c := Try.f16.body.getD .skip) (by kernel_rfl) (by kernel_rfl) (by kernel_rfl) rdecSpecs_ok rdecInvs 1000 (fun x hx => (rdec_eq ar0 x).mpr (h x hx))
theorem rdecSpec_ok : decSpec.OK PP 16 := by
  refine rdec_of fun x hx => ?_
  obtain ⟨c, s⟩ := x
  obtain ⟨hlen⟩ : PL.DecIn (c, s) := hx
  simp only at hlen
  unfold rdec_vc
  simp only [ars, ars2, ex_cfg6, cfg_eta, cfg_eq6, ex_list, ex_noroot, cfgAny, true_and, and_true, exists_const, forall_const, imp_false, Classical.not_not, forall_eq, Int.toNat_natCast, Int.reduceToNat, and_self]
  refine ⟨fun hc => ⟨post_no fun h => hc (PL.chk_ok h.ok), (PL.decE_c fun h => hc (PL.chk_ok h)).symm⟩, fun hc => ?_⟩
  have hC := PL.chk_zero.1 hc
  have bad : ¬ PL.DecI s → PL.DecPost (c, s) PL.noRoot ∧ 141 = PL.decE c s := fun h => ⟨post_no fun g => h g.i, (PL.decE_i hC h).symm⟩
  refine ⟨fun h27 => bad fun h => absurd h.head.len (by omega), fun h27 => ?_⟩
  have sn : ∀ a, PL.SNumIn (List.drop a (List.take (a + 4) s)) := fun a => ⟨by simp; omega⟩
  have sb : ∀ a, PL.numB (List.drop a (List.take (a + 4) s)) = PL.num4 s a := fun a => by
    rw [PL.num4, PL.sub, List.take_drop]
  refine ⟨⟨by omega, by omega, by omega, by omega, by omega, by omega, sn 1, sn 5, sn 9, sn 13, sn 17, sn 21, (), ⟨trivial⟩, sb 1, sb 5, sb 9, sb 13, sb 17, sb 21⟩, fun _ _ => ⟨⟨(0, 0), ⟨by simp only; omega, by simp⟩, rfl, rfl, rfl, rfl, rfl, rfl⟩, ?_⟩⟩
  rintro ⟨i, cap⟩ ⟨hle, hcap⟩
  simp only at hle hcap ⊢
  rw [wrap_i64 (n := 27 + 32 * (i : Int) + 32) (by omega) (by omega), wrap_i64 (n := 27 + 32 * (i : Int) + 16) (by omega) (by omega)]
  simp only [PL.decN_length, PL.decT_length]
  refine ⟨fun hlt => ⟨by omega, by omega, by omega, by omega, by omega, by omega, by omega, by omega, by omega, fun c1 h1 => ⟨(i + 1, c1), ⟨by simp only; omega, by simp only; omega⟩, by simp only; omega, by simp only; omega, by simp only; omega, rfl, rfl, ?_, ?_⟩⟩, fun hge => ?_⟩
  · simp only [List.drop_zero]
    rw [List.take_of_length_le (by rw [PL.decN_length]; exact Nat.le_refl _), PL.decN_succ, PL.sub, List.take_drop]
    rw [show (27 + 32 * (i : Int)).toNat = 27 + 32 * i by omega, show (27 + 32 * (i : Int) + 16).toNat = 27 + 32 * i + 16 by omega]
  · simp only [List.drop_zero]
    rw [List.take_of_length_le (by rw [PL.decT_length]; exact Nat.le_refl _), PL.decT_succ, PL.sub, List.take_drop]
    rw [show (27 + 32 * (i : Int) + 16).toNat = 43 + 32 * i by omega, show (27 + 32 * (i : Int) + 32).toNat = 43 + 32 * i + 16 by omega]
  · refine ⟨(PL.decCfg s, ⟨PL.decCfg s, ⟨PL.decN s i, PL.decT s i, i, cap⟩⟩), rfl, rfl, rfl, rfl, rfl, rfl, rfl, rfl, rfl, rfl, rfl, rfl, by omega, by omega, by omega, ?_, ?_, rfl, rfl, ⟨⟨by simp [PL.decN_length], by simp [PL.decT_length], by simp only; omega⟩⟩, ?_⟩
    · have : ar0.tsub (PL.decN s i) 0 (i : Int) = (PL.decN s i).take i := rfl
      rw [List.drop_zero, List.take_of_length_le (by rw [PL.decN_length]; exact Nat.le_refl _)]
    · rw [List.drop_zero, List.take_of_length_le (by rw [PL.decT_length]; exact Nat.le_refl _)]
    simp only
    have hg := PL.dec_good s i cap (by omega)
    by_cases hI : PL.DecI s
    · have hi : PL.decCnt s = i := by have := hI.len; omega
      have h1 : PL.EncC (PL.decCfg s) ⟨PL.decCfg s, ⟨PL.decN s i, PL.decT s i, i, cap⟩⟩ := ⟨hI.cfg, rfl⟩
      have h2 : PL.EncI (PL.decCfg s) ⟨PL.decCfg s, ⟨PL.decN s i, PL.decT s i, i, cap⟩⟩ := ⟨by rw [← hI.cnt, hi], hg⟩
      rw [PL.encE_ok h1 h2, PL.encS_ok h1 h2, PL.root_dec hI.head hi (by have := hI.len; omega)]
      refine ⟨fun _ => ⟨fun h => absurd rfl h, fun _ => ⟨fun he => ⟨post_no fun g => he g.cfg, (PL.decE_o hC hI he).symm⟩, fun he => ?_⟩⟩, fun h => absurd rfl h⟩
      have hOK : PL.DecOK c s := ⟨hC, hI, he⟩
      refine ⟨⟨PL.decCfg s, ⟨PL.decN s i, PL.decT s i, i, cap⟩⟩, ⟨⟨cap, by rw [PL.decR_ok hOK, hi, show c = PL.decCfg s from he.symm]; rfl, hcap⟩⟩, rfl, rfl, rfl, rfl, rfl, rfl, rfl, rfl, (PL.decE_ok hOK).symm, rfl, rfl, rfl⟩
    · refine ⟨fun hE => ⟨fun _ => bad hI, fun hS => ?_⟩, fun _ => bad hI⟩
      exfalso
      apply hI
      have hc1 : PL.EncC (PL.decCfg s) ⟨PL.decCfg s, ⟨PL.decN s i, PL.decT s i, i, cap⟩⟩ := Classical.byContradiction fun hn => by rw [PL.encE_noC hn] at hE; omega
      have hc2 : PL.EncI (PL.decCfg s) ⟨PL.decCfg s, ⟨PL.decN s i, PL.decT s i, i, cap⟩⟩ := Classical.byContradiction fun hn => by rw [PL.encE_noI hc1 hn] at hE; omega
      rw [PL.encS_ok hc1 hc2] at hS
      have hp := PL.pages_range hc1.ok
      have hln := hc2.len
      simp only at hln hS
      obtain ⟨g1, g2, g3⟩ := PL.dec_root (by omega) (by omega) hS
      exact ⟨g1, hc1.ok, by rw [g2]; exact hln, by omega⟩
end Go.Eng

namespace Go.PL
structure RootsIn (x : Cfg × Root × List UInt8) : Prop where
  refs : RefsOK x.2.1.refs
  cap : x.2.1.refs.len ≤ x.2.1.refs.cap
  len : (x.2.1.refs.len + 1) * 32 ≤ 140737488355328
  body : x.2.2.length ≤ 140737488355328
theorem encI_cap {c : Cfg} {f : Cfg} {N T : List (List UInt8)} {len cap cap' : Int} : EncI c ⟨f, ⟨N, T, len, cap⟩⟩ ↔ EncI c ⟨f, ⟨N, T, len, cap'⟩⟩ :=
  ⟨fun ⟨h1, ⟨h2⟩⟩ => ⟨h1, ⟨h2⟩⟩, fun ⟨h1, ⟨h2⟩⟩ => ⟨h1, ⟨h2⟩⟩⟩
theorem encC_cap {c : Cfg} {f : Cfg} {N T : List (List UInt8)} {len cap cap' : Int} : EncC c ⟨f, ⟨N, T, len, cap⟩⟩ ↔ EncC c ⟨f, ⟨N, T, len, cap'⟩⟩ :=
  ⟨fun ⟨h1, h2⟩ => ⟨h1, h2⟩, fun ⟨h1, h2⟩ => ⟨h1, h2⟩⟩
theorem encS_cap {c : Cfg} {f : Cfg} {N T : List (List UInt8)} {len cap : Int} (cap' : Int) : encS c ⟨f, ⟨N, T, len, cap⟩⟩ = encS c ⟨f, ⟨N, T, len, cap'⟩⟩ := by
  by_cases h1 : EncC c ⟨f, ⟨N, T, len, cap⟩⟩
  · by_cases h2 : EncI c ⟨f, ⟨N, T, len, cap⟩⟩
    · rw [encS_ok h1 h2, encS_ok (encC_cap.1 h1) (encI_cap.1 h2)]; rfl
    · rw [encS_no (fun h => h2 h.2), encS_no (fun h => h2 (encI_cap.1 h.2))]
  · rw [encS_no (fun h => h1 h.1), encS_no (fun h => h1 (encC_cap.1 h.1))]
theorem encE_cap {c : Cfg} {f : Cfg} {N T : List (List UInt8)} {len cap : Int} (cap' : Int) : encE c ⟨f, ⟨N, T, len, cap⟩⟩ = encE c ⟨f, ⟨N, T, len, cap'⟩⟩ := by
  by_cases h1 : EncC c ⟨f, ⟨N, T, len, cap⟩⟩
  · by_cases h2 : EncI c ⟨f, ⟨N, T, len, cap⟩⟩
    · rw [encE_ok h1 h2, encE_ok (encC_cap.1 h1) (encI_cap.1 h2)]
    · rw [encE_noI h1 h2, encE_noI (encC_cap.1 h1) (fun h => h2 (encI_cap.1 h))]
  · rw [encE_noC h1, encE_noC (fun h => h1 (encC_cap.1 h))]
theorem post_refs {x : Cfg × List UInt8} {r : Root} (h : DecPost x r) : RefsOK r.refs := by
  obtain ⟨cap, rfl, hc⟩ := h.eq
  by_cases hk : DecOK x.1 x.2
  · rw [decR_ok hk]
    have h1 := hk.i.len
    have h2 := pages_range hk.i.cfg
    have h3 := hk.i.cnt
    exact ⟨by simp only [decN_length]; omega, by simp only [decT_length]; omega, by simp only; omega⟩
  · rw [decR_no hk]
    exact ⟨rfl, rfl, by simp [noRoot]⟩
theorem post_cap {x : Cfg × List UInt8} {r : Root} (h : DecPost x r) : r.refs.len ≤ r.refs.cap := by
  obtain ⟨cap, rfl, hc⟩ := h.eq
  by_cases hk : DecOK x.1 x.2
  · rw [decR_ok hk] at hc ⊢; exact hc
  · rw [decR_no hk]; exact Int.le_refl _
theorem post_same {x : Cfg × List UInt8} {r r' : Root} (h : DecPost x r) (h' : DecPost x r') : r.cfg = r'.cfg ∧ r.refs.N = r'.refs.N ∧ r.refs.T = r'.refs.T ∧ r.refs.len = r'.refs.len := by
  obtain ⟨cap, rfl, hc⟩ := h.eq
  obtain ⟨cap', rfl, hc'⟩ := h'.eq
  by_cases hk : DecOK x.1 x.2
  · rw [decR_ok hk, decR_ok hk]; exact ⟨rfl, rfl, rfl, rfl⟩
  · rw [decR_no hk, decR_no hk]; exact ⟨rfl, rfl, rfl, rfl⟩
end Go.PL
set_option linter.unusedSectionVars false
set_option linter.unusedSimpArgs false
set_option linter.unusedVariables false
namespace Go.Eng
variable [CW : CWorld]
open Go.Proofs
open Go.PL (Cfg CfgIn CfgOK CfgBad Img RImg Refs Root)
set_option maxRecDepth 100000
attribute [local irreducible] run
noncomputable def rootsSpec : Spec where
  X := Cfg × Root × List UInt8
  A x := [.agg (cfgL x.1), .agg (rootL x.2.1), .str x.2.2]
  H _ := []
  pre x := PL.RootsIn x
  outs := [lawOut _]
noncomputable def lwSpecs : Specs := fun f xs hp => match f with
  | 12 => some encSpec
  | 13 => some encSpec
  | 15 => some decSpec
  | 16 => some decSpec
  | 14 => some sameSpec
  | _ => cSpecs f xs hp
theorem lwSpecs_ok : SpecsOK PP lwSpecs := by
  intro CW f xs hp S h
  unfold lwSpecs at h
  split at h
  · cases h; exact iencSpec_ok
  · cases h; exact rencSpec_ok
  · cases h; exact idecSpec_ok
  · cases h; exact rdecSpec_ok
  · cases h; exact sameSpec_ok
  · exact cSpecs_ok CW f xs hp S h
def roots_vc (ar : AR) (x : rootsSpec.X) : Prop :=
  ar.le (ar.add 0 x.snd.fst.refs.len) (ar.tlen x.snd.fst.refs.N) ∧ ar.le (ar.add 0 x.snd.fst.refs.len) (ar.tlen x.snd.fst.refs.T) ∧ ar.le (ar.mul x.snd.fst.refs.len 32)
  140737488355328 ∧ ∀ (c : Int), ar.le x.snd.fst.refs.len c → ar.le (ar.add 0 x.snd.fst.refs.len) (ar.tlen (ar.tsub x.snd.fst.refs.N 0 x.snd.fst.refs.len)) ∧ ar.le (ar.add 0
  x.snd.fst.refs.len) (ar.tlen (ar.tsub x.snd.fst.refs.T 0 x.snd.fst.refs.len)) ∧ c = c ∧ ar.le (ar.mul (ar.add x.snd.fst.refs.len 1) 32) 140737488355328 ∧ ∀ (c : Int), ar.le
  (ar.add x.snd.fst.refs.len 1) c → ar.le 0 x.snd.fst.refs.len ∧ ar.le x.snd.fst.refs.len c ∧ ∃ (x_1 : Cfg × Root), x.fst.slots = x_1.1.slots ∧ x.fst.files = x_1.1.files ∧
  x.fst.dirs = x_1.1.dirs ∧ x.fst.most = x_1.1.most ∧ x.fst.least = x_1.1.least ∧ x.fst.page = x_1.1.page ∧ x.snd.fst.cfg.slots = x_1.snd.cfg.slots ∧ x.snd.fst.cfg.files =
  x_1.snd.cfg.files ∧ x.snd.fst.cfg.dirs = x_1.snd.cfg.dirs ∧ x.snd.fst.cfg.most = x_1.snd.cfg.most ∧ x.snd.fst.cfg.least = x_1.snd.cfg.least ∧ x.snd.fst.cfg.page =
  x_1.snd.cfg.page ∧ ar.le 0 0 ∧ ar.le (ar.add 0 x.snd.fst.refs.len) (ar.tlen (ar.tapp (ar.tsub (ar.tsub x.snd.fst.refs.N 0 x.snd.fst.refs.len) 0 x.snd.fst.refs.len) [[UInt8.ofNat
  98, UInt8.ofNat 101, UInt8.ofNat 104, UInt8.ofNat 105, UInt8.ofNat 110, UInt8.ofNat 100]])) ∧ ar.le (ar.add 0 x.snd.fst.refs.len) (ar.tlen (ar.tapp (ar.tsub (ar.tsub
  x.snd.fst.refs.T 0 x.snd.fst.refs.len) 0 x.snd.fst.refs.len) [[]])) ∧ ar.tsub (ar.tapp (ar.tsub (ar.tsub x.snd.fst.refs.N 0 x.snd.fst.refs.len) 0 x.snd.fst.refs.len)
  [[UInt8.ofNat 98, UInt8.ofNat 101, UInt8.ofNat 104, UInt8.ofNat 105, UInt8.ofNat 110, UInt8.ofNat 100]]) 0 x.snd.fst.refs.len = x_1.snd.refs.N ∧ ar.tsub (ar.tapp (ar.tsub
  (ar.tsub x.snd.fst.refs.T 0 x.snd.fst.refs.len) 0 x.snd.fst.refs.len) [[]]) 0 x.snd.fst.refs.len = x_1.snd.refs.T ∧ x.snd.fst.refs.len = x_1.snd.refs.len ∧ c = x_1.snd.refs.cap ∧
  PL.RootIn x_1 ∧ ∀ (y : Unit), True → ∃ (x_2 : Cfg × Root), x.fst.slots = x_2.1.slots ∧ x.fst.files = x_2.1.files ∧ x.fst.dirs = x_2.1.dirs ∧ x.fst.most = x_2.1.most ∧ x.fst.least
  = x_2.1.least ∧ x.fst.page = x_2.1.page ∧ x.snd.fst.cfg.slots = x_2.snd.cfg.slots ∧ x.snd.fst.cfg.files = x_2.snd.cfg.files ∧ x.snd.fst.cfg.dirs = x_2.snd.cfg.dirs ∧
  x.snd.fst.cfg.most = x_2.snd.cfg.most ∧ x.snd.fst.cfg.least = x_2.snd.cfg.least ∧ x.snd.fst.cfg.page = x_2.snd.cfg.page ∧ x.snd.fst.refs.N = x_2.snd.refs.N ∧ x.snd.fst.refs.T =
  x_2.snd.refs.T ∧ x.snd.fst.refs.len = x_2.snd.refs.len ∧ x.snd.fst.refs.cap = x_2.snd.refs.cap ∧ PL.RootIn x_2 ∧ ∀ (y : Unit), True → ((¬ar.seq (PL.encS x_1.fst x_1.snd) (PL.encS
  x_2.fst x_2.snd) → False) → ∃ (x_3 : Int), PL.encE x_1.fst x_1.snd = x_3 ∧ PL.Ints3 (x_3, x_3, x_3) ∧ ∀ (y : Unit), True → ((¬ar.eq x_3 (PL.encE x_2.fst x_2.snd) → False) → ∃
  (x_4 : Root × Root), x.snd.fst.cfg.slots = x_4.fst.cfg.slots ∧ x.snd.fst.cfg.files = x_4.fst.cfg.files ∧ x.snd.fst.cfg.dirs = x_4.fst.cfg.dirs ∧ x.snd.fst.cfg.most =
  x_4.fst.cfg.most ∧ x.snd.fst.cfg.least = x_4.fst.cfg.least ∧ x.snd.fst.cfg.page = x_4.fst.cfg.page ∧ ar.le 0 0 ∧ ar.le (ar.add 0 x.snd.fst.refs.len) (ar.tlen (ar.tapp (ar.tsub
  (ar.tsub x.snd.fst.refs.N 0 x.snd.fst.refs.len) 0 x.snd.fst.refs.len) [[UInt8.ofNat 98, UInt8.ofNat 101, UInt8.ofNat 104, UInt8.ofNat 105, UInt8.ofNat 110, UInt8.ofNat 100]])) ∧
  ar.le (ar.add 0 x.snd.fst.refs.len) (ar.tlen (ar.tapp (ar.tsub (ar.tsub x.snd.fst.refs.T 0 x.snd.fst.refs.len) 0 x.snd.fst.refs.len) [[]])) ∧ ar.tsub (ar.tapp (ar.tsub (ar.tsub
  x.snd.fst.refs.N 0 x.snd.fst.refs.len) 0 x.snd.fst.refs.len) [[UInt8.ofNat 98, UInt8.ofNat 101, UInt8.ofNat 104, UInt8.ofNat 105, UInt8.ofNat 110, UInt8.ofNat 100]]) 0
  x.snd.fst.refs.len = x_4.fst.refs.N ∧ ar.tsub (ar.tapp (ar.tsub (ar.tsub x.snd.fst.refs.T 0 x.snd.fst.refs.len) 0 x.snd.fst.refs.len) [[]]) 0 x.snd.fst.refs.len = x_4.fst.refs.T
  ∧ x.snd.fst.refs.len = x_4.fst.refs.len ∧ c = x_4.fst.refs.cap ∧ x.snd.fst.cfg.slots = x_4.snd.cfg.slots ∧ x.snd.fst.cfg.files = x_4.snd.cfg.files ∧ x.snd.fst.cfg.dirs =
  x_4.snd.cfg.dirs ∧ x.snd.fst.cfg.most = x_4.snd.cfg.most ∧ x.snd.fst.cfg.least = x_4.snd.cfg.least ∧ x.snd.fst.cfg.page = x_4.snd.cfg.page ∧ x.snd.fst.refs.N = x_4.snd.refs.N ∧
  x.snd.fst.refs.T = x_4.snd.refs.T ∧ x.snd.fst.refs.len = x_4.snd.refs.len ∧ x.snd.fst.refs.cap = x_4.snd.refs.cap ∧ PL.SameIn x_4 ∧ ∀ (y : Unit), True → ((¬PL.SameR x_4.fst
  x_4.snd → False) → ar.le 0 x.snd.fst.refs.len ∧ ar.lt x.snd.fst.refs.len (ar.add x.snd.fst.refs.len 1) ∧ ar.le 0 x.snd.fst.refs.len ∧ ar.lt x.snd.fst.refs.len (ar.tlen (ar.tapp
  (ar.tsub (ar.tsub x.snd.fst.refs.N 0 x.snd.fst.refs.len) 0 x.snd.fst.refs.len) [[UInt8.ofNat 98, UInt8.ofNat 101, UInt8.ofNat 104, UInt8.ofNat 105, UInt8.ofNat 110, UInt8.ofNat
  100]])) ∧ (¬ar.seq (ar.tget (ar.tapp (ar.tsub (ar.tsub x.snd.fst.refs.N 0 x.snd.fst.refs.len) 0 x.snd.fst.refs.len) [[UInt8.ofNat 98, UInt8.ofNat 101, UInt8.ofNat 104,
  UInt8.ofNat 105, UInt8.ofNat 110, UInt8.ofNat 100]]) x.snd.fst.refs.len) [UInt8.ofNat 98, UInt8.ofNat 101, UInt8.ofNat 104, UInt8.ofNat 105, UInt8.ofNat 110, UInt8.ofNat 100] → ∃
  (y : Unit), True ∧ False) ∧ (¬¬ar.seq (ar.tget (ar.tapp (ar.tsub (ar.tsub x.snd.fst.refs.N 0 x.snd.fst.refs.len) 0 x.snd.fst.refs.len) [[UInt8.ofNat 98, UInt8.ofNat 101,
  UInt8.ofNat 104, UInt8.ofNat 105, UInt8.ofNat 110, UInt8.ofNat 100]]) x.snd.fst.refs.len) [UInt8.ofNat 98, UInt8.ofNat 101, UInt8.ofNat 104, UInt8.ofNat 105, UInt8.ofNat 110,
  UInt8.ofNat 100] → ∃ (x_5 : Cfg × List UInt8), x.fst.slots = x_5.1.slots ∧ x.fst.files = x_5.1.files ∧ x.fst.dirs = x_5.1.dirs ∧ x.fst.most = x_5.1.most ∧ x.fst.least =
  x_5.1.least ∧ x.fst.page = x_5.1.page ∧ x.snd.snd = x_5.snd ∧ PL.DecIn x_5 ∧ ∀ (y : Root), PL.DecPost x_5 y → ∃ (x_6 : Cfg × List UInt8), x.fst.slots = x_6.1.slots ∧ x.fst.files
  = x_6.1.files ∧ x.fst.dirs = x_6.1.dirs ∧ x.fst.most = x_6.1.most ∧ x.fst.least = x_6.1.least ∧ x.fst.page = x_6.1.page ∧ x.snd.snd = x_6.snd ∧ PL.DecIn x_6 ∧ ∀ (y_1 : Root),
  PL.DecPost x_6 y_1 → ∃ (x : Root × Root), y.1.slots = x.fst.cfg.slots ∧ y.1.files = x.fst.cfg.files ∧ y.1.dirs = x.fst.cfg.dirs ∧ y.1.most = x.fst.cfg.most ∧ y.1.least =
  x.fst.cfg.least ∧ y.1.page = x.fst.cfg.page ∧ ar.le 0 0 ∧ ar.le (ar.add 0 y.2.len) (ar.tlen y.2.N) ∧ ar.le (ar.add 0 y.2.len) (ar.tlen y.2.T) ∧ ar.tsub y.2.N 0 y.2.len =
  x.fst.refs.N ∧ ar.tsub y.2.T 0 y.2.len = x.fst.refs.T ∧ y.2.len = x.fst.refs.len ∧ y.2.cap = x.fst.refs.cap ∧ y_1.1.slots = x.snd.cfg.slots ∧ y_1.1.files = x.snd.cfg.files ∧
  y_1.1.dirs = x.snd.cfg.dirs ∧ y_1.1.most = x.snd.cfg.most ∧ y_1.1.least = x.snd.cfg.least ∧ y_1.1.page = x.snd.cfg.page ∧ ar.le 0 0 ∧ ar.le (ar.add 0 y_1.2.len) (ar.tlen y_1.2.N)
  ∧ ar.le (ar.add 0 y_1.2.len) (ar.tlen y_1.2.T) ∧ ar.tsub y_1.2.N 0 y_1.2.len = x.snd.refs.N ∧ ar.tsub y_1.2.T 0 y_1.2.len = x.snd.refs.T ∧ y_1.2.len = x.snd.refs.len ∧ y_1.2.cap
  = x.snd.refs.cap ∧ PL.SameIn x ∧ ∀ (y : Unit), True → (PL.SameR x.fst x.snd → ∃ (x : Int), PL.decE x_5.fst x_5.snd = x ∧ PL.Ints3 (x, x, x) ∧ ∀ (y : Unit), True → ∃ (y : Unit),
  True ∧ (ar.eq x (PL.decE x_6.fst x_6.snd) ↔ true = true) ∧ True) ∧ (¬PL.SameR x.fst x.snd → ∃ (y : Unit), True ∧ False))) ∧ (¬(¬PL.SameR x_4.fst x_4.snd → False) → ∃ (y : Unit),
  True ∧ False)) ∧ (¬(¬ar.eq x_3 (PL.encE x_2.fst x_2.snd) → False) → ∃ (y : Unit), True ∧ False)) ∧ (¬(¬ar.seq (PL.encS x_1.fst x_1.snd) (PL.encS x_2.fst x_2.snd) → False) → ∃ (y
  : Unit), True ∧ False)
theorem roots_eq (ar : AR) (x : rootsSpec.X) : (run ar PP lwSpecs noInv 1000 4 (rootsSpec.H x).length (Try.f4.body.getD .skip) (rootsSpec.A x ++ List.replicate (Try.f4.ntmps - (rootsSpec.A x).length) .any) (rootsSpec.H x) (endCall ar PP Try.f4.results.toList (rootsSpec.fin x))) = roots_vc ar x := by
  kernel_rfl
theorem roots_of (h : ∀ x, rootsSpec.pre x → roots_vc ar0 x) : rootsSpec.OK PP 4 :=
  Spec.ok_of_run (fn := Try.f4) (c := Try.f4.body.getD .skip) (by kernel_rfl) (by kernel_rfl) (by kernel_rfl) lwSpecs_ok (fun _ => noInv) 1000 (fun x hx => (roots_eq ar0 x).mpr (h x hx))
theorem rootsSpec_ok : rootsSpec.OK PP 4 := by
  refine roots_of fun x hx => ?_
  obtain ⟨c, r, body⟩ := x
  obtain ⟨⟨hr1, hr2, hr3⟩, hrc, hr4, hb⟩ : PL.RootsIn (c, r, body) := hx
  simp only at hr1 hr2 hr3 hr4 hb hrc
  unfold roots_vc
  simp only [ars, ars2, ex_cfg6, cfg_eta, cfg_eq6, ex_list, cfgAny, true_and, and_true, exists_const, forall_const, imp_false, Classical.not_not, forall_eq, Int.toNat_natCast, Int.reduceToNat, and_self]
  have tN : List.take r.refs.len.toNat r.refs.N = r.refs.N := List.take_of_length_le (by omega)
  have tT : List.take r.refs.len.toNat r.refs.T = r.refs.T := List.take_of_length_le (by omega)
  have tNb : ∀ b, List.take r.refs.len.toNat (r.refs.N ++ [b]) = r.refs.N := fun b => by rw [List.take_append_of_le_length (by omega), tN]
  have tTb : ∀ b, List.take r.refs.len.toNat (r.refs.T ++ [b]) = r.refs.T := fun b => by rw [List.take_append_of_le_length (by omega), tT]
  simp only [List.drop_zero, tN, tT, tNb, tTb]
  refine ⟨by omega, by omega, by omega, fun c1 h1 => ⟨by omega, by omega, by omega, fun c2 h2 => ⟨by omega, by omega, (c, ⟨r.cfg, ⟨r.refs.N, r.refs.T, r.refs.len, c2⟩⟩), rfl, rfl, rfl, rfl, rfl, rfl, rfl, rfl, rfl, rfl, rfl, rfl, by omega, by simp; omega, by simp; omega, rfl, rfl, rfl, rfl, ⟨⟨hr1, hr2, hr3⟩⟩,
    (c, r), rfl, rfl, rfl, rfl, rfl, rfl, rfl, rfl, rfl, rfl, rfl, rfl, rfl, rfl, rfl, rfl, ⟨⟨hr1, hr2, hr3⟩⟩, ?_⟩⟩⟩
  have es : PL.encS c ⟨r.cfg, ⟨r.refs.N, r.refs.T, r.refs.len, c2⟩⟩ = PL.encS c r := PL.encS_cap r.refs.cap
  have ee : PL.encE c ⟨r.cfg, ⟨r.refs.N, r.refs.T, r.refs.len, c2⟩⟩ = PL.encE c r := PL.encE_cap r.refs.cap
  simp only [es, ee]
  have bL : ∀ b : List UInt8, (r.refs.N ++ [b]).getD r.refs.len.toNat [] = b := fun b => by
    rw [List.getD, List.getElem?_append_right (by omega), show r.refs.len.toNat - r.refs.N.length = 0 by omega]; rfl
  have same : PL.SameR ⟨r.cfg, ⟨r.refs.N, r.refs.T, r.refs.len, c2⟩⟩ r := ⟨rfl, rfl, rfl⟩
  refine ⟨fun _ => ⟨_, rfl, ⟨trivial⟩, fun _ => ⟨(⟨r.cfg, ⟨r.refs.N, r.refs.T, r.refs.len, c2⟩⟩, r), rfl, rfl, rfl, rfl, rfl, rfl, by omega, by simp; omega, by simp; omega, rfl, rfl, rfl, rfl, rfl, rfl, rfl, rfl, rfl, rfl, rfl, rfl, rfl, rfl, ⟨⟨hr1, hr2, hr3⟩, ⟨hr1, hr2, hr3⟩⟩,
    fun _ => ⟨by omega, by omega, by omega, by simp; omega, bL _, fun _ => ⟨(c, body), rfl, rfl, rfl, rfl, rfl, rfl, ?_⟩⟩, same⟩, rfl⟩, trivial⟩
  refine ⟨rfl, ⟨hb⟩, fun y1 p1 => ⟨(c, body), rfl, rfl, rfl, rfl, rfl, rfl, rfl, ⟨hb⟩, fun y2 p2 => ?_⟩⟩
  have k1 := PL.post_refs p1
  have k2 := PL.post_refs p2
  have q := PL.post_same p1 p2
  have a1 := k1.n
  have a2 := k1.t
  have b1 := k2.n
  have b2 := k2.t
  refine ⟨(y1, y2), rfl, rfl, rfl, rfl, rfl, rfl, by omega, by omega, by omega, List.take_of_length_le (by omega), List.take_of_length_le (by omega), rfl, rfl, rfl, rfl, rfl, rfl, rfl, rfl, by omega, by omega, by omega, List.take_of_length_le (by omega), List.take_of_length_le (by omega), rfl, rfl, ⟨k1, k2⟩, fun _ => ⟨_, rfl, ⟨trivial⟩, ?_⟩, ⟨q.1, q.2.1, q.2.2.1⟩⟩
  simp
end Go.Eng
