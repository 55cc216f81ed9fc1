/- Index: the law IndexOwn, its condition. -/
import Derived.Test.YtfcjboomlfjanaaDoorIxM
set_option linter.unusedVariables false
set_option linter.unusedSimpArgs false
/- Index: anew, proved. -/
set_option linter.unusedSectionVars false
set_option linter.unusedSimpArgs false
set_option linter.unusedVariables false
namespace Go.Eng
variable [CW : CWorld]
open Go.Proofs Go.PL
set_option maxRecDepth 100000
attribute [local irreducible] run
set_option maxHeartbeats 1000000 in
theorem anSpec_ok : anSpec.OK PP 20 := by
  refine an_of fun x hx => ?_
  obtain ⟨c, n, p, ⟨L, ln, cp⟩⟩ := x
  obtain ⟨hok, hn, hp, hl, hln, hsm⟩ : PL.AnIn (c, n, p, ⟨L, ln, cp⟩) := hx
  simp only at hok hn hp hl hln hsm
  obtain ⟨k1, k2, k3, k4, k5, k6⟩ := id hn
  obtain ⟨p0, p1, p2, p3, p4, p5, p6, p7⟩ := id hp
  simp only at k1 k2 k3 k4 k5 k6 p0 p1 p2 p3 p4 p5 p6 p7
  subst hln
  have hz : ((setI 0 n.Z n.len.toNat).length : Int) = n.len := by rw [setI_len (by omega)]; exact k5
  have ho : ((setI (-1) p.objs.O p.objs.len.toNat).length : Int) = p.objs.len := by rw [setI_len (by omega)]; exact p4
  unfold an_vc
  simp only [ars, ars2, ars3, zNods, mObjs, ex_cfg, ex_cfg6, ex_enc, ex_trees, ex_pools, ex_txts, ex_ct6, ex_intx, cfgAny, ints3, true_and, and_true, exists_const, forall_const, forall_eq, imp_false, Classical.not_not, Int.toNat_natCast, Int.zero_add, Int.le_refl, take_self,
    k1, k2, k3, k4, k5, p1, p2, p3, p4, p5, dropz k1, dropz k2, dropz k3, dropz k4, dropz k5, dropz p1, dropz p2, dropz p3, dropz p4, dropz p5, hz, ho, dropz hz, dropz ho]
  have hcfg := hok.cfg
  simp only at hcfg
  have hpl := hok.pool.len
  have hpq := hok.pool.qlen
  simp only at hpl hpq
  obtain ⟨c1, c2, c3, c4, c5, c6⟩ := id p0
  have hL : (L.length : Int) ≤ 1000000 := by rw [hl]; exact encL_le hcfg
  have hn2 : ∀ a : Int, NodsOK ⟨n.K, n.N, n.P, n.S, setI 0 n.Z n.len.toNat, n.len, a⟩ := fun a => ⟨k1, k2, k3, k4, hz, k6⟩
  have hp2 : ∀ b d : Int, PoolIn (c, ⟨⟨p.objs.N, p.objs.T, p.objs.B, setI (-1) p.objs.O p.objs.len.toNat, p.objs.len, b⟩, p.q, p.qlen, d⟩) := fun b d => ⟨p0, p1, p2, p3, ho, p5, p6, p7⟩
  refine ⟨⟨hn, fun _ => hp⟩, fun e0 he0 => ⟨⟨0, ⟨by simp only; omega⟩, rfl, (setI_zero _ _).symm⟩, fun i hi => ?_⟩⟩
  have hi := hi.le
  simp only at hi
  refine ⟨fun hlt => ⟨by omega, hlt, by omega, by rw [setI_len (by omega)]; omega, i + 1, ⟨by simp only; omega⟩, by omega, wrap_i64 (by omega) (by omega), ?_⟩, fun hge => ?_⟩
  · show (setI 0 n.Z i).set (Int.toNat (i : Int)) 0 = _
    rw [Int.toNat_natCast]
    exact setI_set (by omega)
  obtain rfl : i = n.len.toNat := by omega
  refine ⟨⟨0, ⟨by simp only; omega⟩, rfl, rfl, (setI_zero _ _).symm⟩, fun i hi => ?_⟩
  have hi := hi.le
  simp only at hi
  refine ⟨fun hlt => ⟨by omega, hlt, by omega, by rw [setI_len (by omega)]; omega, i + 1, ⟨by simp only; omega⟩, by omega, wrap_i64 (by omega) (by omega), ?_⟩, fun hge => ?_⟩
  · show (setI (-1) p.objs.O i).set (Int.toNat (i : Int)) (-1) = _
    rw [Int.toNat_natCast]
    exact setI_set (by omega)
  obtain rfl : i = p.objs.len.toNat := by omega
  refine ⟨by omega, fun a ha => ⟨⟨by rw [ho]; exact Int.le_refl _, by omega, fun b hb => ⟨by omega, fun d hd => ⟨(a, b, d), ⟨ha, hb, hd⟩, rfl, rfl, rfl, rfl, rfl, rfl, dropz ho, rfl⟩⟩⟩, ?_⟩⟩
  rintro ⟨a, b, d⟩ _
  have hcap := enc_cap (c := c) (tf := c.files) (td := c.dirs) (K := n.K) (N := n.N) (P := n.P) (S := n.S) (Z := setI 0 n.Z n.len.toNat) (len := n.len) (cap := n.cap) (oN := p.objs.N) (oT := p.objs.T) (oB := p.objs.B) (oO := setI (-1) p.objs.O p.objs.len.toNat) (ol := p.objs.len) (oc := p.objs.cap) (q := p.q) (ql := p.qlen) (qc := p.qcap) a b d
  refine ⟨⟨hn2 _, fun _ => hp2 _ _⟩, fun e1 _ => ⟨⟨hn2 _, fun _ => hp2 _ _⟩, fun e2 _ => ⟨fun _ => ⟨fun _ => ⟨⟨rfl, rfl, ?_⟩, fun _ => ⟨⟨rfl, rfl, ?_⟩, hl.symm, fun _ => ⟨by omega, fun k hk => ⟨⟨rfl, by simp only; omega⟩, fun y hy => ⟨⟨(0, k), ⟨Nat.zero_le _, hk⟩, rfl, rfl, rfl, (setR_zero _).symm⟩, ?_⟩⟩⟩⟩, hcap.1⟩, hcap.2⟩, PL.encErr_ok hok⟩⟩⟩
  · have := encL_le (x := (c, ⟨c.files, c.dirs, ⟨n.K, n.N, n.P, n.S, setI 0 n.Z n.len.toNat, n.len, n.cap⟩⟩, ⟨⟨p.objs.N, p.objs.T, p.objs.B, setI (-1) p.objs.O p.objs.len.toNat, p.objs.len, p.objs.cap⟩, p.q, p.qlen, p.qcap⟩)) hcfg
    exact Int.le_trans this (by decide)
  · have := encL_le (x := (c, ⟨c.files, c.dirs, n⟩, p)) hcfg
    exact Int.le_trans this (by decide)
  rintro ⟨i, k2⟩ ⟨hi, hk2⟩
  simp only at hi hk2 ⊢
  have w1 : IntKind.i64.wrap ((L.length : Int) - 1) = L.length - 1 := wrap_i64 (by omega) (by omega)
  have w2 : IntKind.i64.wrap ((L.length : Int) - 1 - i) = L.length - 1 - i := wrap_i64 (by omega) (by omega)
  have w3 : IntKind.i64.wrap ((i : Int) + 1) = i + 1 := wrap_i64 (by omega) (by omega)
  simp only [w1, w2, w3]
  refine ⟨fun hlt => ⟨by omega, by omega, by omega, by omega, by omega, hlt, by omega, by rw [setR_len hi]; exact hlt, (i + 1, k2), ⟨by simp only; omega, hk2⟩, by simp only; omega, rfl, rfl, rfl, ?_⟩, fun hge => ?_⟩
  · show (setR L i).set (Int.toNat (i : Int)) (L.getD (Int.toNat ((L.length : Int) - 1 - i)) []) = _
    rw [Int.toNat_natCast, show Int.toNat ((L.length : Int) - 1 - i) = L.length - 1 - i by omega]
    exact setR_set (by omega)
  obtain rfl : i = L.length := by omega
  have hr : ((setR L L.length).length : Int) = L.length := by rw [setR_len (Nat.le_refl _)]
  have t1 : List.take L.length (List.drop (Int.toNat 0) (setR L L.length)) = setR L L.length := by
    rw [show Int.toNat 0 = 0 from rfl, List.drop_zero]
    exact List.take_of_length_le (by rw [setR_len (Nat.le_refl _)]; exact Nat.le_refl _)
  simp only [t1, hr, ex_ct6, Int.le_refl, true_and]
  refine ⟨⟨hr, by simp only; omega⟩, fun u hu => ⟨by omega, fun k3 hk3 => ⟨⟨hr, by simp only; omega⟩, fun v hv => ?_⟩⟩⟩
  obtain ⟨⟨j1, j2, j3, j4, j5, j6⟩, ⟨⟨j7, j8, j9, j10, j11⟩, j12, j13⟩⟩ := dcPost_any hu
  obtain ⟨l1, l2, l3, l4, l5, l6⟩ := id (dcPost_any hv).1
  obtain ⟨⟨l7, l8, l9, l10, l11⟩, l12, l13⟩ := id (dcPost_any hv).2
  obtain ⟨s1, s2⟩ := dcPost_same (x := (c, ⟨setR L L.length, L.length, k2⟩)) (x' := (c, ⟨setR L L.length, L.length, k3⟩)) rfl rfl hu hv
  simp only [j1, j2, j3, j4, j5, j7, j8, j9, j10, j12, dropz j1, dropz j2, dropz j3, dropz j4, dropz j5, dropz j7, dropz j8, dropz j9, dropz j10, dropz j12, l1, l2, l3, l4, l5, l7, l8, l9, l10, l12, dropz l1, dropz l2, dropz l3, dropz l4, dropz l5, dropz l7, dropz l8, dropz l9, dropz l10, dropz l12,
    ex_trees, ex_pools, Int.le_refl, true_and]
  have F1 : SameTIn (⟨u.1.1.files, u.1.1.dirs, ⟨u.1.1.nods.K, u.1.1.nods.N, u.1.1.nods.P, u.1.1.nods.S, u.1.1.nods.Z, u.1.1.nods.len, u.1.1.nods.len⟩⟩, ⟨v.1.1.files, v.1.1.dirs, ⟨v.1.1.nods.K, v.1.1.nods.N, v.1.1.nods.P, v.1.1.nods.S, v.1.1.nods.Z, v.1.1.nods.len, v.1.1.nods.len⟩⟩) := ⟨⟨j1, j2, j3, j4, j5, j6⟩, ⟨l1, l2, l3, l4, l5, l6⟩⟩
  have F2 : SamePIn (⟨⟨u.1.2.objs.N, u.1.2.objs.T, u.1.2.objs.B, u.1.2.objs.O, u.1.2.objs.len, u.1.2.objs.len⟩, u.1.2.q, u.1.2.qlen, u.1.2.qlen⟩, ⟨⟨v.1.2.objs.N, v.1.2.objs.T, v.1.2.objs.B, v.1.2.objs.O, v.1.2.objs.len, v.1.2.objs.len⟩, v.1.2.q, v.1.2.qlen, v.1.2.qlen⟩) := ⟨⟨⟨j7, j8, j9, j10, j11⟩, j12, j13⟩, ⟨⟨l7, l8, l9, l10, l11⟩, l12, l13⟩⟩
  obtain ⟨a1, a2, ⟨a3, a4, a5, a6, a7⟩⟩ := s1
  obtain ⟨b1, b2, b3, b4, b5⟩ := s2
  refine ⟨⟨fun _ => ⟨F1, fun _ => ⟨F2, ⟨fun _ => trivial, fun _ => ⟨b1, b2, b3, b4, b5⟩⟩⟩, ⟨a1, a2, ⟨a3, a4, a5, a6, a7⟩⟩⟩, trivial⟩, fun _ => ⟨F1, fun _ => ⟨F2, ⟨fun _ => trivial, fun _ => ⟨b1, b2, b3, b4, b5⟩⟩⟩, ⟨a1, a2, ⟨a3, a4, a5, a6, a7⟩⟩⟩, trivial⟩
end Go.Eng
namespace Go.PL
def setT (v : List UInt8) (l : List (List UInt8)) (i : Nat) : List (List UInt8) := List.replicate i v ++ l.drop i
def addI (v : Int) (l : List Int) (i : Nat) : List Int := l ++ List.replicate i v
def addT (v : List UInt8) (l : List (List UInt8)) (i : Nat) : List (List UInt8) := l ++ List.replicate i v
structure Upto (n : Int) (i : Nat) : Prop where
  le : (i : Int) ≤ n
structure Upto4 (n a b d : Int) (i : Nat × Int × Int × Int) : Prop where
  le : (i.1 : Int) ≤ n
  a : a + i.1 ≤ i.2.1
  b : b + i.1 ≤ i.2.2.1
  d : d + i.1 ≤ i.2.2.2
end Go.PL
set_option linter.unusedSectionVars false
set_option linter.unusedSimpArgs false
set_option linter.unusedVariables false
namespace Go.Eng
variable [CW : CWorld]
open Go.Proofs Go.PL
set_option maxRecDepth 100000
attribute [local irreducible] run
def fillN (i : Nat) : Blk → Blk
  | .mk t [.arr c [.ints k1 K, .ints k2 N, .ints k3 P, .strs S, .ints k5 Z]] => .mk t [.arr c [.ints k1 (PL.setI 99 K i), .ints k2 (PL.setI 0 N i), .ints k3 (PL.setI 0 P i), .strs (PL.setT [] S i), .ints k5 (PL.setI 0 Z i)]]
  | b => b
def fillO (i : Nat) : Blk → Blk
  | .mk t [.arr c [.strs N, .strs T, .ints k3 B, .ints k4 O]] => .mk t [.arr c [.strs (PL.setT [] N i), .strs (PL.setT [] T i), .ints k3 (PL.setI 0 B i), .ints k4 (PL.setI 99 O i)]]
  | b => b
def fillQ (i : Nat) : Blk → Blk
  | .mk t [.arr c [.ints k Q]] => .mk t [.arr c [.ints k (PL.setI 99 Q i)]]
  | b => b
def fillW (i : Nat) : Blk → Blk
  | .mk t [.arr c [.strs Q]] => .mk t [.arr c [.strs (PL.setT [109, 97, 114, 107] Q i)]]
  | b => b
def moreN (i : Nat) (n : Int) : Blk → Blk
  | .mk t [.arr c [.ints k1 K, .ints k2 N, .ints k3 P, .strs S, .ints k5 Z]] => .mk t [.arr (.x n) [.ints k1 (PL.addI 98 K i), .ints k2 (PL.addI 0 N i), .ints k3 (PL.addI 0 P i), .strs (PL.addT [] S i), .ints k5 (PL.addI 0 Z i)]]
  | b => b
def moreO (i : Nat) (n : Int) : Blk → Blk
  | .mk t [.arr c [.strs N, .strs T, .ints k3 B, .ints k4 O]] => .mk t [.arr (.x n) [.strs (PL.addT [] N i), .strs (PL.addT [] T i), .ints k3 (PL.addI 0 B i), .ints k4 (PL.addI 98 O i)]]
  | b => b
def moreQ (i : Nat) (n : Int) : Blk → Blk
  | .mk t [.arr c [.ints k Q]] => .mk t [.arr (.x n) [.ints k (PL.addI 98 Q i)]]
  | b => b
def svLen : SV → Int
  | .slc _ _ n _ => n.val
  | _ => 0
def fieldLen (b : Blk) (k : Nat) : Int := match b with
  | .mk _ l => match l[k]? with
    | some (.one v) => svLen v
    | _ => 0
  | _ => 0
def ownOrd : List Nat := [0, 1, 3, 6, 13, 14, 18, 19, 2, 4, 5, 7, 8, 9, 10, 11, 12, 15, 16, 17]
def reN (n : Nat) : Nat := ownOrd.findIdx fun k => k == n
def reSV : SV → SV
  | .ptr n o => .ptr (reN n) o
  | .slc n o l c => .slc (reN n) o l c
  | v => v
def reSeg : Seg → Seg
  | .one v => .one (reSV v)
  | s => s
def reBlk : Blk → Blk
  | .mk t l => .mk t (l.map reSeg)
  | b => b
def own1 : Code → List SV → List Blk → List Inv := fun b fr hp => [
  { ι := Nat, fr := fun i => only b (fr.map reSV) 0 [6, 7, 8, 9, 10, 12, 14, 15, 16, 18, 19] [(21, .int .i64 (.x (i : Int)))], hp := fun i => .gone :: (ownOrd.drop 1).map fun n => reBlk (if n == 10 then fillN i (hp.getD 10 .gone) else hp.getD n .gone),
    μ := fun i => (fieldLen (hp.getD 13 .gone) 2).toNat - i, ok := fun i => PL.Upto (fieldLen (hp.getD 13 .gone) 2) i }]
def own2 : Code → List SV → List Blk → List Inv := fun b fr hp => [
  { ι := Nat, fr := fun i => only b fr 0 [6, 7, 8, 9, 10, 12, 14, 15, 16, 18, 19] [(22, .int .i64 (.x (i : Int)))], hp := fun i => hp.set 15 (fillO i (hp.getD 15 .gone)), μ := fun i => (fieldLen (hp.getD 5 .gone) 0).toNat - i, ok := fun i => PL.Upto (fieldLen (hp.getD 5 .gone) 0) i }]
def own3 : Code → List SV → List Blk → List Inv := fun b fr hp => [
  { ι := Nat, fr := fun i => only b fr 0 [6, 7, 8, 9, 10, 12, 14, 15, 16, 18, 19] [(23, .int .i64 (.x (i : Int)))], hp := fun i => hp.set 16 (fillQ i (hp.getD 16 .gone)), μ := fun i => (fieldLen (hp.getD 5 .gone) 1).toNat - i, ok := fun i => PL.Upto (fieldLen (hp.getD 5 .gone) 1) i }]
def own4 : Code → List SV → List Blk → List Inv := fun b fr hp => [
  { ι := Nat, fr := fun i => only b fr 0 [6, 7, 8, 9, 10, 12, 14, 15, 16, 18, 19] [(24, .int .i64 (.x (i : Int)))], hp := fun i => hp.set 11 (fillW i (hp.getD 11 .gone)), μ := fun i => (svLen (fr.getD 10 .any)).toNat - i, ok := fun i => PL.Upto (svLen (fr.getD 10 .any)) i }]
def own5 : Code → List SV → List Blk → List Inv := fun b fr hp => [
  { ι := Nat × Int × Int × Int, fr := fun i => only b fr 0 [6, 7, 8, 9, 12, 14, 15, 16, 18, 19] [(25, .slc 20 (.l 0) (.x (svLen (fr.getD 25 .any) + i.1)) (.x i.2.1)), (26, .slc 21 (.l 0) (.x (svLen (fr.getD 26 .any) + i.1)) (.x i.2.2.1)), (27, .slc 22 (.l 0) (.x (svLen (fr.getD 27 .any) + i.1)) (.x i.2.2.2)), (28, .int .i64 (.x (i.1 : Int)))],
    hp := fun i => (hp.take 20).set 11 .gone ++ [moreN i.1 i.2.1 (hp.getD 21 .gone), moreO i.1 i.2.2.1 (hp.getD 23 .gone), moreQ i.1 i.2.2.2 (hp.getD 25 .gone)], μ := fun i => 64 - i.1, ok := fun i => PL.Upto4 64 (svLen (fr.getD 25 .any)) (svLen (fr.getD 26 .any)) (svLen (fr.getD 27 .any)) i }]
def own6 : Code → List SV → List Blk → List Inv := fun b fr hp => [
  { ι := Nat, fr := fun i => only b fr 0 [6, 7, 8, 9, 12, 14, 15, 16, 18, 19, 25, 26, 27] [(29, .int .i64 (.x (i : Int)))], hp := fun i => hp, μ := fun i => (fieldLen (hp.getD 4 .gone) 2).toNat - i, ok := fun i => PL.Upto (fieldLen (hp.getD 4 .gone) 2) i }]
def own7 : Code → List SV → List Blk → List Inv := fun b fr hp => [
  { ι := Nat, fr := fun i => only b fr 0 [6, 7, 8, 9, 12, 14, 16, 18, 19, 26, 27] [(30, .int .i64 (.x (i : Int)))], hp := fun i => ((hp.set 4 .gone).set 14 .gone).set 20 .gone, μ := fun i => (fieldLen (hp.getD 5 .gone) 0).toNat - i, ok := fun i => PL.Upto (fieldLen (hp.getD 5 .gone) 0) i }]
def own8 : Code → List SV → List Blk → List Inv := fun b fr hp => [
  { ι := Nat, fr := fun i => only b fr 0 [6, 7, 8, 9, 12, 14, 16, 18, 19, 27] [(31, .int .i64 (.x (i : Int)))], hp := fun i => (hp.set 21 .gone), μ := fun i => (fieldLen (hp.getD 5 .gone) 1).toNat - i, ok := fun i => PL.Upto (fieldLen (hp.getD 5 .gone) 1) i }]
def ownInvs (x : Cfg × Nums × Nums) : Invs := fun f n => match f, n with
  | 4, 14 => some own1
  | 4, 18 => some own2
  | 4, 22 => some own3
  | 4, 26 => some own4
  | 4, 33 => some own5
  | 4, 39 => some own6
  | 4, 44 => some own7
  | 4, 49 => some own8
  | _, _ => none
noncomputable def ownSpecs : Specs := fun f a h => match f with
  | 20 => some anSpec
  | _ => okSpecs f a h
theorem ownSpecs_ok : SpecsOK PP ownSpecs := by
  intro CW f xs _ S h
  unfold ownSpecs at h
  split at h
  · cases h; exact anSpec_ok
  · exact okSpecs_ok CW _ _ _ _ h
noncomputable def liSpec : Spec where
  X := Cfg × Nums × Nums
  A x := [.agg (cfgL x.1), numsS x.2.1, numsS x.2.2]
  H _ := []
  pre x := PL.LbIn x
  outs := [lawOut _]
def li_vc (ar : AR) (x : liSpec.X) : Prop :=
 ∃ x_1 : Cfg, x.1.slots = x_1.slots ∧ x.1.files = x_1.files ∧ x.1.dirs = x_1.dirs ∧ x.1.most = x_1.most ∧ x.1.least = x_1.least ∧ x.1.page = x_1.page ∧ CfgI64 x_1 ∧ ∀ y : Unit, True → ∃ x_2 : Cfg × Nums, Int.add 1 (x_1.slots.emod 64) =
 x_2.1.slots ∧ Int.add 1 (x_1.files.emod 64) = x_2.1.files ∧ x_1.dirs.emod 64 = x_2.1.dirs ∧ x_1.most.emod 65537 = x_2.1.most ∧ Int.add 16 (x_1.least.emod 65521) = x_2.1.least ∧ Int.add 64 (x_1.page.emod 1024) = x_2.1.page ∧ x.2.1.l =
 x_2.2.l ∧ x.2.1.len = x_2.2.len ∧ x.2.1.cap = x_2.2.cap ∧ MtIn x_2 ∧ ∀ y : Nods, MtPost x_2 y → ∃ x_3 : Cfg × Nums, Int.add 1 (x_1.slots.emod 64) = x_3.1.slots ∧ Int.add 1 (x_1.files.emod 64) = x_3.1.files ∧ x_1.dirs.emod 64 = x_3.1.dirs ∧
 x_1.most.emod 65537 = x_3.1.most ∧ Int.add 16 (x_1.least.emod 65521) = x_3.1.least ∧ Int.add 64 (x_1.page.emod 1024) = x_3.1.page ∧ x.2.2.l = x_3.2.l ∧ x.2.2.len = x_3.2.len ∧ x.2.2.cap = x_3.2.cap ∧ MtIn x_3 ∧ ∀ y_1 : Pool, MpPost x_3 y_1
 → ∃ x : Cfg × Tree × Pool, Int.add 1 (x_1.slots.emod 64) = x.1.slots ∧ Int.add 1 (x_1.files.emod 64) = x.1.files ∧ x_1.dirs.emod 64 = x.1.dirs ∧ x_1.most.emod 65537 = x.1.most ∧ Int.add 16 (x_1.least.emod 65521) = x.1.least ∧ Int.add 64
 (x_1.page.emod 1024) = x.1.page ∧ x_2.1.files = x.2.1.files ∧ x_2.1.dirs = x.2.1.dirs ∧ ar.le 0 0 ∧ ar.le (ar.add 0 y.len) (ar.ilen y.K) ∧ ar.le (ar.add 0 y.len) (ar.ilen y.N) ∧ ar.le (ar.add 0 y.len) (ar.ilen y.P) ∧ ar.le (ar.add 0 y.len)
 (ar.tlen y.S) ∧ ar.le (ar.add 0 y.len) (ar.ilen y.Z) ∧ ar.isub y.K 0 y.len = x.2.1.nods.K ∧ ar.isub y.N 0 y.len = x.2.1.nods.N ∧ ar.isub y.P 0 y.len = x.2.1.nods.P ∧ ar.tsub y.S 0 y.len = x.2.1.nods.S ∧ ar.isub y.Z 0 y.len = x.2.1.nods.Z ∧
 y.len = x.2.1.nods.len ∧ y.cap = x.2.1.nods.cap ∧ ar.le 0 0 ∧ ar.le (ar.add 0 y_1.1.len) (ar.tlen y_1.1.N) ∧ ar.le (ar.add 0 y_1.1.len) (ar.tlen y_1.1.T) ∧ ar.le (ar.add 0 y_1.1.len) (ar.ilen y_1.1.B) ∧ ar.le (ar.add 0 y_1.1.len) (ar.ilen
 y_1.1.O) ∧ ar.tsub y_1.1.N 0 y_1.1.len = x.2.2.objs.N ∧ ar.tsub y_1.1.T 0 y_1.1.len = x.2.2.objs.T ∧ ar.isub y_1.1.B 0 y_1.1.len = x.2.2.objs.B ∧ ar.isub y_1.1.O 0 y_1.1.len = x.2.2.objs.O ∧ y_1.1.len = x.2.2.objs.len ∧ y_1.1.cap =
 x.2.2.objs.cap ∧ ar.le 0 0 ∧ ar.le (ar.add 0 y_1.qlen) (ar.ilen y_1.q) ∧ ar.isub y_1.q 0 y_1.qlen = x.2.2.q ∧ y_1.qlen = x.2.2.qlen ∧ y_1.qcap = x.2.2.qcap ∧ EIn x ∧ ∀ y_2 : Int, Enc4Post x y_2 → ∃ x_4 : Cfg × Tree × Pool, Int.add 1
 (x_1.slots.emod 64) = x_4.1.slots ∧ Int.add 1 (x_1.files.emod 64) = x_4.1.files ∧ x_1.dirs.emod 64 = x_4.1.dirs ∧ x_1.most.emod 65537 = x_4.1.most ∧ Int.add 16 (x_1.least.emod 65521) = x_4.1.least ∧ Int.add 64 (x_1.page.emod 1024) =
 x_4.1.page ∧ x_2.1.files = x_4.2.1.files ∧ x_2.1.dirs = x_4.2.1.dirs ∧ ar.le 0 0 ∧ ar.le (ar.add 0 y.len) (ar.ilen y.K) ∧ ar.le (ar.add 0 y.len) (ar.ilen y.N) ∧ ar.le (ar.add 0 y.len) (ar.ilen y.P) ∧ ar.le (ar.add 0 y.len) (ar.tlen y.S) ∧
 ar.le (ar.add 0 y.len) (ar.ilen y.Z) ∧ ar.isub y.K 0 y.len = x_4.2.1.nods.K ∧ ar.isub y.N 0 y.len = x_4.2.1.nods.N ∧ ar.isub y.P 0 y.len = x_4.2.1.nods.P ∧ ar.tsub y.S 0 y.len = x_4.2.1.nods.S ∧ ar.isub y.Z 0 y.len = x_4.2.1.nods.Z ∧ y.len
 = x_4.2.1.nods.len ∧ y.cap = x_4.2.1.nods.cap ∧ ar.le 0 0 ∧ ar.le (ar.add 0 y_1.1.len) (ar.tlen y_1.1.N) ∧ ar.le (ar.add 0 y_1.1.len) (ar.tlen y_1.1.T) ∧ ar.le (ar.add 0 y_1.1.len) (ar.ilen y_1.1.B) ∧ ar.le (ar.add 0 y_1.1.len) (ar.ilen
 y_1.1.O) ∧ ar.tsub y_1.1.N 0 y_1.1.len = x_4.2.2.objs.N ∧ ar.tsub y_1.1.T 0 y_1.1.len = x_4.2.2.objs.T ∧ ar.isub y_1.1.B 0 y_1.1.len = x_4.2.2.objs.B ∧ ar.isub y_1.1.O 0 y_1.1.len = x_4.2.2.objs.O ∧ y_1.1.len = x_4.2.2.objs.len ∧ y_1.1.cap
 = x_4.2.2.objs.cap ∧ ar.le 0 0 ∧ ar.le (ar.add 0 y_1.qlen) (ar.ilen y_1.q) ∧ ar.isub y_1.q 0 y_1.qlen = x_4.2.2.q ∧ y_1.qlen = x_4.2.2.qlen ∧ y_1.qcap = x_4.2.2.qcap ∧ EIn x_4 ∧ ∀ y_3 : Int, Enc4Post x_4 y_3 → ar.le 0 0 ∧ ar.le (ar.add 0
 (↑(encL x).length : Int)) (ar.tlen (encL x)) ∧ ar.le (ar.mul (↑(encL x).length : Int) 16) 140737488355328 ∧ ∀ c : Int, ar.le (↑(encL x).length : Int) c → ∃ x_5 : Cfg × Txts, Int.add 1 (x_1.slots.emod 64) = x_5.1.slots ∧ Int.add 1
 (x_1.files.emod 64) = x_5.1.files ∧ x_1.dirs.emod 64 = x_5.1.dirs ∧ x_1.most.emod 65537 = x_5.1.most ∧ Int.add 16 (x_1.least.emod 65521) = x_5.1.least ∧ Int.add 64 (x_1.page.emod 1024) = x_5.1.page ∧ ar.le 0 0 ∧ ar.le (ar.add 0 (↑(encL
 x).length : Int)) (ar.tlen (encL x)) ∧ ar.tsub (encL x) 0 (↑(encL x).length : Int) = x_5.2.l ∧ (↑(encL x).length : Int) = x_5.2.len ∧ (↑(encL x).length : Int) = x_5.2.cap ∧ DcIn x_5 ∧ ∀ (y_4 : (Tree × Pool) × Int × Int × Int), DcPost x_5
 y_4 → ∃ x_6 : Cfg × Txts, Int.add 1 (x_1.slots.emod 64) = x_6.1.slots ∧ Int.add 1 (x_1.files.emod 64) = x_6.1.files ∧ x_1.dirs.emod 64 = x_6.1.dirs ∧ x_1.most.emod 65537 = x_6.1.most ∧ Int.add 16 (x_1.least.emod 65521) = x_6.1.least ∧
 Int.add 64 (x_1.page.emod 1024) = x_6.1.page ∧ ar.le 0 0 ∧ ar.le (ar.add 0 (↑(encL x).length : Int)) (ar.tlen (encL x)) ∧ ar.tsub (encL x) 0 (↑(encL x).length : Int) = x_6.2.l ∧ (↑(encL x).length : Int) = x_6.2.len ∧ (↑(encL x).length :
 Int) = x_6.2.cap ∧ DcIn x_6 ∧ ∀ (y_5 : (Tree × Pool) × Int × Int × Int), DcPost x_6 y_5 → ∃ x_7 : Int, encErr x_4 = x_7 ∧ Ints3 (x_7, x_7, x_7) ∧ ∀ y_6 : Unit, True → (¬ar.eq x_7 0 → ∃ y : Unit, True ∧ False) ∧ (¬¬ar.eq x_7 0 → ∃ x_8 :
 Int, encErr x = x_8 ∧ Ints3 (x_8, x_8, x_8) ∧ ∀ y_7 : Unit, True → ((¬ar.eq x_8 0 → False) → ∃ x_9 : Int, dcE x_5.1 x_5.2.l = x_9 ∧ Ints3 (x_9, x_9, x_9) ∧ ∀ y_8 : Unit, True → ((¬ar.eq x_9 0 → False) → ∃ x_10 : Int, dcE x_6.1 x_6.2.l =
 x_10 ∧ Ints3 (x_10, x_10, x_10) ∧ ∀ y_9 : Unit, True → ((¬ar.eq x_10 0 → False) → ∃ x_11 : Tree × Tree, y_4.1.1.files = x_11.1.files ∧ y_4.1.1.dirs = x_11.1.dirs ∧ ar.le 0 0 ∧ ar.le (ar.add 0 y_4.1.1.nods.len) (ar.ilen y_4.1.1.nods.K) ∧
 ar.le (ar.add 0 y_4.1.1.nods.len) (ar.ilen y_4.1.1.nods.N) ∧ ar.le (ar.add 0 y_4.1.1.nods.len) (ar.ilen y_4.1.1.nods.P) ∧ ar.le (ar.add 0 y_4.1.1.nods.len) (ar.tlen y_4.1.1.nods.S) ∧ ar.le (ar.add 0 y_4.1.1.nods.len) (ar.ilen
 y_4.1.1.nods.Z) ∧ ar.isub y_4.1.1.nods.K 0 y_4.1.1.nods.len = x_11.1.nods.K ∧ ar.isub y_4.1.1.nods.N 0 y_4.1.1.nods.len = x_11.1.nods.N ∧ ar.isub y_4.1.1.nods.P 0 y_4.1.1.nods.len = x_11.1.nods.P ∧ ar.tsub y_4.1.1.nods.S 0 y_4.1.1.nods.len
 = x_11.1.nods.S ∧ ar.isub y_4.1.1.nods.Z 0 y_4.1.1.nods.len = x_11.1.nods.Z ∧ y_4.1.1.nods.len = x_11.1.nods.len ∧ y_4.1.1.nods.len = x_11.1.nods.cap ∧ x_2.1.files = x_11.2.files ∧ x_2.1.dirs = x_11.2.dirs ∧ ar.le 0 0 ∧ ar.le (ar.add 0
 y.len) (ar.ilen y.K) ∧ ar.le (ar.add 0 y.len) (ar.ilen y.N) ∧ ar.le (ar.add 0 y.len) (ar.ilen y.P) ∧ ar.le (ar.add 0 y.len) (ar.tlen y.S) ∧ ar.le (ar.add 0 y.len) (ar.ilen y.Z) ∧ ar.isub y.K 0 y.len = x_11.2.nods.K ∧ ar.isub y.N 0 y.len =
 x_11.2.nods.N ∧ ar.isub y.P 0 y.len = x_11.2.nods.P ∧ ar.tsub y.S 0 y.len = x_11.2.nods.S ∧ ar.isub y.Z 0 y.len = x_11.2.nods.Z ∧ y.len = x_11.2.nods.len ∧ y.cap = x_11.2.nods.cap ∧ SameTIn x_11 ∧ ∀ y_10 : Unit, True → ((¬SameT x_11.1
 x_11.2 → False) → ∃ x_12 : Pool × Pool, ar.le 0 0 ∧ ar.le (ar.add 0 y_4.1.2.objs.len) (ar.tlen y_4.1.2.objs.N) ∧ ar.le (ar.add 0 y_4.1.2.objs.len) (ar.tlen y_4.1.2.objs.T) ∧ ar.le (ar.add 0 y_4.1.2.objs.len) (ar.ilen y_4.1.2.objs.B) ∧
 ar.le (ar.add 0 y_4.1.2.objs.len) (ar.ilen y_4.1.2.objs.O) ∧ ar.tsub y_4.1.2.objs.N 0 y_4.1.2.objs.len = x_12.1.objs.N ∧ ar.tsub y_4.1.2.objs.T 0 y_4.1.2.objs.len = x_12.1.objs.T ∧ ar.isub y_4.1.2.objs.B 0 y_4.1.2.objs.len = x_12.1.objs.B
 ∧ ar.isub y_4.1.2.objs.O 0 y_4.1.2.objs.len = x_12.1.objs.O ∧ y_4.1.2.objs.len = x_12.1.objs.len ∧ y_4.1.2.objs.len = x_12.1.objs.cap ∧ ar.le 0 0 ∧ ar.le (ar.add 0 y_4.1.2.qlen) (ar.ilen y_4.1.2.q) ∧ ar.isub y_4.1.2.q 0 y_4.1.2.qlen =
 x_12.1.q ∧ y_4.1.2.qlen = x_12.1.qlen ∧ y_4.1.2.qlen = x_12.1.qcap ∧ ar.le 0 0 ∧ ar.le (ar.add 0 y_1.1.len) (ar.tlen y_1.1.N) ∧ ar.le (ar.add 0 y_1.1.len) (ar.tlen y_1.1.T) ∧ ar.le (ar.add 0 y_1.1.len) (ar.ilen y_1.1.B) ∧ ar.le (ar.add 0
 y_1.1.len) (ar.ilen y_1.1.O) ∧ ar.tsub y_1.1.N 0 y_1.1.len = x_12.2.objs.N ∧ ar.tsub y_1.1.T 0 y_1.1.len = x_12.2.objs.T ∧ ar.isub y_1.1.B 0 y_1.1.len = x_12.2.objs.B ∧ ar.isub y_1.1.O 0 y_1.1.len = x_12.2.objs.O ∧ y_1.1.len =
 x_12.2.objs.len ∧ y_1.1.cap = x_12.2.objs.cap ∧ ar.le 0 0 ∧ ar.le (ar.add 0 y_1.qlen) (ar.ilen y_1.q) ∧ ar.isub y_1.q 0 y_1.qlen = x_12.2.q ∧ y_1.qlen = x_12.2.qlen ∧ y_1.qcap = x_12.2.qcap ∧ SamePIn x_12 ∧ ∀ y_11 : Unit, True → (¬SameP
 x_12.1 x_12.2 → ∃ y : Unit, True ∧ False) ∧ (¬¬SameP x_12.1 x_12.2 → (∃ i : Nat, Upto y_4.1.1.nods.len i ∧ (↑(encL x).length : Int) = (↑(encL x).length : Int) ∧ (↑(encL x).length : Int) = (↑(encL x).length : Int) ∧ (↑(encL x_4).length :
 Int) = (↑(encL x_4).length : Int) ∧ (↑(encL x_4).length : Int) = (↑(encL x_4).length : Int) ∧ (↑(encL x).length : Int) = (↑(encL x).length : Int) ∧ c = c ∧ 0 = (i : Int) ∧ Int.add 1 (x_1.slots.emod 64) = Int.add 1 (x_1.slots.emod 64) ∧
 Int.add 1 (x_1.files.emod 64) = Int.add 1 (x_1.files.emod 64) ∧ x_1.dirs.emod 64 = x_1.dirs.emod 64 ∧ x_1.most.emod 65537 = x_1.most.emod 65537 ∧ Int.add 16 (x_1.least.emod 65521) = Int.add 16 (x_1.least.emod 65521) ∧ Int.add 64
 (x_1.page.emod 1024) = Int.add 64 (x_1.page.emod 1024) ∧ x_2.1.files = x_2.1.files ∧ x_2.1.dirs = x_2.1.dirs ∧ y.len = y.len ∧ y.cap = y.cap ∧ y_1.1.len = y_1.1.len ∧ y_1.1.cap = y_1.1.cap ∧ y_1.qlen = y_1.qlen ∧ y_1.qcap = y_1.qcap ∧
 y_4.1.1.files = y_4.1.1.files ∧ y_4.1.1.dirs = y_4.1.1.dirs ∧ 0 = 0 ∧ y_4.1.1.nods.len = y_4.1.1.nods.len ∧ y_4.1.1.nods.len = y_4.1.1.nods.len ∧ 0 = 0 ∧ y_4.1.2.objs.len = y_4.1.2.objs.len ∧ y_4.1.2.objs.len = y_4.1.2.objs.len ∧ 0 = 0 ∧
 y_4.1.2.qlen = y_4.1.2.qlen ∧ y_4.1.2.qlen = y_4.1.2.qlen ∧ y_5.1.1.files = y_5.1.1.files ∧ y_5.1.1.dirs = y_5.1.1.dirs ∧ 0 = 0 ∧ y_5.1.1.nods.len = y_5.1.1.nods.len ∧ y_5.1.1.nods.len = y_5.1.1.nods.len ∧ 0 = 0 ∧ y_5.1.2.objs.len =
 y_5.1.2.objs.len ∧ y_5.1.2.objs.len = y_5.1.2.objs.len ∧ 0 = 0 ∧ y_5.1.2.qlen = y_5.1.2.qlen ∧ y_5.1.2.qlen = y_5.1.2.qlen ∧ y.cap = y.cap ∧ y.K = y.K ∧ y.N = y.N ∧ y.P = y.P ∧ y.S = y.S ∧ y.Z = y.Z ∧ y_1.1.cap = y_1.1.cap ∧ y_1.1.N =
 y_1.1.N ∧ y_1.1.T = y_1.1.T ∧ y_1.1.B = y_1.1.B ∧ y_1.1.O = y_1.1.O ∧ y_1.qcap = y_1.qcap ∧ y_1.q = y_1.q ∧ y_2 = y_2 ∧ encL x = encL x ∧ y_3 = y_3 ∧ encL x_4 = encL x_4 ∧ c = c ∧ ar.tsub (encL x) 0 (↑(encL x).length : Int) = ar.tsub (encL
 x) 0 (↑(encL x).length : Int) ∧ y_4.2.1 = y_4.2.1 ∧ y_4.1.1.nods.K = setI 99 y_4.1.1.nods.K i ∧ y_4.1.1.nods.N = setI 0 y_4.1.1.nods.N i ∧ y_4.1.1.nods.P = setI 0 y_4.1.1.nods.P i ∧ y_4.1.1.nods.S = setT [] y_4.1.1.nods.S i ∧
 y_4.1.1.nods.Z = setI 0 y_4.1.1.nods.Z i ∧ y_4.2.2.1 = y_4.2.2.1 ∧ y_4.1.2.objs.N = y_4.1.2.objs.N ∧ y_4.1.2.objs.T = y_4.1.2.objs.T ∧ y_4.1.2.objs.B = y_4.1.2.objs.B ∧ y_4.1.2.objs.O = y_4.1.2.objs.O ∧ y_4.2.2.2 = y_4.2.2.2 ∧ y_4.1.2.q =
 y_4.1.2.q ∧ y_5.2.1 = y_5.2.1 ∧ y_5.1.1.nods.K = y_5.1.1.nods.K ∧ y_5.1.1.nods.N = y_5.1.1.nods.N ∧ y_5.1.1.nods.P = y_5.1.1.nods.P ∧ y_5.1.1.nods.S = y_5.1.1.nods.S ∧ y_5.1.1.nods.Z = y_5.1.1.nods.Z ∧ y_5.2.2.1 = y_5.2.2.1 ∧
 y_5.1.2.objs.N = y_5.1.2.objs.N ∧ y_5.1.2.objs.T = y_5.1.2.objs.T ∧ y_5.1.2.objs.B = y_5.1.2.objs.B ∧ y_5.1.2.objs.O = y_5.1.2.objs.O ∧ y_5.2.2.2 = y_5.2.2.2 ∧ y_5.1.2.q = y_5.1.2.q ∧ True) ∧ ∀ i : Nat, Upto y_4.1.1.nods.len i → (ar.lt (i
 : Int) y_4.1.1.nods.len → ar.le 0 (i : Int) ∧ ar.lt (i : Int) y_4.1.1.nods.len ∧ ar.le 0 0 ∧ ar.le 0 (ar.add 0 (i : Int)) ∧ ar.lt (ar.add 0 (i : Int)) (ar.ilen (setI 99 y_4.1.1.nods.K i)) ∧ ar.le 0 (ar.add 0 (i : Int)) ∧ ar.lt (ar.add 0 (i
 : Int)) (ar.ilen (setI 0 y_4.1.1.nods.N i)) ∧ ar.le 0 (ar.add 0 (i : Int)) ∧ ar.lt (ar.add 0 (i : Int)) (ar.ilen (setI 0 y_4.1.1.nods.P i)) ∧ ar.le 0 (ar.add 0 (i : Int)) ∧ ar.lt (ar.add 0 (i : Int)) (ar.tlen (setT [] y_4.1.1.nods.S i)) ∧
 ar.le 0 (ar.add 0 (i : Int)) ∧ ar.lt (ar.add 0 (i : Int)) (ar.ilen (setI 0 y_4.1.1.nods.Z i)) ∧ ∀ z : Int, z = ar.wrap .i64 (ar.add (i : Int) 1) → ∃ j : Nat, Upto y_4.1.1.nods.len j ∧ (y_4.1.1.nods.len.toNat.sub j).lt
 (y_4.1.1.nods.len.toNat.sub i) ∧ (↑(encL x).length : Int) = (↑(encL x).length : Int) ∧ (↑(encL x).length : Int) = (↑(encL x).length : Int) ∧ (↑(encL x_4).length : Int) = (↑(encL x_4).length : Int) ∧ (↑(encL x_4).length : Int) = (↑(encL
 x_4).length : Int) ∧ (↑(encL x).length : Int) = (↑(encL x).length : Int) ∧ c = c ∧ z = (j : Int) ∧ Int.add 1 (x_1.slots.emod 64) = Int.add 1 (x_1.slots.emod 64) ∧ Int.add 1 (x_1.files.emod 64) = Int.add 1 (x_1.files.emod 64) ∧
 x_1.dirs.emod 64 = x_1.dirs.emod 64 ∧ x_1.most.emod 65537 = x_1.most.emod 65537 ∧ Int.add 16 (x_1.least.emod 65521) = Int.add 16 (x_1.least.emod 65521) ∧ Int.add 64 (x_1.page.emod 1024) = Int.add 64 (x_1.page.emod 1024) ∧ x_2.1.files =
 x_2.1.files ∧ x_2.1.dirs = x_2.1.dirs ∧ y.len = y.len ∧ y.cap = y.cap ∧ y_1.1.len = y_1.1.len ∧ y_1.1.cap = y_1.1.cap ∧ y_1.qlen = y_1.qlen ∧ y_1.qcap = y_1.qcap ∧ y_4.1.1.files = y_4.1.1.files ∧ y_4.1.1.dirs = y_4.1.1.dirs ∧ 0 = 0 ∧
 y_4.1.1.nods.len = y_4.1.1.nods.len ∧ y_4.1.1.nods.len = y_4.1.1.nods.len ∧ 0 = 0 ∧ y_4.1.2.objs.len = y_4.1.2.objs.len ∧ y_4.1.2.objs.len = y_4.1.2.objs.len ∧ 0 = 0 ∧ y_4.1.2.qlen = y_4.1.2.qlen ∧ y_4.1.2.qlen = y_4.1.2.qlen ∧
 y_5.1.1.files = y_5.1.1.files ∧ y_5.1.1.dirs = y_5.1.1.dirs ∧ 0 = 0 ∧ y_5.1.1.nods.len = y_5.1.1.nods.len ∧ y_5.1.1.nods.len = y_5.1.1.nods.len ∧ 0 = 0 ∧ y_5.1.2.objs.len = y_5.1.2.objs.len ∧ y_5.1.2.objs.len = y_5.1.2.objs.len ∧ 0 = 0 ∧
 y_5.1.2.qlen = y_5.1.2.qlen ∧ y_5.1.2.qlen = y_5.1.2.qlen ∧ y.cap = y.cap ∧ y.K = y.K ∧ y.N = y.N ∧ y.P = y.P ∧ y.S = y.S ∧ y.Z = y.Z ∧ y_1.1.cap = y_1.1.cap ∧ y_1.1.N = y_1.1.N ∧ y_1.1.T = y_1.1.T ∧ y_1.1.B = y_1.1.B ∧ y_1.1.O = y_1.1.O ∧
 y_1.qcap = y_1.qcap ∧ y_1.q = y_1.q ∧ y_2 = y_2 ∧ encL x = encL x ∧ y_3 = y_3 ∧ encL x_4 = encL x_4 ∧ c = c ∧ ar.tsub (encL x) 0 (↑(encL x).length : Int) = ar.tsub (encL x) 0 (↑(encL x).length : Int) ∧ y_4.2.1 = y_4.2.1 ∧ ar.iset (setI 99
 y_4.1.1.nods.K i) (ar.add 0 (i : Int)) 99 = setI 99 y_4.1.1.nods.K j ∧ ar.iset (setI 0 y_4.1.1.nods.N i) (ar.add 0 (i : Int)) 0 = setI 0 y_4.1.1.nods.N j ∧ ar.iset (setI 0 y_4.1.1.nods.P i) (ar.add 0 (i : Int)) 0 = setI 0 y_4.1.1.nods.P j
 ∧ ar.tset (setT [] y_4.1.1.nods.S i) (ar.add 0 (i : Int)) [] = setT [] y_4.1.1.nods.S j ∧ ar.iset (setI 0 y_4.1.1.nods.Z i) (ar.add 0 (i : Int)) 0 = setI 0 y_4.1.1.nods.Z j ∧ y_4.2.2.1 = y_4.2.2.1 ∧ y_4.1.2.objs.N = y_4.1.2.objs.N ∧
 y_4.1.2.objs.T = y_4.1.2.objs.T ∧ y_4.1.2.objs.B = y_4.1.2.objs.B ∧ y_4.1.2.objs.O = y_4.1.2.objs.O ∧ y_4.2.2.2 = y_4.2.2.2 ∧ y_4.1.2.q = y_4.1.2.q ∧ y_5.2.1 = y_5.2.1 ∧ y_5.1.1.nods.K = y_5.1.1.nods.K ∧ y_5.1.1.nods.N = y_5.1.1.nods.N ∧
 y_5.1.1.nods.P = y_5.1.1.nods.P ∧ y_5.1.1.nods.S = y_5.1.1.nods.S ∧ y_5.1.1.nods.Z = y_5.1.1.nods.Z ∧ y_5.2.2.1 = y_5.2.2.1 ∧ y_5.1.2.objs.N = y_5.1.2.objs.N ∧ y_5.1.2.objs.T = y_5.1.2.objs.T ∧ y_5.1.2.objs.B = y_5.1.2.objs.B ∧
 y_5.1.2.objs.O = y_5.1.2.objs.O ∧ y_5.2.2.2 = y_5.2.2.2 ∧ y_5.1.2.q = y_5.1.2.q ∧ True) ∧ (¬ar.lt (i : Int) y_4.1.1.nods.len → (∃ i_1 : Nat, Upto y_4.1.2.objs.len i_1 ∧ (↑(encL x).length : Int) = (↑(encL x).length : Int) ∧ (↑(encL
 x).length : Int) = (↑(encL x).length : Int) ∧ (↑(encL x_4).length : Int) = (↑(encL x_4).length : Int) ∧ (↑(encL x_4).length : Int) = (↑(encL x_4).length : Int) ∧ (↑(encL x).length : Int) = (↑(encL x).length : Int) ∧ c = c ∧ 0 = (i_1 : Int)
 ∧ Int.add 1 (x_1.slots.emod 64) = Int.add 1 (x_1.slots.emod 64) ∧ Int.add 1 (x_1.files.emod 64) = Int.add 1 (x_1.files.emod 64) ∧ x_1.dirs.emod 64 = x_1.dirs.emod 64 ∧ x_1.most.emod 65537 = x_1.most.emod 65537 ∧ Int.add 16 (x_1.least.emod
 65521) = Int.add 16 (x_1.least.emod 65521) ∧ Int.add 64 (x_1.page.emod 1024) = Int.add 64 (x_1.page.emod 1024) ∧ x_2.1.files = x_2.1.files ∧ x_2.1.dirs = x_2.1.dirs ∧ y.len = y.len ∧ y.cap = y.cap ∧ y_1.1.len = y_1.1.len ∧ y_1.1.cap =
 y_1.1.cap ∧ y_1.qlen = y_1.qlen ∧ y_1.qcap = y_1.qcap ∧ y_4.1.1.files = y_4.1.1.files ∧ y_4.1.1.dirs = y_4.1.1.dirs ∧ 0 = 0 ∧ y_4.1.1.nods.len = y_4.1.1.nods.len ∧ y_4.1.1.nods.len = y_4.1.1.nods.len ∧ 0 = 0 ∧ y_4.1.2.objs.len =
 y_4.1.2.objs.len ∧ y_4.1.2.objs.len = y_4.1.2.objs.len ∧ 0 = 0 ∧ y_4.1.2.qlen = y_4.1.2.qlen ∧ y_4.1.2.qlen = y_4.1.2.qlen ∧ y_5.1.1.files = y_5.1.1.files ∧ y_5.1.1.dirs = y_5.1.1.dirs ∧ 0 = 0 ∧ y_5.1.1.nods.len = y_5.1.1.nods.len ∧
 y_5.1.1.nods.len = y_5.1.1.nods.len ∧ 0 = 0 ∧ y_5.1.2.objs.len = y_5.1.2.objs.len ∧ y_5.1.2.objs.len = y_5.1.2.objs.len ∧ 0 = 0 ∧ y_5.1.2.qlen = y_5.1.2.qlen ∧ y_5.1.2.qlen = y_5.1.2.qlen ∧ y.cap = y.cap ∧ y.K = y.K ∧ y.N = y.N ∧ y.P = y.P
 ∧ y.S = y.S ∧ y.Z = y.Z ∧ y_1.1.cap = y_1.1.cap ∧ y_1.1.N = y_1.1.N ∧ y_1.1.T = y_1.1.T ∧ y_1.1.B = y_1.1.B ∧ y_1.1.O = y_1.1.O ∧ y_1.qcap = y_1.qcap ∧ y_1.q = y_1.q ∧ y_2 = y_2 ∧ encL x = encL x ∧ y_3 = y_3 ∧ encL x_4 = encL x_4 ∧ c = c ∧
 ar.tsub (encL x) 0 (↑(encL x).length : Int) = ar.tsub (encL x) 0 (↑(encL x).length : Int) ∧ y_4.2.1 = y_4.2.1 ∧ setI 99 y_4.1.1.nods.K i = setI 99 y_4.1.1.nods.K i ∧ setI 0 y_4.1.1.nods.N i = setI 0 y_4.1.1.nods.N i ∧ setI 0 y_4.1.1.nods.P
 i = setI 0 y_4.1.1.nods.P i ∧ setT [] y_4.1.1.nods.S i = setT [] y_4.1.1.nods.S i ∧ setI 0 y_4.1.1.nods.Z i = setI 0 y_4.1.1.nods.Z i ∧ y_4.2.2.1 = y_4.2.2.1 ∧ y_4.1.2.objs.N = setT [] y_4.1.2.objs.N i_1 ∧ y_4.1.2.objs.T = setT []
 y_4.1.2.objs.T i_1 ∧ y_4.1.2.objs.B = setI 0 y_4.1.2.objs.B i_1 ∧ y_4.1.2.objs.O = setI 99 y_4.1.2.objs.O i_1 ∧ y_4.2.2.2 = y_4.2.2.2 ∧ y_4.1.2.q = y_4.1.2.q ∧ y_5.2.1 = y_5.2.1 ∧ y_5.1.1.nods.K = y_5.1.1.nods.K ∧ y_5.1.1.nods.N =
 y_5.1.1.nods.N ∧ y_5.1.1.nods.P = y_5.1.1.nods.P ∧ y_5.1.1.nods.S = y_5.1.1.nods.S ∧ y_5.1.1.nods.Z = y_5.1.1.nods.Z ∧ y_5.2.2.1 = y_5.2.2.1 ∧ y_5.1.2.objs.N = y_5.1.2.objs.N ∧ y_5.1.2.objs.T = y_5.1.2.objs.T ∧ y_5.1.2.objs.B =
 y_5.1.2.objs.B ∧ y_5.1.2.objs.O = y_5.1.2.objs.O ∧ y_5.2.2.2 = y_5.2.2.2 ∧ y_5.1.2.q = y_5.1.2.q ∧ True) ∧ ∀ i_1 : Nat, Upto y_4.1.2.objs.len i_1 → (ar.lt (i_1 : Int) y_4.1.2.objs.len → ar.le 0 (i_1 : Int) ∧ ar.lt (i_1 : Int)
 y_4.1.2.objs.len ∧ ar.le 0 0 ∧ ar.le 0 (ar.add 0 (i_1 : Int)) ∧ ar.lt (ar.add 0 (i_1 : Int)) (ar.tlen (setT [] y_4.1.2.objs.N i_1)) ∧ ar.le 0 (ar.add 0 (i_1 : Int)) ∧ ar.lt (ar.add 0 (i_1 : Int)) (ar.tlen (setT [] y_4.1.2.objs.T i_1)) ∧
 ar.le 0 (ar.add 0 (i_1 : Int)) ∧ ar.lt (ar.add 0 (i_1 : Int)) (ar.ilen (setI 0 y_4.1.2.objs.B i_1)) ∧ ar.le 0 (ar.add 0 (i_1 : Int)) ∧ ar.lt (ar.add 0 (i_1 : Int)) (ar.ilen (setI 99 y_4.1.2.objs.O i_1)) ∧ ∀ z : Int, z = ar.wrap .i64
 (ar.add (i_1 : Int) 1) → ∃ j : Nat, Upto y_4.1.2.objs.len j ∧ (y_4.1.2.objs.len.toNat.sub j).lt (y_4.1.2.objs.len.toNat.sub i_1) ∧ (↑(encL x).length : Int) = (↑(encL x).length : Int) ∧ (↑(encL x).length : Int) = (↑(encL x).length : Int) ∧
 (↑(encL x_4).length : Int) = (↑(encL x_4).length : Int) ∧ (↑(encL x_4).length : Int) = (↑(encL x_4).length : Int) ∧ (↑(encL x).length : Int) = (↑(encL x).length : Int) ∧ c = c ∧ z = (j : Int) ∧ Int.add 1 (x_1.slots.emod 64) = Int.add 1
 (x_1.slots.emod 64) ∧ Int.add 1 (x_1.files.emod 64) = Int.add 1 (x_1.files.emod 64) ∧ x_1.dirs.emod 64 = x_1.dirs.emod 64 ∧ x_1.most.emod 65537 = x_1.most.emod 65537 ∧ Int.add 16 (x_1.least.emod 65521) = Int.add 16 (x_1.least.emod 65521) ∧
 Int.add 64 (x_1.page.emod 1024) = Int.add 64 (x_1.page.emod 1024) ∧ x_2.1.files = x_2.1.files ∧ x_2.1.dirs = x_2.1.dirs ∧ y.len = y.len ∧ y.cap = y.cap ∧ y_1.1.len = y_1.1.len ∧ y_1.1.cap = y_1.1.cap ∧ y_1.qlen = y_1.qlen ∧ y_1.qcap =
 y_1.qcap ∧ y_4.1.1.files = y_4.1.1.files ∧ y_4.1.1.dirs = y_4.1.1.dirs ∧ 0 = 0 ∧ y_4.1.1.nods.len = y_4.1.1.nods.len ∧ y_4.1.1.nods.len = y_4.1.1.nods.len ∧ 0 = 0 ∧ y_4.1.2.objs.len = y_4.1.2.objs.len ∧ y_4.1.2.objs.len = y_4.1.2.objs.len
 ∧ 0 = 0 ∧ y_4.1.2.qlen = y_4.1.2.qlen ∧ y_4.1.2.qlen = y_4.1.2.qlen ∧ y_5.1.1.files = y_5.1.1.files ∧ y_5.1.1.dirs = y_5.1.1.dirs ∧ 0 = 0 ∧ y_5.1.1.nods.len = y_5.1.1.nods.len ∧ y_5.1.1.nods.len = y_5.1.1.nods.len ∧ 0 = 0 ∧
 y_5.1.2.objs.len = y_5.1.2.objs.len ∧ y_5.1.2.objs.len = y_5.1.2.objs.len ∧ 0 = 0 ∧ y_5.1.2.qlen = y_5.1.2.qlen ∧ y_5.1.2.qlen = y_5.1.2.qlen ∧ y.cap = y.cap ∧ y.K = y.K ∧ y.N = y.N ∧ y.P = y.P ∧ y.S = y.S ∧ y.Z = y.Z ∧ y_1.1.cap =
 y_1.1.cap ∧ y_1.1.N = y_1.1.N ∧ y_1.1.T = y_1.1.T ∧ y_1.1.B = y_1.1.B ∧ y_1.1.O = y_1.1.O ∧ y_1.qcap = y_1.qcap ∧ y_1.q = y_1.q ∧ y_2 = y_2 ∧ encL x = encL x ∧ y_3 = y_3 ∧ encL x_4 = encL x_4 ∧ c = c ∧ ar.tsub (encL x) 0 (↑(encL x).length
 : Int) = ar.tsub (encL x) 0 (↑(encL x).length : Int) ∧ y_4.2.1 = y_4.2.1 ∧ setI 99 y_4.1.1.nods.K i = setI 99 y_4.1.1.nods.K i ∧ setI 0 y_4.1.1.nods.N i = setI 0 y_4.1.1.nods.N i ∧ setI 0 y_4.1.1.nods.P i = setI 0 y_4.1.1.nods.P i ∧ setT
 [] y_4.1.1.nods.S i = setT [] y_4.1.1.nods.S i ∧ setI 0 y_4.1.1.nods.Z i = setI 0 y_4.1.1.nods.Z i ∧ y_4.2.2.1 = y_4.2.2.1 ∧ ar.tset (setT [] y_4.1.2.objs.N i_1) (ar.add 0 (i_1 : Int)) [] = setT [] y_4.1.2.objs.N j ∧ ar.tset (setT []
 y_4.1.2.objs.T i_1) (ar.add 0 (i_1 : Int)) [] = setT [] y_4.1.2.objs.T j ∧ ar.iset (setI 0 y_4.1.2.objs.B i_1) (ar.add 0 (i_1 : Int)) 0 = setI 0 y_4.1.2.objs.B j ∧ ar.iset (setI 99 y_4.1.2.objs.O i_1) (ar.add 0 (i_1 : Int)) 99 = setI 99
 y_4.1.2.objs.O j ∧ y_4.2.2.2 = y_4.2.2.2 ∧ y_4.1.2.q = y_4.1.2.q ∧ y_5.2.1 = y_5.2.1 ∧ y_5.1.1.nods.K = y_5.1.1.nods.K ∧ y_5.1.1.nods.N = y_5.1.1.nods.N ∧ y_5.1.1.nods.P = y_5.1.1.nods.P ∧ y_5.1.1.nods.S = y_5.1.1.nods.S ∧ y_5.1.1.nods.Z =
 y_5.1.1.nods.Z ∧ y_5.2.2.1 = y_5.2.2.1 ∧ y_5.1.2.objs.N = y_5.1.2.objs.N ∧ y_5.1.2.objs.T = y_5.1.2.objs.T ∧ y_5.1.2.objs.B = y_5.1.2.objs.B ∧ y_5.1.2.objs.O = y_5.1.2.objs.O ∧ y_5.2.2.2 = y_5.2.2.2 ∧ y_5.1.2.q = y_5.1.2.q ∧ True) ∧
 (¬ar.lt (i_1 : Int) y_4.1.2.objs.len → (∃ i_2 : Nat, Upto y_4.1.2.qlen i_2 ∧ (↑(encL x).length : Int) = (↑(encL x).length : Int) ∧ (↑(encL x).length : Int) = (↑(encL x).length : Int) ∧ (↑(encL x_4).length : Int) = (↑(encL x_4).length :
 Int) ∧ (↑(encL x_4).length : Int) = (↑(encL x_4).length : Int) ∧ (↑(encL x).length : Int) = (↑(encL x).length : Int) ∧ c = c ∧ 0 = (i_2 : Int) ∧ Int.add 1 (x_1.slots.emod 64) = Int.add 1 (x_1.slots.emod 64) ∧ Int.add 1 (x_1.files.emod 64)
 = Int.add 1 (x_1.files.emod 64) ∧ x_1.dirs.emod 64 = x_1.dirs.emod 64 ∧ x_1.most.emod 65537 = x_1.most.emod 65537 ∧ Int.add 16 (x_1.least.emod 65521) = Int.add 16 (x_1.least.emod 65521) ∧ Int.add 64 (x_1.page.emod 1024) = Int.add 64
 (x_1.page.emod 1024) ∧ x_2.1.files = x_2.1.files ∧ x_2.1.dirs = x_2.1.dirs ∧ y.len = y.len ∧ y.cap = y.cap ∧ y_1.1.len = y_1.1.len ∧ y_1.1.cap = y_1.1.cap ∧ y_1.qlen = y_1.qlen ∧ y_1.qcap = y_1.qcap ∧ y_4.1.1.files = y_4.1.1.files ∧
 y_4.1.1.dirs = y_4.1.1.dirs ∧ 0 = 0 ∧ y_4.1.1.nods.len = y_4.1.1.nods.len ∧ y_4.1.1.nods.len = y_4.1.1.nods.len ∧ 0 = 0 ∧ y_4.1.2.objs.len = y_4.1.2.objs.len ∧ y_4.1.2.objs.len = y_4.1.2.objs.len ∧ 0 = 0 ∧ y_4.1.2.qlen = y_4.1.2.qlen ∧
 y_4.1.2.qlen = y_4.1.2.qlen ∧ y_5.1.1.files = y_5.1.1.files ∧ y_5.1.1.dirs = y_5.1.1.dirs ∧ 0 = 0 ∧ y_5.1.1.nods.len = y_5.1.1.nods.len ∧ y_5.1.1.nods.len = y_5.1.1.nods.len ∧ 0 = 0 ∧ y_5.1.2.objs.len = y_5.1.2.objs.len ∧ y_5.1.2.objs.len
 = y_5.1.2.objs.len ∧ 0 = 0 ∧ y_5.1.2.qlen = y_5.1.2.qlen ∧ y_5.1.2.qlen = y_5.1.2.qlen ∧ y.cap = y.cap ∧ y.K = y.K ∧ y.N = y.N ∧ y.P = y.P ∧ y.S = y.S ∧ y.Z = y.Z ∧ y_1.1.cap = y_1.1.cap ∧ y_1.1.N = y_1.1.N ∧ y_1.1.T = y_1.1.T ∧ y_1.1.B =
 y_1.1.B ∧ y_1.1.O = y_1.1.O ∧ y_1.qcap = y_1.qcap ∧ y_1.q = y_1.q ∧ y_2 = y_2 ∧ encL x = encL x ∧ y_3 = y_3 ∧ encL x_4 = encL x_4 ∧ c = c ∧ ar.tsub (encL x) 0 (↑(encL x).length : Int) = ar.tsub (encL x) 0 (↑(encL x).length : Int) ∧ y_4.2.1
 = y_4.2.1 ∧ setI 99 y_4.1.1.nods.K i = setI 99 y_4.1.1.nods.K i ∧ setI 0 y_4.1.1.nods.N i = setI 0 y_4.1.1.nods.N i ∧ setI 0 y_4.1.1.nods.P i = setI 0 y_4.1.1.nods.P i ∧ setT [] y_4.1.1.nods.S i = setT [] y_4.1.1.nods.S i ∧ setI 0
 y_4.1.1.nods.Z i = setI 0 y_4.1.1.nods.Z i ∧ y_4.2.2.1 = y_4.2.2.1 ∧ setT [] y_4.1.2.objs.N i_1 = setT [] y_4.1.2.objs.N i_1 ∧ setT [] y_4.1.2.objs.T i_1 = setT [] y_4.1.2.objs.T i_1 ∧ setI 0 y_4.1.2.objs.B i_1 = setI 0 y_4.1.2.objs.B i_1
 ∧ setI 99 y_4.1.2.objs.O i_1 = setI 99 y_4.1.2.objs.O i_1 ∧ y_4.2.2.2 = y_4.2.2.2 ∧ y_4.1.2.q = setI 99 y_4.1.2.q i_2 ∧ y_5.2.1 = y_5.2.1 ∧ y_5.1.1.nods.K = y_5.1.1.nods.K ∧ y_5.1.1.nods.N = y_5.1.1.nods.N ∧ y_5.1.1.nods.P = y_5.1.1.nods.P
 ∧ y_5.1.1.nods.S = y_5.1.1.nods.S ∧ y_5.1.1.nods.Z = y_5.1.1.nods.Z ∧ y_5.2.2.1 = y_5.2.2.1 ∧ y_5.1.2.objs.N = y_5.1.2.objs.N ∧ y_5.1.2.objs.T = y_5.1.2.objs.T ∧ y_5.1.2.objs.B = y_5.1.2.objs.B ∧ y_5.1.2.objs.O = y_5.1.2.objs.O ∧ y_5.2.2.2
 = y_5.2.2.2 ∧ y_5.1.2.q = y_5.1.2.q ∧ True) ∧ ∀ i_2 : Nat, Upto y_4.1.2.qlen i_2 → (ar.lt (i_2 : Int) y_4.1.2.qlen → ar.le 0 (i_2 : Int) ∧ ar.lt (i_2 : Int) y_4.1.2.qlen ∧ ar.le 0 0 ∧ ar.le 0 (ar.add 0 (i_2 : Int)) ∧ ar.lt (ar.add 0 (i_2 :
 Int)) (ar.ilen (setI 99 y_4.1.2.q i_2)) ∧ ∀ z : Int, z = ar.wrap .i64 (ar.add (i_2 : Int) 1) → ∃ j : Nat, Upto y_4.1.2.qlen j ∧ (y_4.1.2.qlen.toNat.sub j).lt (y_4.1.2.qlen.toNat.sub i_2) ∧ (↑(encL x).length : Int) = (↑(encL x).length :
 Int) ∧ (↑(encL x).length : Int) = (↑(encL x).length : Int) ∧ (↑(encL x_4).length : Int) = (↑(encL x_4).length : Int) ∧ (↑(encL x_4).length : Int) = (↑(encL x_4).length : Int) ∧ (↑(encL x).length : Int) = (↑(encL x).length : Int) ∧ c = c ∧
 z = (j : Int) ∧ Int.add 1 (x_1.slots.emod 64) = Int.add 1 (x_1.slots.emod 64) ∧ Int.add 1 (x_1.files.emod 64) = Int.add 1 (x_1.files.emod 64) ∧ x_1.dirs.emod 64 = x_1.dirs.emod 64 ∧ x_1.most.emod 65537 = x_1.most.emod 65537 ∧ Int.add 16
 (x_1.least.emod 65521) = Int.add 16 (x_1.least.emod 65521) ∧ Int.add 64 (x_1.page.emod 1024) = Int.add 64 (x_1.page.emod 1024) ∧ x_2.1.files = x_2.1.files ∧ x_2.1.dirs = x_2.1.dirs ∧ y.len = y.len ∧ y.cap = y.cap ∧ y_1.1.len = y_1.1.len ∧
 y_1.1.cap = y_1.1.cap ∧ y_1.qlen = y_1.qlen ∧ y_1.qcap = y_1.qcap ∧ y_4.1.1.files = y_4.1.1.files ∧ y_4.1.1.dirs = y_4.1.1.dirs ∧ 0 = 0 ∧ y_4.1.1.nods.len = y_4.1.1.nods.len ∧ y_4.1.1.nods.len = y_4.1.1.nods.len ∧ 0 = 0 ∧ y_4.1.2.objs.len
 = y_4.1.2.objs.len ∧ y_4.1.2.objs.len = y_4.1.2.objs.len ∧ 0 = 0 ∧ y_4.1.2.qlen = y_4.1.2.qlen ∧ y_4.1.2.qlen = y_4.1.2.qlen ∧ y_5.1.1.files = y_5.1.1.files ∧ y_5.1.1.dirs = y_5.1.1.dirs ∧ 0 = 0 ∧ y_5.1.1.nods.len = y_5.1.1.nods.len ∧
 y_5.1.1.nods.len = y_5.1.1.nods.len ∧ 0 = 0 ∧ y_5.1.2.objs.len = y_5.1.2.objs.len ∧ y_5.1.2.objs.len = y_5.1.2.objs.len ∧ 0 = 0 ∧ y_5.1.2.qlen = y_5.1.2.qlen ∧ y_5.1.2.qlen = y_5.1.2.qlen ∧ y.cap = y.cap ∧ y.K = y.K ∧ y.N = y.N ∧ y.P = y.P
 ∧ y.S = y.S ∧ y.Z = y.Z ∧ y_1.1.cap = y_1.1.cap ∧ y_1.1.N = y_1.1.N ∧ y_1.1.T = y_1.1.T ∧ y_1.1.B = y_1.1.B ∧ y_1.1.O = y_1.1.O ∧ y_1.qcap = y_1.qcap ∧ y_1.q = y_1.q ∧ y_2 = y_2 ∧ encL x = encL x ∧ y_3 = y_3 ∧ encL x_4 = encL x_4 ∧ c = c ∧
 ar.tsub (encL x) 0 (↑(encL x).length : Int) = ar.tsub (encL x) 0 (↑(encL x).length : Int) ∧ y_4.2.1 = y_4.2.1 ∧ setI 99 y_4.1.1.nods.K i = setI 99 y_4.1.1.nods.K i ∧ setI 0 y_4.1.1.nods.N i = setI 0 y_4.1.1.nods.N i ∧ setI 0 y_4.1.1.nods.P
 i = setI 0 y_4.1.1.nods.P i ∧ setT [] y_4.1.1.nods.S i = setT [] y_4.1.1.nods.S i ∧ setI 0 y_4.1.1.nods.Z i = setI 0 y_4.1.1.nods.Z i ∧ y_4.2.2.1 = y_4.2.2.1 ∧ setT [] y_4.1.2.objs.N i_1 = setT [] y_4.1.2.objs.N i_1 ∧ setT []
 y_4.1.2.objs.T i_1 = setT [] y_4.1.2.objs.T i_1 ∧ setI 0 y_4.1.2.objs.B i_1 = setI 0 y_4.1.2.objs.B i_1 ∧ setI 99 y_4.1.2.objs.O i_1 = setI 99 y_4.1.2.objs.O i_1 ∧ y_4.2.2.2 = y_4.2.2.2 ∧ ar.iset (setI 99 y_4.1.2.q i_2) (ar.add 0 (i_2 :
 Int)) 99 = setI 99 y_4.1.2.q j ∧ y_5.2.1 = y_5.2.1 ∧ y_5.1.1.nods.K = y_5.1.1.nods.K ∧ y_5.1.1.nods.N = y_5.1.1.nods.N ∧ y_5.1.1.nods.P = y_5.1.1.nods.P ∧ y_5.1.1.nods.S = y_5.1.1.nods.S ∧ y_5.1.1.nods.Z = y_5.1.1.nods.Z ∧ y_5.2.2.1 =
 y_5.2.2.1 ∧ y_5.1.2.objs.N = y_5.1.2.objs.N ∧ y_5.1.2.objs.T = y_5.1.2.objs.T ∧ y_5.1.2.objs.B = y_5.1.2.objs.B ∧ y_5.1.2.objs.O = y_5.1.2.objs.O ∧ y_5.2.2.2 = y_5.2.2.2 ∧ y_5.1.2.q = y_5.1.2.q ∧ True) ∧ (¬ar.lt (i_2 : Int) y_4.1.2.qlen →
 (∃ i_3 : Nat, Upto (↑(encL x).length : Int) i_3 ∧ (↑(encL x).length : Int) = (↑(encL x).length : Int) ∧ (↑(encL x).length : Int) = (↑(encL x).length : Int) ∧ (↑(encL x_4).length : Int) = (↑(encL x_4).length : Int) ∧ (↑(encL x_4).length :
 Int) = (↑(encL x_4).length : Int) ∧ (↑(encL x).length : Int) = (↑(encL x).length : Int) ∧ c = c ∧ 0 = (i_3 : Int) ∧ Int.add 1 (x_1.slots.emod 64) = Int.add 1 (x_1.slots.emod 64) ∧ Int.add 1 (x_1.files.emod 64) = Int.add 1 (x_1.files.emod
 64) ∧ x_1.dirs.emod 64 = x_1.dirs.emod 64 ∧ x_1.most.emod 65537 = x_1.most.emod 65537 ∧ Int.add 16 (x_1.least.emod 65521) = Int.add 16 (x_1.least.emod 65521) ∧ Int.add 64 (x_1.page.emod 1024) = Int.add 64 (x_1.page.emod 1024) ∧ x_2.1.files
 = x_2.1.files ∧ x_2.1.dirs = x_2.1.dirs ∧ y.len = y.len ∧ y.cap = y.cap ∧ y_1.1.len = y_1.1.len ∧ y_1.1.cap = y_1.1.cap ∧ y_1.qlen = y_1.qlen ∧ y_1.qcap = y_1.qcap ∧ y_4.1.1.files = y_4.1.1.files ∧ y_4.1.1.dirs = y_4.1.1.dirs ∧ 0 = 0 ∧
 y_4.1.1.nods.len = y_4.1.1.nods.len ∧ y_4.1.1.nods.len = y_4.1.1.nods.len ∧ 0 = 0 ∧ y_4.1.2.objs.len = y_4.1.2.objs.len ∧ y_4.1.2.objs.len = y_4.1.2.objs.len ∧ 0 = 0 ∧ y_4.1.2.qlen = y_4.1.2.qlen ∧ y_4.1.2.qlen = y_4.1.2.qlen ∧
 y_5.1.1.files = y_5.1.1.files ∧ y_5.1.1.dirs = y_5.1.1.dirs ∧ 0 = 0 ∧ y_5.1.1.nods.len = y_5.1.1.nods.len ∧ y_5.1.1.nods.len = y_5.1.1.nods.len ∧ 0 = 0 ∧ y_5.1.2.objs.len = y_5.1.2.objs.len ∧ y_5.1.2.objs.len = y_5.1.2.objs.len ∧ 0 = 0 ∧
 y_5.1.2.qlen = y_5.1.2.qlen ∧ y_5.1.2.qlen = y_5.1.2.qlen ∧ y.cap = y.cap ∧ y.K = y.K ∧ y.N = y.N ∧ y.P = y.P ∧ y.S = y.S ∧ y.Z = y.Z ∧ y_1.1.cap = y_1.1.cap ∧ y_1.1.N = y_1.1.N ∧ y_1.1.T = y_1.1.T ∧ y_1.1.B = y_1.1.B ∧ y_1.1.O = y_1.1.O ∧
 y_1.qcap = y_1.qcap ∧ y_1.q = y_1.q ∧ y_2 = y_2 ∧ encL x = setT [UInt8.ofNat 109, UInt8.ofNat 97, UInt8.ofNat 114, UInt8.ofNat 107] (encL x) i_3 ∧ y_3 = y_3 ∧ encL x_4 = encL x_4 ∧ c = c ∧ ar.tsub (encL x) 0 (↑(encL x).length : Int) =
 ar.tsub (encL x) 0 (↑(encL x).length : Int) ∧ y_4.2.1 = y_4.2.1 ∧ setI 99 y_4.1.1.nods.K i = setI 99 y_4.1.1.nods.K i ∧ setI 0 y_4.1.1.nods.N i = setI 0 y_4.1.1.nods.N i ∧ setI 0 y_4.1.1.nods.P i = setI 0 y_4.1.1.nods.P i ∧ setT []
 y_4.1.1.nods.S i = setT [] y_4.1.1.nods.S i ∧ setI 0 y_4.1.1.nods.Z i = setI 0 y_4.1.1.nods.Z i ∧ y_4.2.2.1 = y_4.2.2.1 ∧ setT [] y_4.1.2.objs.N i_1 = setT [] y_4.1.2.objs.N i_1 ∧ setT [] y_4.1.2.objs.T i_1 = setT [] y_4.1.2.objs.T i_1 ∧
 setI 0 y_4.1.2.objs.B i_1 = setI 0 y_4.1.2.objs.B i_1 ∧ setI 99 y_4.1.2.objs.O i_1 = setI 99 y_4.1.2.objs.O i_1 ∧ y_4.2.2.2 = y_4.2.2.2 ∧ setI 99 y_4.1.2.q i_2 = setI 99 y_4.1.2.q i_2 ∧ y_5.2.1 = y_5.2.1 ∧ y_5.1.1.nods.K = y_5.1.1.nods.K ∧
 y_5.1.1.nods.N = y_5.1.1.nods.N ∧ y_5.1.1.nods.P = y_5.1.1.nods.P ∧ y_5.1.1.nods.S = y_5.1.1.nods.S ∧ y_5.1.1.nods.Z = y_5.1.1.nods.Z ∧ y_5.2.2.1 = y_5.2.2.1 ∧ y_5.1.2.objs.N = y_5.1.2.objs.N ∧ y_5.1.2.objs.T = y_5.1.2.objs.T ∧
 y_5.1.2.objs.B = y_5.1.2.objs.B ∧ y_5.1.2.objs.O = y_5.1.2.objs.O ∧ y_5.2.2.2 = y_5.2.2.2 ∧ y_5.1.2.q = y_5.1.2.q ∧ True) ∧ ∀ i_3 : Nat, Upto (↑(encL x).length : Int) i_3 → (ar.lt (i_3 : Int) (↑(encL x).length : Int) → ar.le 0 (i_3 : Int)
 ∧ ar.lt (i_3 : Int) (↑(encL x).length : Int) ∧ ar.le 0 (i_3 : Int) ∧ ar.lt (i_3 : Int) (ar.tlen (setT [UInt8.ofNat 109, UInt8.ofNat 97, UInt8.ofNat 114, UInt8.ofNat 107] (encL x) i_3)) ∧ ∀ z : Int, z = ar.wrap .i64 (ar.add (i_3 : Int) 1) →
 ∃ j : Nat, Upto (↑(encL x).length : Int) j ∧ ((↑(encL x).length : Int).toNat.sub j).lt ((↑(encL x).length : Int).toNat.sub i_3) ∧ (↑(encL x).length : Int) = (↑(encL x).length : Int) ∧ (↑(encL x).length : Int) = (↑(encL x).length : Int) ∧
 (↑(encL x_4).length : Int) = (↑(encL x_4).length : Int) ∧ (↑(encL x_4).length : Int) = (↑(encL x_4).length : Int) ∧ (↑(encL x).length : Int) = (↑(encL x).length : Int) ∧ c = c ∧ z = (j : Int) ∧ Int.add 1 (x_1.slots.emod 64) = Int.add 1
 (x_1.slots.emod 64) ∧ Int.add 1 (x_1.files.emod 64) = Int.add 1 (x_1.files.emod 64) ∧ x_1.dirs.emod 64 = x_1.dirs.emod 64 ∧ x_1.most.emod 65537 = x_1.most.emod 65537 ∧ Int.add 16 (x_1.least.emod 65521) = Int.add 16 (x_1.least.emod 65521) ∧
 Int.add 64 (x_1.page.emod 1024) = Int.add 64 (x_1.page.emod 1024) ∧ x_2.1.files = x_2.1.files ∧ x_2.1.dirs = x_2.1.dirs ∧ y.len = y.len ∧ y.cap = y.cap ∧ y_1.1.len = y_1.1.len ∧ y_1.1.cap = y_1.1.cap ∧ y_1.qlen = y_1.qlen ∧ y_1.qcap =
 y_1.qcap ∧ y_4.1.1.files = y_4.1.1.files ∧ y_4.1.1.dirs = y_4.1.1.dirs ∧ 0 = 0 ∧ y_4.1.1.nods.len = y_4.1.1.nods.len ∧ y_4.1.1.nods.len = y_4.1.1.nods.len ∧ 0 = 0 ∧ y_4.1.2.objs.len = y_4.1.2.objs.len ∧ y_4.1.2.objs.len = y_4.1.2.objs.len
 ∧ 0 = 0 ∧ y_4.1.2.qlen = y_4.1.2.qlen ∧ y_4.1.2.qlen = y_4.1.2.qlen ∧ y_5.1.1.files = y_5.1.1.files ∧ y_5.1.1.dirs = y_5.1.1.dirs ∧ 0 = 0 ∧ y_5.1.1.nods.len = y_5.1.1.nods.len ∧ y_5.1.1.nods.len = y_5.1.1.nods.len ∧ 0 = 0 ∧
 y_5.1.2.objs.len = y_5.1.2.objs.len ∧ y_5.1.2.objs.len = y_5.1.2.objs.len ∧ 0 = 0 ∧ y_5.1.2.qlen = y_5.1.2.qlen ∧ y_5.1.2.qlen = y_5.1.2.qlen ∧ y.cap = y.cap ∧ y.K = y.K ∧ y.N = y.N ∧ y.P = y.P ∧ y.S = y.S ∧ y.Z = y.Z ∧ y_1.1.cap =
 y_1.1.cap ∧ y_1.1.N = y_1.1.N ∧ y_1.1.T = y_1.1.T ∧ y_1.1.B = y_1.1.B ∧ y_1.1.O = y_1.1.O ∧ y_1.qcap = y_1.qcap ∧ y_1.q = y_1.q ∧ y_2 = y_2 ∧ ar.tset (setT [UInt8.ofNat 109, UInt8.ofNat 97, UInt8.ofNat 114, UInt8.ofNat 107] (encL x) i_3)
 (i_3 : Int) [UInt8.ofNat 109, UInt8.ofNat 97, UInt8.ofNat 114, UInt8.ofNat 107] = setT [UInt8.ofNat 109, UInt8.ofNat 97, UInt8.ofNat 114, UInt8.ofNat 107] (encL x) j ∧ y_3 = y_3 ∧ encL x_4 = encL x_4 ∧ c = c ∧ ar.tsub (encL x) 0 (↑(encL
 x).length : Int) = ar.tsub (encL x) 0 (↑(encL x).length : Int) ∧ y_4.2.1 = y_4.2.1 ∧ setI 99 y_4.1.1.nods.K i = setI 99 y_4.1.1.nods.K i ∧ setI 0 y_4.1.1.nods.N i = setI 0 y_4.1.1.nods.N i ∧ setI 0 y_4.1.1.nods.P i = setI 0 y_4.1.1.nods.P
 i ∧ setT [] y_4.1.1.nods.S i = setT [] y_4.1.1.nods.S i ∧ setI 0 y_4.1.1.nods.Z i = setI 0 y_4.1.1.nods.Z i ∧ y_4.2.2.1 = y_4.2.2.1 ∧ setT [] y_4.1.2.objs.N i_1 = setT [] y_4.1.2.objs.N i_1 ∧ setT [] y_4.1.2.objs.T i_1 = setT []
 y_4.1.2.objs.T i_1 ∧ setI 0 y_4.1.2.objs.B i_1 = setI 0 y_4.1.2.objs.B i_1 ∧ setI 99 y_4.1.2.objs.O i_1 = setI 99 y_4.1.2.objs.O i_1 ∧ y_4.2.2.2 = y_4.2.2.2 ∧ setI 99 y_4.1.2.q i_2 = setI 99 y_4.1.2.q i_2 ∧ y_5.2.1 = y_5.2.1 ∧
 y_5.1.1.nods.K = y_5.1.1.nods.K ∧ y_5.1.1.nods.N = y_5.1.1.nods.N ∧ y_5.1.1.nods.P = y_5.1.1.nods.P ∧ y_5.1.1.nods.S = y_5.1.1.nods.S ∧ y_5.1.1.nods.Z = y_5.1.1.nods.Z ∧ y_5.2.2.1 = y_5.2.2.1 ∧ y_5.1.2.objs.N = y_5.1.2.objs.N ∧
 y_5.1.2.objs.T = y_5.1.2.objs.T ∧ y_5.1.2.objs.B = y_5.1.2.objs.B ∧ y_5.1.2.objs.O = y_5.1.2.objs.O ∧ y_5.2.2.2 = y_5.2.2.2 ∧ y_5.1.2.q = y_5.1.2.q ∧ True) ∧ (¬ar.lt (i_3 : Int) (↑(encL x).length : Int) → ar.le 0 0 ∧ ar.le (ar.add 0
 y_4.1.1.nods.len) (ar.ilen (setI 99 y_4.1.1.nods.K i)) ∧ ar.le (ar.add 0 y_4.1.1.nods.len) (ar.ilen (setI 0 y_4.1.1.nods.N i)) ∧ ar.le (ar.add 0 y_4.1.1.nods.len) (ar.ilen (setI 0 y_4.1.1.nods.P i)) ∧ ar.le (ar.add 0 y_4.1.1.nods.len)
 (ar.tlen (setT [] y_4.1.1.nods.S i)) ∧ ar.le (ar.add 0 y_4.1.1.nods.len) (ar.ilen (setI 0 y_4.1.1.nods.Z i)) ∧ ar.le (ar.add y_4.1.1.nods.len 1) (ar.add y_4.1.1.nods.len 1) ∧ ar.le (ar.mul (ar.add y_4.1.1.nods.len 1) 48) 140737488355328 ∧
 ∀ c_1 : Int, ar.le (ar.add y_4.1.1.nods.len 1) c_1 → ar.le 0 0 ∧ ar.le (ar.add 0 y_4.1.2.objs.len) (ar.tlen (setT [] y_4.1.2.objs.N i_1)) ∧ ar.le (ar.add 0 y_4.1.2.objs.len) (ar.tlen (setT [] y_4.1.2.objs.T i_1)) ∧ ar.le (ar.add 0
 y_4.1.2.objs.len) (ar.ilen (setI 0 y_4.1.2.objs.B i_1)) ∧ ar.le (ar.add 0 y_4.1.2.objs.len) (ar.ilen (setI 99 y_4.1.2.objs.O i_1)) ∧ ar.le (ar.add y_4.1.2.objs.len 1) (ar.add y_4.1.2.objs.len 1) ∧ ar.le (ar.mul (ar.add y_4.1.2.objs.len 1)
 48) 140737488355328 ∧ ∀ c_2 : Int, ar.le (ar.add y_4.1.2.objs.len 1) c_2 → ar.le 0 0 ∧ ar.le (ar.add 0 y_4.1.2.qlen) (ar.ilen (setI 99 y_4.1.2.q i_2)) ∧ ar.le (ar.add y_4.1.2.qlen 1) (ar.add y_4.1.2.qlen 1) ∧ ar.le (ar.mul (ar.add
 y_4.1.2.qlen 1) 8) 140737488355328 ∧ ∀ c_3 : Int, ar.le (ar.add y_4.1.2.qlen 1) c_3 → (∃ i_4 : Nat × Int × Int × Int, Upto4 64 (ar.add y_4.1.1.nods.len 1) (ar.add y_4.1.2.objs.len 1) (ar.add y_4.1.2.qlen 1) i_4 ∧ (↑(encL x_4).length : Int)
 = (↑(encL x_4).length : Int) ∧ (↑(encL x_4).length : Int) = (↑(encL x_4).length : Int) ∧ (↑(encL x).length : Int) = (↑(encL x).length : Int) ∧ c = c ∧ ar.add y_4.1.1.nods.len 1 = (ar.add y_4.1.1.nods.len 1).add (↑i_4.1 : Int) ∧ c_1 =
 i_4.2.1 ∧ ar.add y_4.1.2.objs.len 1 = (ar.add y_4.1.2.objs.len 1).add (↑i_4.1 : Int) ∧ c_2 = i_4.2.2.1 ∧ ar.add y_4.1.2.qlen 1 = (ar.add y_4.1.2.qlen 1).add (↑i_4.1 : Int) ∧ c_3 = i_4.2.2.2 ∧ 0 = (↑i_4.1 : Int) ∧ Int.add 1 (x_1.slots.emod
 64) = Int.add 1 (x_1.slots.emod 64) ∧ Int.add 1 (x_1.files.emod 64) = Int.add 1 (x_1.files.emod 64) ∧ x_1.dirs.emod 64 = x_1.dirs.emod 64 ∧ x_1.most.emod 65537 = x_1.most.emod 65537 ∧ Int.add 16 (x_1.least.emod 65521) = Int.add 16
 (x_1.least.emod 65521) ∧ Int.add 64 (x_1.page.emod 1024) = Int.add 64 (x_1.page.emod 1024) ∧ x_2.1.files = x_2.1.files ∧ x_2.1.dirs = x_2.1.dirs ∧ y.len = y.len ∧ y.cap = y.cap ∧ y_1.1.len = y_1.1.len ∧ y_1.1.cap = y_1.1.cap ∧ y_1.qlen =
 y_1.qlen ∧ y_1.qcap = y_1.qcap ∧ y_4.1.1.files = y_4.1.1.files ∧ y_4.1.1.dirs = y_4.1.1.dirs ∧ 0 = 0 ∧ y_4.1.1.nods.len = y_4.1.1.nods.len ∧ y_4.1.1.nods.len = y_4.1.1.nods.len ∧ 0 = 0 ∧ y_4.1.2.objs.len = y_4.1.2.objs.len ∧
 y_4.1.2.objs.len = y_4.1.2.objs.len ∧ 0 = 0 ∧ y_4.1.2.qlen = y_4.1.2.qlen ∧ y_4.1.2.qlen = y_4.1.2.qlen ∧ y_5.1.1.files = y_5.1.1.files ∧ y_5.1.1.dirs = y_5.1.1.dirs ∧ 0 = 0 ∧ y_5.1.1.nods.len = y_5.1.1.nods.len ∧ y_5.1.1.nods.len =
 y_5.1.1.nods.len ∧ 0 = 0 ∧ y_5.1.2.objs.len = y_5.1.2.objs.len ∧ y_5.1.2.objs.len = y_5.1.2.objs.len ∧ 0 = 0 ∧ y_5.1.2.qlen = y_5.1.2.qlen ∧ y_5.1.2.qlen = y_5.1.2.qlen ∧ y.cap = y.cap ∧ y.K = y.K ∧ y.N = y.N ∧ y.P = y.P ∧ y.S = y.S ∧ y.Z
 = y.Z ∧ y_1.1.cap = y_1.1.cap ∧ y_1.1.N = y_1.1.N ∧ y_1.1.T = y_1.1.T ∧ y_1.1.B = y_1.1.B ∧ y_1.1.O = y_1.1.O ∧ y_1.qcap = y_1.qcap ∧ y_1.q = y_1.q ∧ y_3 = y_3 ∧ encL x_4 = encL x_4 ∧ c = c ∧ ar.tsub (encL x) 0 (↑(encL x).length : Int) =
 ar.tsub (encL x) 0 (↑(encL x).length : Int) ∧ y_4.2.1 = y_4.2.1 ∧ setI 99 y_4.1.1.nods.K i = setI 99 y_4.1.1.nods.K i ∧ setI 0 y_4.1.1.nods.N i = setI 0 y_4.1.1.nods.N i ∧ setI 0 y_4.1.1.nods.P i = setI 0 y_4.1.1.nods.P i ∧ setT []
 y_4.1.1.nods.S i = setT [] y_4.1.1.nods.S i ∧ setI 0 y_4.1.1.nods.Z i = setI 0 y_4.1.1.nods.Z i ∧ y_4.2.2.1 = y_4.2.2.1 ∧ setT [] y_4.1.2.objs.N i_1 = setT [] y_4.1.2.objs.N i_1 ∧ setT [] y_4.1.2.objs.T i_1 = setT [] y_4.1.2.objs.T i_1 ∧
 setI 0 y_4.1.2.objs.B i_1 = setI 0 y_4.1.2.objs.B i_1 ∧ setI 99 y_4.1.2.objs.O i_1 = setI 99 y_4.1.2.objs.O i_1 ∧ y_4.2.2.2 = y_4.2.2.2 ∧ setI 99 y_4.1.2.q i_2 = setI 99 y_4.1.2.q i_2 ∧ y_5.2.1 = y_5.2.1 ∧ y_5.1.1.nods.K = y_5.1.1.nods.K ∧
 y_5.1.1.nods.N = y_5.1.1.nods.N ∧ y_5.1.1.nods.P = y_5.1.1.nods.P ∧ y_5.1.1.nods.S = y_5.1.1.nods.S ∧ y_5.1.1.nods.Z = y_5.1.1.nods.Z ∧ y_5.2.2.1 = y_5.2.2.1 ∧ y_5.1.2.objs.N = y_5.1.2.objs.N ∧ y_5.1.2.objs.T = y_5.1.2.objs.T ∧
 y_5.1.2.objs.B = y_5.1.2.objs.B ∧ y_5.1.2.objs.O = y_5.1.2.objs.O ∧ y_5.2.2.2 = y_5.2.2.2 ∧ y_5.1.2.q = y_5.1.2.q ∧ c_1 = i_4.2.1 ∧ ar.iapp (ar.isub (setI 99 y_4.1.1.nods.K i) 0 y_4.1.1.nods.len) [98] = addI 98 (ar.iapp (ar.isub (setI 99
 y_4.1.1.nods.K i) 0 y_4.1.1.nods.len) [98]) i_4.1 ∧ ar.iapp (ar.isub (setI 0 y_4.1.1.nods.N i) 0 y_4.1.1.nods.len) [0] = addI 0 (ar.iapp (ar.isub (setI 0 y_4.1.1.nods.N i) 0 y_4.1.1.nods.len) [0]) i_4.1 ∧ ar.iapp (ar.isub (setI 0
 y_4.1.1.nods.P i) 0 y_4.1.1.nods.len) [0] = addI 0 (ar.iapp (ar.isub (setI 0 y_4.1.1.nods.P i) 0 y_4.1.1.nods.len) [0]) i_4.1 ∧ ar.tapp (ar.tsub (setT [] y_4.1.1.nods.S i) 0 y_4.1.1.nods.len) [[]] = addT [] (ar.tapp (ar.tsub (setT []
 y_4.1.1.nods.S i) 0 y_4.1.1.nods.len) [[]]) i_4.1 ∧ ar.iapp (ar.isub (setI 0 y_4.1.1.nods.Z i) 0 y_4.1.1.nods.len) [0] = addI 0 (ar.iapp (ar.isub (setI 0 y_4.1.1.nods.Z i) 0 y_4.1.1.nods.len) [0]) i_4.1 ∧ c_2 = i_4.2.2.1 ∧ ar.tapp (ar.tsub
 (setT [] y_4.1.2.objs.N i_1) 0 y_4.1.2.objs.len) [[]] = addT [] (ar.tapp (ar.tsub (setT [] y_4.1.2.objs.N i_1) 0 y_4.1.2.objs.len) [[]]) i_4.1 ∧ ar.tapp (ar.tsub (setT [] y_4.1.2.objs.T i_1) 0 y_4.1.2.objs.len) [[]] = addT [] (ar.tapp
 (ar.tsub (setT [] y_4.1.2.objs.T i_1) 0 y_4.1.2.objs.len) [[]]) i_4.1 ∧ ar.iapp (ar.isub (setI 0 y_4.1.2.objs.B i_1) 0 y_4.1.2.objs.len) [0] = addI 0 (ar.iapp (ar.isub (setI 0 y_4.1.2.objs.B i_1) 0 y_4.1.2.objs.len) [0]) i_4.1 ∧ ar.iapp
 (ar.isub (setI 99 y_4.1.2.objs.O i_1) 0 y_4.1.2.objs.len) [98] = addI 98 (ar.iapp (ar.isub (setI 99 y_4.1.2.objs.O i_1) 0 y_4.1.2.objs.len) [98]) i_4.1 ∧ c_3 = i_4.2.2.2 ∧ ar.iapp (ar.isub (setI 99 y_4.1.2.q i_2) 0 y_4.1.2.qlen) [98] =
 addI 98 (ar.iapp (ar.isub (setI 99 y_4.1.2.q i_2) 0 y_4.1.2.qlen) [98]) i_4.1 ∧ True) ∧ ∀ i_4 : Nat × Int × Int × Int, Upto4 64 (ar.add y_4.1.1.nods.len 1) (ar.add y_4.1.2.objs.len 1) (ar.add y_4.1.2.qlen 1) i_4 → (ar.lt (↑i_4.1 : Int) 64
 → ar.le (ar.add 0 ((ar.add y_4.1.1.nods.len 1).add (↑i_4.1 : Int))) (ar.ilen (addI 98 (ar.iapp (ar.isub (setI 99 y_4.1.1.nods.K i) 0 y_4.1.1.nods.len) [98]) i_4.1)) ∧ ar.le (ar.add 0 ((ar.add y_4.1.1.nods.len 1).add (↑i_4.1 : Int)))
 (ar.ilen (addI 0 (ar.iapp (ar.isub (setI 0 y_4.1.1.nods.N i) 0 y_4.1.1.nods.len) [0]) i_4.1)) ∧ ar.le (ar.add 0 ((ar.add y_4.1.1.nods.len 1).add (↑i_4.1 : Int))) (ar.ilen (addI 0 (ar.iapp (ar.isub (setI 0 y_4.1.1.nods.P i) 0
 y_4.1.1.nods.len) [0]) i_4.1)) ∧ ar.le (ar.add 0 ((ar.add y_4.1.1.nods.len 1).add (↑i_4.1 : Int))) (ar.tlen (addT [] (ar.tapp (ar.tsub (setT [] y_4.1.1.nods.S i) 0 y_4.1.1.nods.len) [[]]) i_4.1)) ∧ ar.le (ar.add 0 ((ar.add y_4.1.1.nods.len
 1).add (↑i_4.1 : Int))) (ar.ilen (addI 0 (ar.iapp (ar.isub (setI 0 y_4.1.1.nods.Z i) 0 y_4.1.1.nods.len) [0]) i_4.1)) ∧ i_4.2.1 = i_4.2.1 ∧ ar.le (ar.mul (ar.add ((ar.add y_4.1.1.nods.len 1).add (↑i_4.1 : Int)) 1) 48) 140737488355328 ∧ ∀
 c_4 : Int, ar.le (ar.add ((ar.add y_4.1.1.nods.len 1).add (↑i_4.1 : Int)) 1) c_4 → ar.le (ar.add 0 ((ar.add y_4.1.2.objs.len 1).add (↑i_4.1 : Int))) (ar.tlen (addT [] (ar.tapp (ar.tsub (setT [] y_4.1.2.objs.N i_1) 0 y_4.1.2.objs.len) [[]])
 i_4.1)) ∧ ar.le (ar.add 0 ((ar.add y_4.1.2.objs.len 1).add (↑i_4.1 : Int))) (ar.tlen (addT [] (ar.tapp (ar.tsub (setT [] y_4.1.2.objs.T i_1) 0 y_4.1.2.objs.len) [[]]) i_4.1)) ∧ ar.le (ar.add 0 ((ar.add y_4.1.2.objs.len 1).add (↑i_4.1 :
 Int))) (ar.ilen (addI 0 (ar.iapp (ar.isub (setI 0 y_4.1.2.objs.B i_1) 0 y_4.1.2.objs.len) [0]) i_4.1)) ∧ ar.le (ar.add 0 ((ar.add y_4.1.2.objs.len 1).add (↑i_4.1 : Int))) (ar.ilen (addI 98 (ar.iapp (ar.isub (setI 99 y_4.1.2.objs.O i_1) 0
 y_4.1.2.objs.len) [98]) i_4.1)) ∧ i_4.2.2.1 = i_4.2.2.1 ∧ ar.le (ar.mul (ar.add ((ar.add y_4.1.2.objs.len 1).add (↑i_4.1 : Int)) 1) 48) 140737488355328 ∧ ∀ c_5 : Int, ar.le (ar.add ((ar.add y_4.1.2.objs.len 1).add (↑i_4.1 : Int)) 1) c_5 →
 ar.le (ar.add 0 ((ar.add y_4.1.2.qlen 1).add (↑i_4.1 : Int))) (ar.ilen (addI 98 (ar.iapp (ar.isub (setI 99 y_4.1.2.q i_2) 0 y_4.1.2.qlen) [98]) i_4.1)) ∧ i_4.2.2.2 = i_4.2.2.2 ∧ ar.le (ar.mul (ar.add ((ar.add y_4.1.2.qlen 1).add (↑i_4.1 :
 Int)) 1) 8) 140737488355328 ∧ ∀ c_6 : Int, ar.le (ar.add ((ar.add y_4.1.2.qlen 1).add (↑i_4.1 : Int)) 1) c_6 → ∀ z : Int, z = ar.wrap .i64 (ar.add (↑i_4.1 : Int) 1) → ∃ j : Nat × Int × Int × Int, Upto4 64 (ar.add y_4.1.1.nods.len 1)
 (ar.add y_4.1.2.objs.len 1) (ar.add y_4.1.2.qlen 1) j ∧ (Nat.sub 64 j.1).lt (Nat.sub 64 i_4.1) ∧ (↑(encL x_4).length : Int) = (↑(encL x_4).length : Int) ∧ (↑(encL x_4).length : Int) = (↑(encL x_4).length : Int) ∧ (↑(encL x).length : Int) =
 (↑(encL x).length : Int) ∧ c = c ∧ ar.add ((ar.add y_4.1.1.nods.len 1).add (↑i_4.1 : Int)) 1 = (ar.add y_4.1.1.nods.len 1).add (↑j.1 : Int) ∧ c_4 = j.2.1 ∧ ar.add ((ar.add y_4.1.2.objs.len 1).add (↑i_4.1 : Int)) 1 = (ar.add
 y_4.1.2.objs.len 1).add (↑j.1 : Int) ∧ c_5 = j.2.2.1 ∧ ar.add ((ar.add y_4.1.2.qlen 1).add (↑i_4.1 : Int)) 1 = (ar.add y_4.1.2.qlen 1).add (↑j.1 : Int) ∧ c_6 = j.2.2.2 ∧ z = (↑j.1 : Int) ∧ Int.add 1 (x_1.slots.emod 64) = Int.add 1
 (x_1.slots.emod 64) ∧ Int.add 1 (x_1.files.emod 64) = Int.add 1 (x_1.files.emod 64) ∧ x_1.dirs.emod 64 = x_1.dirs.emod 64 ∧ x_1.most.emod 65537 = x_1.most.emod 65537 ∧ Int.add 16 (x_1.least.emod 65521) = Int.add 16 (x_1.least.emod 65521) ∧
 Int.add 64 (x_1.page.emod 1024) = Int.add 64 (x_1.page.emod 1024) ∧ x_2.1.files = x_2.1.files ∧ x_2.1.dirs = x_2.1.dirs ∧ y.len = y.len ∧ y.cap = y.cap ∧ y_1.1.len = y_1.1.len ∧ y_1.1.cap = y_1.1.cap ∧ y_1.qlen = y_1.qlen ∧ y_1.qcap =
 y_1.qcap ∧ y_4.1.1.files = y_4.1.1.files ∧ y_4.1.1.dirs = y_4.1.1.dirs ∧ 0 = 0 ∧ y_4.1.1.nods.len = y_4.1.1.nods.len ∧ y_4.1.1.nods.len = y_4.1.1.nods.len ∧ 0 = 0 ∧ y_4.1.2.objs.len = y_4.1.2.objs.len ∧ y_4.1.2.objs.len = y_4.1.2.objs.len
 ∧ 0 = 0 ∧ y_4.1.2.qlen = y_4.1.2.qlen ∧ y_4.1.2.qlen = y_4.1.2.qlen ∧ y_5.1.1.files = y_5.1.1.files ∧ y_5.1.1.dirs = y_5.1.1.dirs ∧ 0 = 0 ∧ y_5.1.1.nods.len = y_5.1.1.nods.len ∧ y_5.1.1.nods.len = y_5.1.1.nods.len ∧ 0 = 0 ∧
 y_5.1.2.objs.len = y_5.1.2.objs.len ∧ y_5.1.2.objs.len = y_5.1.2.objs.len ∧ 0 = 0 ∧ y_5.1.2.qlen = y_5.1.2.qlen ∧ y_5.1.2.qlen = y_5.1.2.qlen ∧ y.cap = y.cap ∧ y.K = y.K ∧ y.N = y.N ∧ y.P = y.P ∧ y.S = y.S ∧ y.Z = y.Z ∧ y_1.1.cap =
 y_1.1.cap ∧ y_1.1.N = y_1.1.N ∧ y_1.1.T = y_1.1.T ∧ y_1.1.B = y_1.1.B ∧ y_1.1.O = y_1.1.O ∧ y_1.qcap = y_1.qcap ∧ y_1.q = y_1.q ∧ y_3 = y_3 ∧ encL x_4 = encL x_4 ∧ c = c ∧ ar.tsub (encL x) 0 (↑(encL x).length : Int) = ar.tsub (encL x) 0
 (↑(encL x).length : Int) ∧ y_4.2.1 = y_4.2.1 ∧ setI 99 y_4.1.1.nods.K i = setI 99 y_4.1.1.nods.K i ∧ setI 0 y_4.1.1.nods.N i = setI 0 y_4.1.1.nods.N i ∧ setI 0 y_4.1.1.nods.P i = setI 0 y_4.1.1.nods.P i ∧ setT [] y_4.1.1.nods.S i = setT []
 y_4.1.1.nods.S i ∧ setI 0 y_4.1.1.nods.Z i = setI 0 y_4.1.1.nods.Z i ∧ y_4.2.2.1 = y_4.2.2.1 ∧ setT [] y_4.1.2.objs.N i_1 = setT [] y_4.1.2.objs.N i_1 ∧ setT [] y_4.1.2.objs.T i_1 = setT [] y_4.1.2.objs.T i_1 ∧ setI 0 y_4.1.2.objs.B i_1 =
 setI 0 y_4.1.2.objs.B i_1 ∧ setI 99 y_4.1.2.objs.O i_1 = setI 99 y_4.1.2.objs.O i_1 ∧ y_4.2.2.2 = y_4.2.2.2 ∧ setI 99 y_4.1.2.q i_2 = setI 99 y_4.1.2.q i_2 ∧ y_5.2.1 = y_5.2.1 ∧ y_5.1.1.nods.K = y_5.1.1.nods.K ∧ y_5.1.1.nods.N =
 y_5.1.1.nods.N ∧ y_5.1.1.nods.P = y_5.1.1.nods.P ∧ y_5.1.1.nods.S = y_5.1.1.nods.S ∧ y_5.1.1.nods.Z = y_5.1.1.nods.Z ∧ y_5.2.2.1 = y_5.2.2.1 ∧ y_5.1.2.objs.N = y_5.1.2.objs.N ∧ y_5.1.2.objs.T = y_5.1.2.objs.T ∧ y_5.1.2.objs.B =
 y_5.1.2.objs.B ∧ y_5.1.2.objs.O = y_5.1.2.objs.O ∧ y_5.2.2.2 = y_5.2.2.2 ∧ y_5.1.2.q = y_5.1.2.q ∧ c_4 = j.2.1 ∧ ar.iapp (ar.isub (addI 98 (ar.iapp (ar.isub (setI 99 y_4.1.1.nods.K i) 0 y_4.1.1.nods.len) [98]) i_4.1) 0 ((ar.add
 y_4.1.1.nods.len 1).add (↑i_4.1 : Int))) [98] = addI 98 (ar.iapp (ar.isub (setI 99 y_4.1.1.nods.K i) 0 y_4.1.1.nods.len) [98]) j.1 ∧ ar.iapp (ar.isub (addI 0 (ar.iapp (ar.isub (setI 0 y_4.1.1.nods.N i) 0 y_4.1.1.nods.len) [0]) i_4.1) 0
 ((ar.add y_4.1.1.nods.len 1).add (↑i_4.1 : Int))) [0] = addI 0 (ar.iapp (ar.isub (setI 0 y_4.1.1.nods.N i) 0 y_4.1.1.nods.len) [0]) j.1 ∧ ar.iapp (ar.isub (addI 0 (ar.iapp (ar.isub (setI 0 y_4.1.1.nods.P i) 0 y_4.1.1.nods.len) [0]) i_4.1)
 0 ((ar.add y_4.1.1.nods.len 1).add (↑i_4.1 : Int))) [0] = addI 0 (ar.iapp (ar.isub (setI 0 y_4.1.1.nods.P i) 0 y_4.1.1.nods.len) [0]) j.1 ∧ ar.tapp (ar.tsub (addT [] (ar.tapp (ar.tsub (setT [] y_4.1.1.nods.S i) 0 y_4.1.1.nods.len) [[]])
 i_4.1) 0 ((ar.add y_4.1.1.nods.len 1).add (↑i_4.1 : Int))) [[]] = addT [] (ar.tapp (ar.tsub (setT [] y_4.1.1.nods.S i) 0 y_4.1.1.nods.len) [[]]) j.1 ∧ ar.iapp (ar.isub (addI 0 (ar.iapp (ar.isub (setI 0 y_4.1.1.nods.Z i) 0 y_4.1.1.nods.len)
 [0]) i_4.1) 0 ((ar.add y_4.1.1.nods.len 1).add (↑i_4.1 : Int))) [0] = addI 0 (ar.iapp (ar.isub (setI 0 y_4.1.1.nods.Z i) 0 y_4.1.1.nods.len) [0]) j.1 ∧ c_5 = j.2.2.1 ∧ ar.tapp (ar.tsub (addT [] (ar.tapp (ar.tsub (setT [] y_4.1.2.objs.N
 i_1) 0 y_4.1.2.objs.len) [[]]) i_4.1) 0 ((ar.add y_4.1.2.objs.len 1).add (↑i_4.1 : Int))) [[]] = addT [] (ar.tapp (ar.tsub (setT [] y_4.1.2.objs.N i_1) 0 y_4.1.2.objs.len) [[]]) j.1 ∧ ar.tapp (ar.tsub (addT [] (ar.tapp (ar.tsub (setT []
 y_4.1.2.objs.T i_1) 0 y_4.1.2.objs.len) [[]]) i_4.1) 0 ((ar.add y_4.1.2.objs.len 1).add (↑i_4.1 : Int))) [[]] = addT [] (ar.tapp (ar.tsub (setT [] y_4.1.2.objs.T i_1) 0 y_4.1.2.objs.len) [[]]) j.1 ∧ ar.iapp (ar.isub (addI 0 (ar.iapp
 (ar.isub (setI 0 y_4.1.2.objs.B i_1) 0 y_4.1.2.objs.len) [0]) i_4.1) 0 ((ar.add y_4.1.2.objs.len 1).add (↑i_4.1 : Int))) [0] = addI 0 (ar.iapp (ar.isub (setI 0 y_4.1.2.objs.B i_1) 0 y_4.1.2.objs.len) [0]) j.1 ∧ ar.iapp (ar.isub (addI 98
 (ar.iapp (ar.isub (setI 99 y_4.1.2.objs.O i_1) 0 y_4.1.2.objs.len) [98]) i_4.1) 0 ((ar.add y_4.1.2.objs.len 1).add (↑i_4.1 : Int))) [98] = addI 98 (ar.iapp (ar.isub (setI 99 y_4.1.2.objs.O i_1) 0 y_4.1.2.objs.len) [98]) j.1 ∧ c_6 = j.2.2.2
 ∧ ar.iapp (ar.isub (addI 98 (ar.iapp (ar.isub (setI 99 y_4.1.2.q i_2) 0 y_4.1.2.qlen) [98]) i_4.1) 0 ((ar.add y_4.1.2.qlen 1).add (↑i_4.1 : Int))) [98] = addI 98 (ar.iapp (ar.isub (setI 99 y_4.1.2.q i_2) 0 y_4.1.2.qlen) [98]) j.1 ∧ True) ∧
 (¬ar.lt (↑i_4.1 : Int) 64 → (∃ i_5 : Nat, Upto y_4.1.1.nods.len i_5 ∧ (↑(encL x_4).length : Int) = (↑(encL x_4).length : Int) ∧ (↑(encL x_4).length : Int) = (↑(encL x_4).length : Int) ∧ (↑(encL x).length : Int) = (↑(encL x).length : Int) ∧
 c = c ∧ (ar.add y_4.1.1.nods.len 1).add (↑i_4.1 : Int) = (ar.add y_4.1.1.nods.len 1).add (↑i_4.1 : Int) ∧ i_4.2.1 = i_4.2.1 ∧ (ar.add y_4.1.2.objs.len 1).add (↑i_4.1 : Int) = (ar.add y_4.1.2.objs.len 1).add (↑i_4.1 : Int) ∧ i_4.2.2.1 =
 i_4.2.2.1 ∧ (ar.add y_4.1.2.qlen 1).add (↑i_4.1 : Int) = (ar.add y_4.1.2.qlen 1).add (↑i_4.1 : Int) ∧ i_4.2.2.2 = i_4.2.2.2 ∧ 0 = (i_5 : Int) ∧ Int.add 1 (x_1.slots.emod 64) = Int.add 1 (x_1.slots.emod 64) ∧ Int.add 1 (x_1.files.emod 64) =
 Int.add 1 (x_1.files.emod 64) ∧ x_1.dirs.emod 64 = x_1.dirs.emod 64 ∧ x_1.most.emod 65537 = x_1.most.emod 65537 ∧ Int.add 16 (x_1.least.emod 65521) = Int.add 16 (x_1.least.emod 65521) ∧ Int.add 64 (x_1.page.emod 1024) = Int.add 64
 (x_1.page.emod 1024) ∧ x_2.1.files = x_2.1.files ∧ x_2.1.dirs = x_2.1.dirs ∧ y.len = y.len ∧ y.cap = y.cap ∧ y_1.1.len = y_1.1.len ∧ y_1.1.cap = y_1.1.cap ∧ y_1.qlen = y_1.qlen ∧ y_1.qcap = y_1.qcap ∧ y_4.1.1.files = y_4.1.1.files ∧
 y_4.1.1.dirs = y_4.1.1.dirs ∧ 0 = 0 ∧ y_4.1.1.nods.len = y_4.1.1.nods.len ∧ y_4.1.1.nods.len = y_4.1.1.nods.len ∧ 0 = 0 ∧ y_4.1.2.objs.len = y_4.1.2.objs.len ∧ y_4.1.2.objs.len = y_4.1.2.objs.len ∧ 0 = 0 ∧ y_4.1.2.qlen = y_4.1.2.qlen ∧
 y_4.1.2.qlen = y_4.1.2.qlen ∧ y_5.1.1.files = y_5.1.1.files ∧ y_5.1.1.dirs = y_5.1.1.dirs ∧ 0 = 0 ∧ y_5.1.1.nods.len = y_5.1.1.nods.len ∧ y_5.1.1.nods.len = y_5.1.1.nods.len ∧ 0 = 0 ∧ y_5.1.2.objs.len = y_5.1.2.objs.len ∧ y_5.1.2.objs.len
 = y_5.1.2.objs.len ∧ 0 = 0 ∧ y_5.1.2.qlen = y_5.1.2.qlen ∧ y_5.1.2.qlen = y_5.1.2.qlen ∧ y.cap = y.cap ∧ y.K = y.K ∧ y.N = y.N ∧ y.P = y.P ∧ y.S = y.S ∧ y.Z = y.Z ∧ y_1.1.cap = y_1.1.cap ∧ y_1.1.N = y_1.1.N ∧ y_1.1.T = y_1.1.T ∧ y_1.1.B =
 y_1.1.B ∧ y_1.1.O = y_1.1.O ∧ y_1.qcap = y_1.qcap ∧ y_1.q = y_1.q ∧ y_3 = y_3 ∧ encL x_4 = encL x_4 ∧ c = c ∧ ar.tsub (encL x) 0 (↑(encL x).length : Int) = ar.tsub (encL x) 0 (↑(encL x).length : Int) ∧ y_4.2.1 = y_4.2.1 ∧ setI 99
 y_4.1.1.nods.K i = setI 99 y_4.1.1.nods.K i ∧ setI 0 y_4.1.1.nods.N i = setI 0 y_4.1.1.nods.N i ∧ setI 0 y_4.1.1.nods.P i = setI 0 y_4.1.1.nods.P i ∧ setT [] y_4.1.1.nods.S i = setT [] y_4.1.1.nods.S i ∧ setI 0 y_4.1.1.nods.Z i = setI 0
 y_4.1.1.nods.Z i ∧ y_4.2.2.1 = y_4.2.2.1 ∧ setT [] y_4.1.2.objs.N i_1 = setT [] y_4.1.2.objs.N i_1 ∧ setT [] y_4.1.2.objs.T i_1 = setT [] y_4.1.2.objs.T i_1 ∧ setI 0 y_4.1.2.objs.B i_1 = setI 0 y_4.1.2.objs.B i_1 ∧ setI 99 y_4.1.2.objs.O
 i_1 = setI 99 y_4.1.2.objs.O i_1 ∧ y_4.2.2.2 = y_4.2.2.2 ∧ setI 99 y_4.1.2.q i_2 = setI 99 y_4.1.2.q i_2 ∧ y_5.2.1 = y_5.2.1 ∧ y_5.1.1.nods.K = y_5.1.1.nods.K ∧ y_5.1.1.nods.N = y_5.1.1.nods.N ∧ y_5.1.1.nods.P = y_5.1.1.nods.P ∧
 y_5.1.1.nods.S = y_5.1.1.nods.S ∧ y_5.1.1.nods.Z = y_5.1.1.nods.Z ∧ y_5.2.2.1 = y_5.2.2.1 ∧ y_5.1.2.objs.N = y_5.1.2.objs.N ∧ y_5.1.2.objs.T = y_5.1.2.objs.T ∧ y_5.1.2.objs.B = y_5.1.2.objs.B ∧ y_5.1.2.objs.O = y_5.1.2.objs.O ∧ y_5.2.2.2 =
 y_5.2.2.2 ∧ y_5.1.2.q = y_5.1.2.q ∧ i_4.2.1 = i_4.2.1 ∧ addI 98 (ar.iapp (ar.isub (setI 99 y_4.1.1.nods.K i) 0 y_4.1.1.nods.len) [98]) i_4.1 = addI 98 (ar.iapp (ar.isub (setI 99 y_4.1.1.nods.K i) 0 y_4.1.1.nods.len) [98]) i_4.1 ∧ addI 0
 (ar.iapp (ar.isub (setI 0 y_4.1.1.nods.N i) 0 y_4.1.1.nods.len) [0]) i_4.1 = addI 0 (ar.iapp (ar.isub (setI 0 y_4.1.1.nods.N i) 0 y_4.1.1.nods.len) [0]) i_4.1 ∧ addI 0 (ar.iapp (ar.isub (setI 0 y_4.1.1.nods.P i) 0 y_4.1.1.nods.len) [0])
 i_4.1 = addI 0 (ar.iapp (ar.isub (setI 0 y_4.1.1.nods.P i) 0 y_4.1.1.nods.len) [0]) i_4.1 ∧ addT [] (ar.tapp (ar.tsub (setT [] y_4.1.1.nods.S i) 0 y_4.1.1.nods.len) [[]]) i_4.1 = addT [] (ar.tapp (ar.tsub (setT [] y_4.1.1.nods.S i) 0
 y_4.1.1.nods.len) [[]]) i_4.1 ∧ addI 0 (ar.iapp (ar.isub (setI 0 y_4.1.1.nods.Z i) 0 y_4.1.1.nods.len) [0]) i_4.1 = addI 0 (ar.iapp (ar.isub (setI 0 y_4.1.1.nods.Z i) 0 y_4.1.1.nods.len) [0]) i_4.1 ∧ i_4.2.2.1 = i_4.2.2.1 ∧ addT []
 (ar.tapp (ar.tsub (setT [] y_4.1.2.objs.N i_1) 0 y_4.1.2.objs.len) [[]]) i_4.1 = addT [] (ar.tapp (ar.tsub (setT [] y_4.1.2.objs.N i_1) 0 y_4.1.2.objs.len) [[]]) i_4.1 ∧ addT [] (ar.tapp (ar.tsub (setT [] y_4.1.2.objs.T i_1) 0
 y_4.1.2.objs.len) [[]]) i_4.1 = addT [] (ar.tapp (ar.tsub (setT [] y_4.1.2.objs.T i_1) 0 y_4.1.2.objs.len) [[]]) i_4.1 ∧ addI 0 (ar.iapp (ar.isub (setI 0 y_4.1.2.objs.B i_1) 0 y_4.1.2.objs.len) [0]) i_4.1 = addI 0 (ar.iapp (ar.isub (setI 0
 y_4.1.2.objs.B i_1) 0 y_4.1.2.objs.len) [0]) i_4.1 ∧ addI 98 (ar.iapp (ar.isub (setI 99 y_4.1.2.objs.O i_1) 0 y_4.1.2.objs.len) [98]) i_4.1 = addI 98 (ar.iapp (ar.isub (setI 99 y_4.1.2.objs.O i_1) 0 y_4.1.2.objs.len) [98]) i_4.1 ∧
 i_4.2.2.2 = i_4.2.2.2 ∧ addI 98 (ar.iapp (ar.isub (setI 99 y_4.1.2.q i_2) 0 y_4.1.2.qlen) [98]) i_4.1 = addI 98 (ar.iapp (ar.isub (setI 99 y_4.1.2.q i_2) 0 y_4.1.2.qlen) [98]) i_4.1 ∧ True) ∧ ∀ i_5 : Nat, Upto y_4.1.1.nods.len i_5 → (ar.lt
 (i_5 : Int) y_4.1.1.nods.len → ar.le 0 (i_5 : Int) ∧ ar.lt (i_5 : Int) y_4.1.1.nods.len ∧ ar.le 0 0 ∧ ar.le 0 (ar.add 0 (i_5 : Int)) ∧ ar.lt (ar.add 0 (i_5 : Int)) (ar.ilen (setI 99 y_4.1.1.nods.K i)) ∧ ((¬ar.eq (ar.iget (setI 99
 y_4.1.1.nods.K i) (ar.add 0 (i_5 : Int))) 99 → False) → ar.le 0 (i_5 : Int) ∧ ar.lt (i_5 : Int) ((ar.add y_4.1.1.nods.len 1).add (↑i_4.1 : Int)) ∧ ar.le 0 (i_5 : Int) ∧ ar.lt (i_5 : Int) (ar.ilen (addI 98 (ar.iapp (ar.isub (setI 99
 y_4.1.1.nods.K i) 0 y_4.1.1.nods.len) [98]) i_4.1)) ∧ (¬ar.eq (ar.iget (addI 98 (ar.iapp (ar.isub (setI 99 y_4.1.1.nods.K i) 0 y_4.1.1.nods.len) [98]) i_4.1) (i_5 : Int)) 99 → ∃ y : Unit, True ∧ False) ∧ (¬¬ar.eq (ar.iget (addI 98 (ar.iapp
 (ar.isub (setI 99 y_4.1.1.nods.K i) 0 y_4.1.1.nods.len) [98]) i_4.1) (i_5 : Int)) 99 → ∀ z : Int, z = ar.wrap .i64 (ar.add (i_5 : Int) 1) → ∃ j : Nat, Upto y_4.1.1.nods.len j ∧ (y_4.1.1.nods.len.toNat.sub j).lt (y_4.1.1.nods.len.toNat.sub
 i_5) ∧ (↑(encL x_4).length : Int) = (↑(encL x_4).length : Int) ∧ (↑(encL x_4).length : Int) = (↑(encL x_4).length : Int) ∧ (↑(encL x).length : Int) = (↑(encL x).length : Int) ∧ c = c ∧ (ar.add y_4.1.1.nods.len 1).add (↑i_4.1 : Int) =
 (ar.add y_4.1.1.nods.len 1).add (↑i_4.1 : Int) ∧ i_4.2.1 = i_4.2.1 ∧ (ar.add y_4.1.2.objs.len 1).add (↑i_4.1 : Int) = (ar.add y_4.1.2.objs.len 1).add (↑i_4.1 : Int) ∧ i_4.2.2.1 = i_4.2.2.1 ∧ (ar.add y_4.1.2.qlen 1).add (↑i_4.1 : Int) =
 (ar.add y_4.1.2.qlen 1).add (↑i_4.1 : Int) ∧ i_4.2.2.2 = i_4.2.2.2 ∧ z = (j : Int) ∧ Int.add 1 (x_1.slots.emod 64) = Int.add 1 (x_1.slots.emod 64) ∧ Int.add 1 (x_1.files.emod 64) = Int.add 1 (x_1.files.emod 64) ∧ x_1.dirs.emod 64 =
 x_1.dirs.emod 64 ∧ x_1.most.emod 65537 = x_1.most.emod 65537 ∧ Int.add 16 (x_1.least.emod 65521) = Int.add 16 (x_1.least.emod 65521) ∧ Int.add 64 (x_1.page.emod 1024) = Int.add 64 (x_1.page.emod 1024) ∧ x_2.1.files = x_2.1.files ∧
 x_2.1.dirs = x_2.1.dirs ∧ y.len = y.len ∧ y.cap = y.cap ∧ y_1.1.len = y_1.1.len ∧ y_1.1.cap = y_1.1.cap ∧ y_1.qlen = y_1.qlen ∧ y_1.qcap = y_1.qcap ∧ y_4.1.1.files = y_4.1.1.files ∧ y_4.1.1.dirs = y_4.1.1.dirs ∧ 0 = 0 ∧ y_4.1.1.nods.len =
 y_4.1.1.nods.len ∧ y_4.1.1.nods.len = y_4.1.1.nods.len ∧ 0 = 0 ∧ y_4.1.2.objs.len = y_4.1.2.objs.len ∧ y_4.1.2.objs.len = y_4.1.2.objs.len ∧ 0 = 0 ∧ y_4.1.2.qlen = y_4.1.2.qlen ∧ y_4.1.2.qlen = y_4.1.2.qlen ∧ y_5.1.1.files = y_5.1.1.files
 ∧ y_5.1.1.dirs = y_5.1.1.dirs ∧ 0 = 0 ∧ y_5.1.1.nods.len = y_5.1.1.nods.len ∧ y_5.1.1.nods.len = y_5.1.1.nods.len ∧ 0 = 0 ∧ y_5.1.2.objs.len = y_5.1.2.objs.len ∧ y_5.1.2.objs.len = y_5.1.2.objs.len ∧ 0 = 0 ∧ y_5.1.2.qlen = y_5.1.2.qlen ∧
 y_5.1.2.qlen = y_5.1.2.qlen ∧ y.cap = y.cap ∧ y.K = y.K ∧ y.N = y.N ∧ y.P = y.P ∧ y.S = y.S ∧ y.Z = y.Z ∧ y_1.1.cap = y_1.1.cap ∧ y_1.1.N = y_1.1.N ∧ y_1.1.T = y_1.1.T ∧ y_1.1.B = y_1.1.B ∧ y_1.1.O = y_1.1.O ∧ y_1.qcap = y_1.qcap ∧ y_1.q =
 y_1.q ∧ y_3 = y_3 ∧ encL x_4 = encL x_4 ∧ c = c ∧ ar.tsub (encL x) 0 (↑(encL x).length : Int) = ar.tsub (encL x) 0 (↑(encL x).length : Int) ∧ y_4.2.1 = y_4.2.1 ∧ setI 99 y_4.1.1.nods.K i = setI 99 y_4.1.1.nods.K i ∧ setI 0 y_4.1.1.nods.N i
 = setI 0 y_4.1.1.nods.N i ∧ setI 0 y_4.1.1.nods.P i = setI 0 y_4.1.1.nods.P i ∧ setT [] y_4.1.1.nods.S i = setT [] y_4.1.1.nods.S i ∧ setI 0 y_4.1.1.nods.Z i = setI 0 y_4.1.1.nods.Z i ∧ y_4.2.2.1 = y_4.2.2.1 ∧ setT [] y_4.1.2.objs.N i_1 =
 setT [] y_4.1.2.objs.N i_1 ∧ setT [] y_4.1.2.objs.T i_1 = setT [] y_4.1.2.objs.T i_1 ∧ setI 0 y_4.1.2.objs.B i_1 = setI 0 y_4.1.2.objs.B i_1 ∧ setI 99 y_4.1.2.objs.O i_1 = setI 99 y_4.1.2.objs.O i_1 ∧ y_4.2.2.2 = y_4.2.2.2 ∧ setI 99
 y_4.1.2.q i_2 = setI 99 y_4.1.2.q i_2 ∧ y_5.2.1 = y_5.2.1 ∧ y_5.1.1.nods.K = y_5.1.1.nods.K ∧ y_5.1.1.nods.N = y_5.1.1.nods.N ∧ y_5.1.1.nods.P = y_5.1.1.nods.P ∧ y_5.1.1.nods.S = y_5.1.1.nods.S ∧ y_5.1.1.nods.Z = y_5.1.1.nods.Z ∧ y_5.2.2.1
 = y_5.2.2.1 ∧ y_5.1.2.objs.N = y_5.1.2.objs.N ∧ y_5.1.2.objs.T = y_5.1.2.objs.T ∧ y_5.1.2.objs.B = y_5.1.2.objs.B ∧ y_5.1.2.objs.O = y_5.1.2.objs.O ∧ y_5.2.2.2 = y_5.2.2.2 ∧ y_5.1.2.q = y_5.1.2.q ∧ i_4.2.1 = i_4.2.1 ∧ addI 98 (ar.iapp
 (ar.isub (setI 99 y_4.1.1.nods.K i) 0 y_4.1.1.nods.len) [98]) i_4.1 = addI 98 (ar.iapp (ar.isub (setI 99 y_4.1.1.nods.K i) 0 y_4.1.1.nods.len) [98]) i_4.1 ∧ addI 0 (ar.iapp (ar.isub (setI 0 y_4.1.1.nods.N i) 0 y_4.1.1.nods.len) [0]) i_4.1
 = addI 0 (ar.iapp (ar.isub (setI 0 y_4.1.1.nods.N i) 0 y_4.1.1.nods.len) [0]) i_4.1 ∧ addI 0 (ar.iapp (ar.isub (setI 0 y_4.1.1.nods.P i) 0 y_4.1.1.nods.len) [0]) i_4.1 = addI 0 (ar.iapp (ar.isub (setI 0 y_4.1.1.nods.P i) 0
 y_4.1.1.nods.len) [0]) i_4.1 ∧ addT [] (ar.tapp (ar.tsub (setT [] y_4.1.1.nods.S i) 0 y_4.1.1.nods.len) [[]]) i_4.1 = addT [] (ar.tapp (ar.tsub (setT [] y_4.1.1.nods.S i) 0 y_4.1.1.nods.len) [[]]) i_4.1 ∧ addI 0 (ar.iapp (ar.isub (setI 0
 y_4.1.1.nods.Z i) 0 y_4.1.1.nods.len) [0]) i_4.1 = addI 0 (ar.iapp (ar.isub (setI 0 y_4.1.1.nods.Z i) 0 y_4.1.1.nods.len) [0]) i_4.1 ∧ i_4.2.2.1 = i_4.2.2.1 ∧ addT [] (ar.tapp (ar.tsub (setT [] y_4.1.2.objs.N i_1) 0 y_4.1.2.objs.len) [[]])
 i_4.1 = addT [] (ar.tapp (ar.tsub (setT [] y_4.1.2.objs.N i_1) 0 y_4.1.2.objs.len) [[]]) i_4.1 ∧ addT [] (ar.tapp (ar.tsub (setT [] y_4.1.2.objs.T i_1) 0 y_4.1.2.objs.len) [[]]) i_4.1 = addT [] (ar.tapp (ar.tsub (setT [] y_4.1.2.objs.T
 i_1) 0 y_4.1.2.objs.len) [[]]) i_4.1 ∧ addI 0 (ar.iapp (ar.isub (setI 0 y_4.1.2.objs.B i_1) 0 y_4.1.2.objs.len) [0]) i_4.1 = addI 0 (ar.iapp (ar.isub (setI 0 y_4.1.2.objs.B i_1) 0 y_4.1.2.objs.len) [0]) i_4.1 ∧ addI 98 (ar.iapp (ar.isub
 (setI 99 y_4.1.2.objs.O i_1) 0 y_4.1.2.objs.len) [98]) i_4.1 = addI 98 (ar.iapp (ar.isub (setI 99 y_4.1.2.objs.O i_1) 0 y_4.1.2.objs.len) [98]) i_4.1 ∧ i_4.2.2.2 = i_4.2.2.2 ∧ addI 98 (ar.iapp (ar.isub (setI 99 y_4.1.2.q i_2) 0
 y_4.1.2.qlen) [98]) i_4.1 = addI 98 (ar.iapp (ar.isub (setI 99 y_4.1.2.q i_2) 0 y_4.1.2.qlen) [98]) i_4.1 ∧ True)) ∧ (¬(¬ar.eq (ar.iget (setI 99 y_4.1.1.nods.K i) (ar.add 0 (i_5 : Int))) 99 → False) → ∃ y : Unit, True ∧ False)) ∧ (¬ar.lt
 (i_5 : Int) y_4.1.1.nods.len → (∃ i : Nat, Upto y_4.1.2.objs.len i ∧ (↑(encL x_4).length : Int) = (↑(encL x_4).length : Int) ∧ (↑(encL x_4).length : Int) = (↑(encL x_4).length : Int) ∧ (↑(encL x).length : Int) = (↑(encL x).length : Int) ∧
 c = c ∧ (ar.add y_4.1.2.objs.len 1).add (↑i_4.1 : Int) = (ar.add y_4.1.2.objs.len 1).add (↑i_4.1 : Int) ∧ i_4.2.2.1 = i_4.2.2.1 ∧ (ar.add y_4.1.2.qlen 1).add (↑i_4.1 : Int) = (ar.add y_4.1.2.qlen 1).add (↑i_4.1 : Int) ∧ i_4.2.2.2 =
 i_4.2.2.2 ∧ 0 = (i : Int) ∧ Int.add 1 (x_1.slots.emod 64) = Int.add 1 (x_1.slots.emod 64) ∧ Int.add 1 (x_1.files.emod 64) = Int.add 1 (x_1.files.emod 64) ∧ x_1.dirs.emod 64 = x_1.dirs.emod 64 ∧ x_1.most.emod 65537 = x_1.most.emod 65537 ∧
 Int.add 16 (x_1.least.emod 65521) = Int.add 16 (x_1.least.emod 65521) ∧ Int.add 64 (x_1.page.emod 1024) = Int.add 64 (x_1.page.emod 1024) ∧ x_2.1.files = x_2.1.files ∧ x_2.1.dirs = x_2.1.dirs ∧ y.len = y.len ∧ y.cap = y.cap ∧ y_1.1.len =
 y_1.1.len ∧ y_1.1.cap = y_1.1.cap ∧ y_1.qlen = y_1.qlen ∧ y_1.qcap = y_1.qcap ∧ 0 = 0 ∧ y_4.1.2.objs.len = y_4.1.2.objs.len ∧ y_4.1.2.objs.len = y_4.1.2.objs.len ∧ 0 = 0 ∧ y_4.1.2.qlen = y_4.1.2.qlen ∧ y_4.1.2.qlen = y_4.1.2.qlen ∧
 y_5.1.1.files = y_5.1.1.files ∧ y_5.1.1.dirs = y_5.1.1.dirs ∧ 0 = 0 ∧ y_5.1.1.nods.len = y_5.1.1.nods.len ∧ y_5.1.1.nods.len = y_5.1.1.nods.len ∧ 0 = 0 ∧ y_5.1.2.objs.len = y_5.1.2.objs.len ∧ y_5.1.2.objs.len = y_5.1.2.objs.len ∧ 0 = 0 ∧
 y_5.1.2.qlen = y_5.1.2.qlen ∧ y_5.1.2.qlen = y_5.1.2.qlen ∧ y.cap = y.cap ∧ y.K = y.K ∧ y.N = y.N ∧ y.P = y.P ∧ y.S = y.S ∧ y.Z = y.Z ∧ y_1.1.cap = y_1.1.cap ∧ y_1.1.N = y_1.1.N ∧ y_1.1.T = y_1.1.T ∧ y_1.1.B = y_1.1.B ∧ y_1.1.O = y_1.1.O ∧
 y_1.qcap = y_1.qcap ∧ y_1.q = y_1.q ∧ y_3 = y_3 ∧ encL x_4 = encL x_4 ∧ c = c ∧ ar.tsub (encL x) 0 (↑(encL x).length : Int) = ar.tsub (encL x) 0 (↑(encL x).length : Int) ∧ y_4.2.2.1 = y_4.2.2.1 ∧ setT [] y_4.1.2.objs.N i_1 = setT []
 y_4.1.2.objs.N i_1 ∧ setT [] y_4.1.2.objs.T i_1 = setT [] y_4.1.2.objs.T i_1 ∧ setI 0 y_4.1.2.objs.B i_1 = setI 0 y_4.1.2.objs.B i_1 ∧ setI 99 y_4.1.2.objs.O i_1 = setI 99 y_4.1.2.objs.O i_1 ∧ y_4.2.2.2 = y_4.2.2.2 ∧ setI 99 y_4.1.2.q i_2
 = setI 99 y_4.1.2.q i_2 ∧ y_5.2.1 = y_5.2.1 ∧ y_5.1.1.nods.K = y_5.1.1.nods.K ∧ y_5.1.1.nods.N = y_5.1.1.nods.N ∧ y_5.1.1.nods.P = y_5.1.1.nods.P ∧ y_5.1.1.nods.S = y_5.1.1.nods.S ∧ y_5.1.1.nods.Z = y_5.1.1.nods.Z ∧ y_5.2.2.1 = y_5.2.2.1 ∧
 y_5.1.2.objs.N = y_5.1.2.objs.N ∧ y_5.1.2.objs.T = y_5.1.2.objs.T ∧ y_5.1.2.objs.B = y_5.1.2.objs.B ∧ y_5.1.2.objs.O = y_5.1.2.objs.O ∧ y_5.2.2.2 = y_5.2.2.2 ∧ y_5.1.2.q = y_5.1.2.q ∧ i_4.2.2.1 = i_4.2.2.1 ∧ addT [] (ar.tapp (ar.tsub (setT
 [] y_4.1.2.objs.N i_1) 0 y_4.1.2.objs.len) [[]]) i_4.1 = addT [] (ar.tapp (ar.tsub (setT [] y_4.1.2.objs.N i_1) 0 y_4.1.2.objs.len) [[]]) i_4.1 ∧ addT [] (ar.tapp (ar.tsub (setT [] y_4.1.2.objs.T i_1) 0 y_4.1.2.objs.len) [[]]) i_4.1 = addT
 [] (ar.tapp (ar.tsub (setT [] y_4.1.2.objs.T i_1) 0 y_4.1.2.objs.len) [[]]) i_4.1 ∧ addI 0 (ar.iapp (ar.isub (setI 0 y_4.1.2.objs.B i_1) 0 y_4.1.2.objs.len) [0]) i_4.1 = addI 0 (ar.iapp (ar.isub (setI 0 y_4.1.2.objs.B i_1) 0
 y_4.1.2.objs.len) [0]) i_4.1 ∧ addI 98 (ar.iapp (ar.isub (setI 99 y_4.1.2.objs.O i_1) 0 y_4.1.2.objs.len) [98]) i_4.1 = addI 98 (ar.iapp (ar.isub (setI 99 y_4.1.2.objs.O i_1) 0 y_4.1.2.objs.len) [98]) i_4.1 ∧ i_4.2.2.2 = i_4.2.2.2 ∧ addI
 98 (ar.iapp (ar.isub (setI 99 y_4.1.2.q i_2) 0 y_4.1.2.qlen) [98]) i_4.1 = addI 98 (ar.iapp (ar.isub (setI 99 y_4.1.2.q i_2) 0 y_4.1.2.qlen) [98]) i_4.1 ∧ True) ∧ ∀ i : Nat, Upto y_4.1.2.objs.len i → (ar.lt (i : Int) y_4.1.2.objs.len →
 ar.le 0 (i : Int) ∧ ar.lt (i : Int) y_4.1.2.objs.len ∧ ar.le 0 0 ∧ ar.le 0 (ar.add 0 (i : Int)) ∧ ar.lt (ar.add 0 (i : Int)) (ar.ilen (setI 99 y_4.1.2.objs.O i_1)) ∧ ((¬ar.eq (ar.iget (setI 99 y_4.1.2.objs.O i_1) (ar.add 0 (i : Int))) 99 →
 False) → ar.le 0 (i : Int) ∧ ar.lt (i : Int) ((ar.add y_4.1.2.objs.len 1).add (↑i_4.1 : Int)) ∧ ar.le 0 (i : Int) ∧ ar.lt (i : Int) (ar.ilen (addI 98 (ar.iapp (ar.isub (setI 99 y_4.1.2.objs.O i_1) 0 y_4.1.2.objs.len) [98]) i_4.1)) ∧
 (¬ar.eq (ar.iget (addI 98 (ar.iapp (ar.isub (setI 99 y_4.1.2.objs.O i_1) 0 y_4.1.2.objs.len) [98]) i_4.1) (i : Int)) 99 → ∃ y : Unit, True ∧ False) ∧ (¬¬ar.eq (ar.iget (addI 98 (ar.iapp (ar.isub (setI 99 y_4.1.2.objs.O i_1) 0
 y_4.1.2.objs.len) [98]) i_4.1) (i : Int)) 99 → ∀ z : Int, z = ar.wrap .i64 (ar.add (i : Int) 1) → ∃ j : Nat, Upto y_4.1.2.objs.len j ∧ (y_4.1.2.objs.len.toNat.sub j).lt (y_4.1.2.objs.len.toNat.sub i) ∧ (↑(encL x_4).length : Int) = (↑(encL
 x_4).length : Int) ∧ (↑(encL x_4).length : Int) = (↑(encL x_4).length : Int) ∧ (↑(encL x).length : Int) = (↑(encL x).length : Int) ∧ c = c ∧ (ar.add y_4.1.2.objs.len 1).add (↑i_4.1 : Int) = (ar.add y_4.1.2.objs.len 1).add (↑i_4.1 : Int) ∧
 i_4.2.2.1 = i_4.2.2.1 ∧ (ar.add y_4.1.2.qlen 1).add (↑i_4.1 : Int) = (ar.add y_4.1.2.qlen 1).add (↑i_4.1 : Int) ∧ i_4.2.2.2 = i_4.2.2.2 ∧ z = (j : Int) ∧ Int.add 1 (x_1.slots.emod 64) = Int.add 1 (x_1.slots.emod 64) ∧ Int.add 1
 (x_1.files.emod 64) = Int.add 1 (x_1.files.emod 64) ∧ x_1.dirs.emod 64 = x_1.dirs.emod 64 ∧ x_1.most.emod 65537 = x_1.most.emod 65537 ∧ Int.add 16 (x_1.least.emod 65521) = Int.add 16 (x_1.least.emod 65521) ∧ Int.add 64 (x_1.page.emod 1024)
 = Int.add 64 (x_1.page.emod 1024) ∧ x_2.1.files = x_2.1.files ∧ x_2.1.dirs = x_2.1.dirs ∧ y.len = y.len ∧ y.cap = y.cap ∧ y_1.1.len = y_1.1.len ∧ y_1.1.cap = y_1.1.cap ∧ y_1.qlen = y_1.qlen ∧ y_1.qcap = y_1.qcap ∧ 0 = 0 ∧ y_4.1.2.objs.len
 = y_4.1.2.objs.len ∧ y_4.1.2.objs.len = y_4.1.2.objs.len ∧ 0 = 0 ∧ y_4.1.2.qlen = y_4.1.2.qlen ∧ y_4.1.2.qlen = y_4.1.2.qlen ∧ y_5.1.1.files = y_5.1.1.files ∧ y_5.1.1.dirs = y_5.1.1.dirs ∧ 0 = 0 ∧ y_5.1.1.nods.len = y_5.1.1.nods.len ∧
 y_5.1.1.nods.len = y_5.1.1.nods.len ∧ 0 = 0 ∧ y_5.1.2.objs.len = y_5.1.2.objs.len ∧ y_5.1.2.objs.len = y_5.1.2.objs.len ∧ 0 = 0 ∧ y_5.1.2.qlen = y_5.1.2.qlen ∧ y_5.1.2.qlen = y_5.1.2.qlen ∧ y.cap = y.cap ∧ y.K = y.K ∧ y.N = y.N ∧ y.P = y.P
 ∧ y.S = y.S ∧ y.Z = y.Z ∧ y_1.1.cap = y_1.1.cap ∧ y_1.1.N = y_1.1.N ∧ y_1.1.T = y_1.1.T ∧ y_1.1.B = y_1.1.B ∧ y_1.1.O = y_1.1.O ∧ y_1.qcap = y_1.qcap ∧ y_1.q = y_1.q ∧ y_3 = y_3 ∧ encL x_4 = encL x_4 ∧ c = c ∧ ar.tsub (encL x) 0 (↑(encL
 x).length : Int) = ar.tsub (encL x) 0 (↑(encL x).length : Int) ∧ y_4.2.2.1 = y_4.2.2.1 ∧ setT [] y_4.1.2.objs.N i_1 = setT [] y_4.1.2.objs.N i_1 ∧ setT [] y_4.1.2.objs.T i_1 = setT [] y_4.1.2.objs.T i_1 ∧ setI 0 y_4.1.2.objs.B i_1 = setI 0
 y_4.1.2.objs.B i_1 ∧ setI 99 y_4.1.2.objs.O i_1 = setI 99 y_4.1.2.objs.O i_1 ∧ y_4.2.2.2 = y_4.2.2.2 ∧ setI 99 y_4.1.2.q i_2 = setI 99 y_4.1.2.q i_2 ∧ y_5.2.1 = y_5.2.1 ∧ y_5.1.1.nods.K = y_5.1.1.nods.K ∧ y_5.1.1.nods.N = y_5.1.1.nods.N ∧
 y_5.1.1.nods.P = y_5.1.1.nods.P ∧ y_5.1.1.nods.S = y_5.1.1.nods.S ∧ y_5.1.1.nods.Z = y_5.1.1.nods.Z ∧ y_5.2.2.1 = y_5.2.2.1 ∧ y_5.1.2.objs.N = y_5.1.2.objs.N ∧ y_5.1.2.objs.T = y_5.1.2.objs.T ∧ y_5.1.2.objs.B = y_5.1.2.objs.B ∧
 y_5.1.2.objs.O = y_5.1.2.objs.O ∧ y_5.2.2.2 = y_5.2.2.2 ∧ y_5.1.2.q = y_5.1.2.q ∧ i_4.2.2.1 = i_4.2.2.1 ∧ addT [] (ar.tapp (ar.tsub (setT [] y_4.1.2.objs.N i_1) 0 y_4.1.2.objs.len) [[]]) i_4.1 = addT [] (ar.tapp (ar.tsub (setT []
 y_4.1.2.objs.N i_1) 0 y_4.1.2.objs.len) [[]]) i_4.1 ∧ addT [] (ar.tapp (ar.tsub (setT [] y_4.1.2.objs.T i_1) 0 y_4.1.2.objs.len) [[]]) i_4.1 = addT [] (ar.tapp (ar.tsub (setT [] y_4.1.2.objs.T i_1) 0 y_4.1.2.objs.len) [[]]) i_4.1 ∧ addI 0
 (ar.iapp (ar.isub (setI 0 y_4.1.2.objs.B i_1) 0 y_4.1.2.objs.len) [0]) i_4.1 = addI 0 (ar.iapp (ar.isub (setI 0 y_4.1.2.objs.B i_1) 0 y_4.1.2.objs.len) [0]) i_4.1 ∧ addI 98 (ar.iapp (ar.isub (setI 99 y_4.1.2.objs.O i_1) 0 y_4.1.2.objs.len)
 [98]) i_4.1 = addI 98 (ar.iapp (ar.isub (setI 99 y_4.1.2.objs.O i_1) 0 y_4.1.2.objs.len) [98]) i_4.1 ∧ i_4.2.2.2 = i_4.2.2.2 ∧ addI 98 (ar.iapp (ar.isub (setI 99 y_4.1.2.q i_2) 0 y_4.1.2.qlen) [98]) i_4.1 = addI 98 (ar.iapp (ar.isub (setI
 99 y_4.1.2.q i_2) 0 y_4.1.2.qlen) [98]) i_4.1 ∧ True)) ∧ (¬(¬ar.eq (ar.iget (setI 99 y_4.1.2.objs.O i_1) (ar.add 0 (i : Int))) 99 → False) → ∃ y : Unit, True ∧ False)) ∧ (¬ar.lt (i : Int) y_4.1.2.objs.len → (∃ i : Nat, Upto y_4.1.2.qlen i
 ∧ (↑(encL x_4).length : Int) = (↑(encL x_4).length : Int) ∧ (↑(encL x_4).length : Int) = (↑(encL x_4).length : Int) ∧ (↑(encL x).length : Int) = (↑(encL x).length : Int) ∧ c = c ∧ (ar.add y_4.1.2.qlen 1).add (↑i_4.1 : Int) = (ar.add
 y_4.1.2.qlen 1).add (↑i_4.1 : Int) ∧ i_4.2.2.2 = i_4.2.2.2 ∧ 0 = (i : Int) ∧ Int.add 1 (x_1.slots.emod 64) = Int.add 1 (x_1.slots.emod 64) ∧ Int.add 1 (x_1.files.emod 64) = Int.add 1 (x_1.files.emod 64) ∧ x_1.dirs.emod 64 = x_1.dirs.emod
 64 ∧ x_1.most.emod 65537 = x_1.most.emod 65537 ∧ Int.add 16 (x_1.least.emod 65521) = Int.add 16 (x_1.least.emod 65521) ∧ Int.add 64 (x_1.page.emod 1024) = Int.add 64 (x_1.page.emod 1024) ∧ x_2.1.files = x_2.1.files ∧ x_2.1.dirs =
 x_2.1.dirs ∧ y.len = y.len ∧ y.cap = y.cap ∧ y_1.1.len = y_1.1.len ∧ y_1.1.cap = y_1.1.cap ∧ y_1.qlen = y_1.qlen ∧ y_1.qcap = y_1.qcap ∧ 0 = 0 ∧ y_4.1.2.objs.len = y_4.1.2.objs.len ∧ y_4.1.2.objs.len = y_4.1.2.objs.len ∧ 0 = 0 ∧
 y_4.1.2.qlen = y_4.1.2.qlen ∧ y_4.1.2.qlen = y_4.1.2.qlen ∧ y_5.1.1.files = y_5.1.1.files ∧ y_5.1.1.dirs = y_5.1.1.dirs ∧ 0 = 0 ∧ y_5.1.1.nods.len = y_5.1.1.nods.len ∧ y_5.1.1.nods.len = y_5.1.1.nods.len ∧ 0 = 0 ∧ y_5.1.2.objs.len =
 y_5.1.2.objs.len ∧ y_5.1.2.objs.len = y_5.1.2.objs.len ∧ 0 = 0 ∧ y_5.1.2.qlen = y_5.1.2.qlen ∧ y_5.1.2.qlen = y_5.1.2.qlen ∧ y.cap = y.cap ∧ y.K = y.K ∧ y.N = y.N ∧ y.P = y.P ∧ y.S = y.S ∧ y.Z = y.Z ∧ y_1.1.cap = y_1.1.cap ∧ y_1.1.N =
 y_1.1.N ∧ y_1.1.T = y_1.1.T ∧ y_1.1.B = y_1.1.B ∧ y_1.1.O = y_1.1.O ∧ y_1.qcap = y_1.qcap ∧ y_1.q = y_1.q ∧ y_3 = y_3 ∧ encL x_4 = encL x_4 ∧ c = c ∧ ar.tsub (encL x) 0 (↑(encL x).length : Int) = ar.tsub (encL x) 0 (↑(encL x).length : Int)
 ∧ y_4.2.2.1 = y_4.2.2.1 ∧ setT [] y_4.1.2.objs.N i_1 = setT [] y_4.1.2.objs.N i_1 ∧ setT [] y_4.1.2.objs.T i_1 = setT [] y_4.1.2.objs.T i_1 ∧ setI 0 y_4.1.2.objs.B i_1 = setI 0 y_4.1.2.objs.B i_1 ∧ setI 99 y_4.1.2.objs.O i_1 = setI 99
 y_4.1.2.objs.O i_1 ∧ y_4.2.2.2 = y_4.2.2.2 ∧ setI 99 y_4.1.2.q i_2 = setI 99 y_4.1.2.q i_2 ∧ y_5.2.1 = y_5.2.1 ∧ y_5.1.1.nods.K = y_5.1.1.nods.K ∧ y_5.1.1.nods.N = y_5.1.1.nods.N ∧ y_5.1.1.nods.P = y_5.1.1.nods.P ∧ y_5.1.1.nods.S =
 y_5.1.1.nods.S ∧ y_5.1.1.nods.Z = y_5.1.1.nods.Z ∧ y_5.2.2.1 = y_5.2.2.1 ∧ y_5.1.2.objs.N = y_5.1.2.objs.N ∧ y_5.1.2.objs.T = y_5.1.2.objs.T ∧ y_5.1.2.objs.B = y_5.1.2.objs.B ∧ y_5.1.2.objs.O = y_5.1.2.objs.O ∧ y_5.2.2.2 = y_5.2.2.2 ∧
 y_5.1.2.q = y_5.1.2.q ∧ i_4.2.2.2 = i_4.2.2.2 ∧ addI 98 (ar.iapp (ar.isub (setI 99 y_4.1.2.q i_2) 0 y_4.1.2.qlen) [98]) i_4.1 = addI 98 (ar.iapp (ar.isub (setI 99 y_4.1.2.q i_2) 0 y_4.1.2.qlen) [98]) i_4.1 ∧ True) ∧ ∀ i : Nat, Upto
 y_4.1.2.qlen i → (ar.lt (i : Int) y_4.1.2.qlen → ar.le 0 (i : Int) ∧ ar.lt (i : Int) y_4.1.2.qlen ∧ ar.le 0 0 ∧ ar.le 0 (ar.add 0 (i : Int)) ∧ ar.lt (ar.add 0 (i : Int)) (ar.ilen (setI 99 y_4.1.2.q i_2)) ∧ ((¬ar.eq (ar.iget (setI 99
 y_4.1.2.q i_2) (ar.add 0 (i : Int))) 99 → False) → ar.le 0 (i : Int) ∧ ar.lt (i : Int) ((ar.add y_4.1.2.qlen 1).add (↑i_4.1 : Int)) ∧ ar.le 0 (i : Int) ∧ ar.lt (i : Int) (ar.ilen (addI 98 (ar.iapp (ar.isub (setI 99 y_4.1.2.q i_2) 0
 y_4.1.2.qlen) [98]) i_4.1)) ∧ (¬ar.eq (ar.iget (addI 98 (ar.iapp (ar.isub (setI 99 y_4.1.2.q i_2) 0 y_4.1.2.qlen) [98]) i_4.1) (i : Int)) 99 → ∃ y : Unit, True ∧ False) ∧ (¬¬ar.eq (ar.iget (addI 98 (ar.iapp (ar.isub (setI 99 y_4.1.2.q i_2)
 0 y_4.1.2.qlen) [98]) i_4.1) (i : Int)) 99 → ∀ z : Int, z = ar.wrap .i64 (ar.add (i : Int) 1) → ∃ j : Nat, Upto y_4.1.2.qlen j ∧ (y_4.1.2.qlen.toNat.sub j).lt (y_4.1.2.qlen.toNat.sub i) ∧ (↑(encL x_4).length : Int) = (↑(encL x_4).length :
 Int) ∧ (↑(encL x_4).length : Int) = (↑(encL x_4).length : Int) ∧ (↑(encL x).length : Int) = (↑(encL x).length : Int) ∧ c = c ∧ (ar.add y_4.1.2.qlen 1).add (↑i_4.1 : Int) = (ar.add y_4.1.2.qlen 1).add (↑i_4.1 : Int) ∧ i_4.2.2.2 = i_4.2.2.2
 ∧ z = (j : Int) ∧ Int.add 1 (x_1.slots.emod 64) = Int.add 1 (x_1.slots.emod 64) ∧ Int.add 1 (x_1.files.emod 64) = Int.add 1 (x_1.files.emod 64) ∧ x_1.dirs.emod 64 = x_1.dirs.emod 64 ∧ x_1.most.emod 65537 = x_1.most.emod 65537 ∧ Int.add 16
 (x_1.least.emod 65521) = Int.add 16 (x_1.least.emod 65521) ∧ Int.add 64 (x_1.page.emod 1024) = Int.add 64 (x_1.page.emod 1024) ∧ x_2.1.files = x_2.1.files ∧ x_2.1.dirs = x_2.1.dirs ∧ y.len = y.len ∧ y.cap = y.cap ∧ y_1.1.len = y_1.1.len ∧
 y_1.1.cap = y_1.1.cap ∧ y_1.qlen = y_1.qlen ∧ y_1.qcap = y_1.qcap ∧ 0 = 0 ∧ y_4.1.2.objs.len = y_4.1.2.objs.len ∧ y_4.1.2.objs.len = y_4.1.2.objs.len ∧ 0 = 0 ∧ y_4.1.2.qlen = y_4.1.2.qlen ∧ y_4.1.2.qlen = y_4.1.2.qlen ∧ y_5.1.1.files =
 y_5.1.1.files ∧ y_5.1.1.dirs = y_5.1.1.dirs ∧ 0 = 0 ∧ y_5.1.1.nods.len = y_5.1.1.nods.len ∧ y_5.1.1.nods.len = y_5.1.1.nods.len ∧ 0 = 0 ∧ y_5.1.2.objs.len = y_5.1.2.objs.len ∧ y_5.1.2.objs.len = y_5.1.2.objs.len ∧ 0 = 0 ∧ y_5.1.2.qlen =
 y_5.1.2.qlen ∧ y_5.1.2.qlen = y_5.1.2.qlen ∧ y.cap = y.cap ∧ y.K = y.K ∧ y.N = y.N ∧ y.P = y.P ∧ y.S = y.S ∧ y.Z = y.Z ∧ y_1.1.cap = y_1.1.cap ∧ y_1.1.N = y_1.1.N ∧ y_1.1.T = y_1.1.T ∧ y_1.1.B = y_1.1.B ∧ y_1.1.O = y_1.1.O ∧ y_1.qcap =
 y_1.qcap ∧ y_1.q = y_1.q ∧ y_3 = y_3 ∧ encL x_4 = encL x_4 ∧ c = c ∧ ar.tsub (encL x) 0 (↑(encL x).length : Int) = ar.tsub (encL x) 0 (↑(encL x).length : Int) ∧ y_4.2.2.1 = y_4.2.2.1 ∧ setT [] y_4.1.2.objs.N i_1 = setT [] y_4.1.2.objs.N
 i_1 ∧ setT [] y_4.1.2.objs.T i_1 = setT [] y_4.1.2.objs.T i_1 ∧ setI 0 y_4.1.2.objs.B i_1 = setI 0 y_4.1.2.objs.B i_1 ∧ setI 99 y_4.1.2.objs.O i_1 = setI 99 y_4.1.2.objs.O i_1 ∧ y_4.2.2.2 = y_4.2.2.2 ∧ setI 99 y_4.1.2.q i_2 = setI 99
 y_4.1.2.q i_2 ∧ y_5.2.1 = y_5.2.1 ∧ y_5.1.1.nods.K = y_5.1.1.nods.K ∧ y_5.1.1.nods.N = y_5.1.1.nods.N ∧ y_5.1.1.nods.P = y_5.1.1.nods.P ∧ y_5.1.1.nods.S = y_5.1.1.nods.S ∧ y_5.1.1.nods.Z = y_5.1.1.nods.Z ∧ y_5.2.2.1 = y_5.2.2.1 ∧
 y_5.1.2.objs.N = y_5.1.2.objs.N ∧ y_5.1.2.objs.T = y_5.1.2.objs.T ∧ y_5.1.2.objs.B = y_5.1.2.objs.B ∧ y_5.1.2.objs.O = y_5.1.2.objs.O ∧ y_5.2.2.2 = y_5.2.2.2 ∧ y_5.1.2.q = y_5.1.2.q ∧ i_4.2.2.2 = i_4.2.2.2 ∧ addI 98 (ar.iapp (ar.isub (setI
 99 y_4.1.2.q i_2) 0 y_4.1.2.qlen) [98]) i_4.1 = addI 98 (ar.iapp (ar.isub (setI 99 y_4.1.2.q i_2) 0 y_4.1.2.qlen) [98]) i_4.1 ∧ True)) ∧ (¬(¬ar.eq (ar.iget (setI 99 y_4.1.2.q i_2) (ar.add 0 (i : Int))) 99 → False) → ∃ y : Unit, True ∧
 False)) ∧ (¬ar.lt (i : Int) y_4.1.2.qlen → ∃ x_13 : Cfg × Tree × Pool, Int.add 1 (x_1.slots.emod 64) = x_13.1.slots ∧ Int.add 1 (x_1.files.emod 64) = x_13.1.files ∧ x_1.dirs.emod 64 = x_13.1.dirs ∧ x_1.most.emod 65537 = x_13.1.most ∧
 Int.add 16 (x_1.least.emod 65521) = x_13.1.least ∧ Int.add 64 (x_1.page.emod 1024) = x_13.1.page ∧ x_2.1.files = x_13.2.1.files ∧ x_2.1.dirs = x_13.2.1.dirs ∧ ar.le 0 0 ∧ ar.le (ar.add 0 y.len) (ar.ilen y.K) ∧ ar.le (ar.add 0 y.len)
 (ar.ilen y.N) ∧ ar.le (ar.add 0 y.len) (ar.ilen y.P) ∧ ar.le (ar.add 0 y.len) (ar.tlen y.S) ∧ ar.le (ar.add 0 y.len) (ar.ilen y.Z) ∧ ar.isub y.K 0 y.len = x_13.2.1.nods.K ∧ ar.isub y.N 0 y.len = x_13.2.1.nods.N ∧ ar.isub y.P 0 y.len =
 x_13.2.1.nods.P ∧ ar.tsub y.S 0 y.len = x_13.2.1.nods.S ∧ ar.isub y.Z 0 y.len = x_13.2.1.nods.Z ∧ y.len = x_13.2.1.nods.len ∧ y.cap = x_13.2.1.nods.cap ∧ ar.le 0 0 ∧ ar.le (ar.add 0 y_1.1.len) (ar.tlen y_1.1.N) ∧ ar.le (ar.add 0 y_1.1.len)
 (ar.tlen y_1.1.T) ∧ ar.le (ar.add 0 y_1.1.len) (ar.ilen y_1.1.B) ∧ ar.le (ar.add 0 y_1.1.len) (ar.ilen y_1.1.O) ∧ ar.tsub y_1.1.N 0 y_1.1.len = x_13.2.2.objs.N ∧ ar.tsub y_1.1.T 0 y_1.1.len = x_13.2.2.objs.T ∧ ar.isub y_1.1.B 0 y_1.1.len =
 x_13.2.2.objs.B ∧ ar.isub y_1.1.O 0 y_1.1.len = x_13.2.2.objs.O ∧ y_1.1.len = x_13.2.2.objs.len ∧ y_1.1.cap = x_13.2.2.objs.cap ∧ ar.le 0 0 ∧ ar.le (ar.add 0 y_1.qlen) (ar.ilen y_1.q) ∧ ar.isub y_1.q 0 y_1.qlen = x_13.2.2.q ∧ y_1.qlen =
 x_13.2.2.qlen ∧ y_1.qcap = x_13.2.2.qcap ∧ EIn x_13 ∧ ∀ y_12 : Int, Enc4Post x_13 y_12 → ∃ x_14 : Int, encErr x_13 = x_14 ∧ Ints3 (x_14, x_14, x_14) ∧ ∀ y_13 : Unit, True → ((¬ar.eq x_14 0 → False) → ∃ x_15 : Txts × Txts, ar.le 0 0 ∧ ar.le
 (ar.add 0 (↑(encL x_13).length : Int)) (ar.tlen (encL x_13)) ∧ ar.tsub (encL x_13) 0 (↑(encL x_13).length : Int) = x_15.1.l ∧ (↑(encL x_13).length : Int) = x_15.1.len ∧ (↑(encL x_13).length : Int) = x_15.1.cap ∧ ar.le 0 0 ∧ ar.le (ar.add 0
 (↑(encL x).length : Int)) (ar.tlen (ar.tsub (encL x) 0 (↑(encL x).length : Int))) ∧ ar.tsub (ar.tsub (encL x) 0 (↑(encL x).length : Int)) 0 (↑(encL x).length : Int) = x_15.2.l ∧ (↑(encL x).length : Int) = x_15.2.len ∧ c = x_15.2.cap ∧
 TxtsIn x_15 ∧ ∀ y_14 : Unit, True → ((¬x_15.1.l = x_15.2.l → False) → ∃ x_16 : Txts × Txts, ar.le 0 0 ∧ ar.le (ar.add 0 (↑(encL x_4).length : Int)) (ar.tlen (encL x_4)) ∧ ar.tsub (encL x_4) 0 (↑(encL x_4).length : Int) = x_16.1.l ∧ (↑(encL
 x_4).length : Int) = x_16.1.len ∧ (↑(encL x_4).length : Int) = x_16.1.cap ∧ ar.le 0 0 ∧ ar.le (ar.add 0 (↑(encL x).length : Int)) (ar.tlen (ar.tsub (encL x) 0 (↑(encL x).length : Int))) ∧ ar.tsub (ar.tsub (encL x) 0 (↑(encL x).length :
 Int)) 0 (↑(encL x).length : Int) = x_16.2.l ∧ (↑(encL x).length : Int) = x_16.2.len ∧ c = x_16.2.cap ∧ TxtsIn x_16 ∧ ∀ y_15 : Unit, True → ((¬x_16.1.l = x_16.2.l → False) → ∃ x_17 : Tree × Tree, y_5.1.1.files = x_17.1.files ∧ y_5.1.1.dirs
 = x_17.1.dirs ∧ ar.le 0 0 ∧ ar.le (ar.add 0 y_5.1.1.nods.len) (ar.ilen y_5.1.1.nods.K) ∧ ar.le (ar.add 0 y_5.1.1.nods.len) (ar.ilen y_5.1.1.nods.N) ∧ ar.le (ar.add 0 y_5.1.1.nods.len) (ar.ilen y_5.1.1.nods.P) ∧ ar.le (ar.add 0
 y_5.1.1.nods.len) (ar.tlen y_5.1.1.nods.S) ∧ ar.le (ar.add 0 y_5.1.1.nods.len) (ar.ilen y_5.1.1.nods.Z) ∧ ar.isub y_5.1.1.nods.K 0 y_5.1.1.nods.len = x_17.1.nods.K ∧ ar.isub y_5.1.1.nods.N 0 y_5.1.1.nods.len = x_17.1.nods.N ∧ ar.isub
 y_5.1.1.nods.P 0 y_5.1.1.nods.len = x_17.1.nods.P ∧ ar.tsub y_5.1.1.nods.S 0 y_5.1.1.nods.len = x_17.1.nods.S ∧ ar.isub y_5.1.1.nods.Z 0 y_5.1.1.nods.len = x_17.1.nods.Z ∧ y_5.1.1.nods.len = x_17.1.nods.len ∧ y_5.1.1.nods.len =
 x_17.1.nods.cap ∧ x_2.1.files = x_17.2.files ∧ x_2.1.dirs = x_17.2.dirs ∧ ar.le 0 0 ∧ ar.le (ar.add 0 y.len) (ar.ilen y.K) ∧ ar.le (ar.add 0 y.len) (ar.ilen y.N) ∧ ar.le (ar.add 0 y.len) (ar.ilen y.P) ∧ ar.le (ar.add 0 y.len) (ar.tlen y.S)
 ∧ ar.le (ar.add 0 y.len) (ar.ilen y.Z) ∧ ar.isub y.K 0 y.len = x_17.2.nods.K ∧ ar.isub y.N 0 y.len = x_17.2.nods.N ∧ ar.isub y.P 0 y.len = x_17.2.nods.P ∧ ar.tsub y.S 0 y.len = x_17.2.nods.S ∧ ar.isub y.Z 0 y.len = x_17.2.nods.Z ∧ y.len =
 x_17.2.nods.len ∧ y.cap = x_17.2.nods.cap ∧ SameTIn x_17 ∧ ∀ y_16 : Unit, True → ((¬SameT x_17.1 x_17.2 → False) → ∃ x_18 : Pool × Pool, ar.le 0 0 ∧ ar.le (ar.add 0 y_5.1.2.objs.len) (ar.tlen y_5.1.2.objs.N) ∧ ar.le (ar.add 0
 y_5.1.2.objs.len) (ar.tlen y_5.1.2.objs.T) ∧ ar.le (ar.add 0 y_5.1.2.objs.len) (ar.ilen y_5.1.2.objs.B) ∧ ar.le (ar.add 0 y_5.1.2.objs.len) (ar.ilen y_5.1.2.objs.O) ∧ ar.tsub y_5.1.2.objs.N 0 y_5.1.2.objs.len = x_18.1.objs.N ∧ ar.tsub
 y_5.1.2.objs.T 0 y_5.1.2.objs.len = x_18.1.objs.T ∧ ar.isub y_5.1.2.objs.B 0 y_5.1.2.objs.len = x_18.1.objs.B ∧ ar.isub y_5.1.2.objs.O 0 y_5.1.2.objs.len = x_18.1.objs.O ∧ y_5.1.2.objs.len = x_18.1.objs.len ∧ y_5.1.2.objs.len =
 x_18.1.objs.cap ∧ ar.le 0 0 ∧ ar.le (ar.add 0 y_5.1.2.qlen) (ar.ilen y_5.1.2.q) ∧ ar.isub y_5.1.2.q 0 y_5.1.2.qlen = x_18.1.q ∧ y_5.1.2.qlen = x_18.1.qlen ∧ y_5.1.2.qlen = x_18.1.qcap ∧ ar.le 0 0 ∧ ar.le (ar.add 0 y_1.1.len) (ar.tlen
 y_1.1.N) ∧ ar.le (ar.add 0 y_1.1.len) (ar.tlen y_1.1.T) ∧ ar.le (ar.add 0 y_1.1.len) (ar.ilen y_1.1.B) ∧ ar.le (ar.add 0 y_1.1.len) (ar.ilen y_1.1.O) ∧ ar.tsub y_1.1.N 0 y_1.1.len = x_18.2.objs.N ∧ ar.tsub y_1.1.T 0 y_1.1.len =
 x_18.2.objs.T ∧ ar.isub y_1.1.B 0 y_1.1.len = x_18.2.objs.B ∧ ar.isub y_1.1.O 0 y_1.1.len = x_18.2.objs.O ∧ y_1.1.len = x_18.2.objs.len ∧ y_1.1.cap = x_18.2.objs.cap ∧ ar.le 0 0 ∧ ar.le (ar.add 0 y_1.qlen) (ar.ilen y_1.q) ∧ ar.isub y_1.q 0
 y_1.qlen = x_18.2.q ∧ y_1.qlen = x_18.2.qlen ∧ y_1.qcap = x_18.2.qcap ∧ SamePIn x_18 ∧ ∀ y_17 : Unit, True → (¬SameP x_18.1 x_18.2 → ∃ y : Unit, True ∧ False) ∧ (¬¬SameP x_18.1 x_18.2 → ∃ x_19 : Cfg × Nods × Pool × Txts, Int.add 1
 (x_1.slots.emod 64) = x_19.1.slots ∧ Int.add 1 (x_1.files.emod 64) = x_19.1.files ∧ x_1.dirs.emod 64 = x_19.1.dirs ∧ x_1.most.emod 65537 = x_19.1.most ∧ Int.add 16 (x_1.least.emod 65521) = x_19.1.least ∧ Int.add 64 (x_1.page.emod 1024) =
 x_19.1.page ∧ x_2.1.files = x_19.1.files ∧ x_2.1.dirs = x_19.1.dirs ∧ y.len = x_19.2.1.len ∧ y.cap = x_19.2.1.cap ∧ y_1.1.len = x_19.2.2.1.objs.len ∧ y_1.1.cap = x_19.2.2.1.objs.cap ∧ y_1.qlen = x_19.2.2.1.qlen ∧ y_1.qcap = x_19.2.2.1.qcap
 ∧ (↑(encL x).length : Int) = x_19.2.2.2.len ∧ c = x_19.2.2.2.cap ∧ y.cap = x_19.2.1.cap ∧ y.K = x_19.2.1.K ∧ y.N = x_19.2.1.N ∧ y.P = x_19.2.1.P ∧ y.S = x_19.2.1.S ∧ y.Z = x_19.2.1.Z ∧ y_1.1.cap = x_19.2.2.1.objs.cap ∧ y_1.1.N =
 x_19.2.2.1.objs.N ∧ y_1.1.T = x_19.2.2.1.objs.T ∧ y_1.1.B = x_19.2.2.1.objs.B ∧ y_1.1.O = x_19.2.2.1.objs.O ∧ y_1.qcap = x_19.2.2.1.qcap ∧ y_1.q = x_19.2.2.1.q ∧ c = x_19.2.2.2.cap ∧ ar.tsub (encL x) 0 (↑(encL x).length : Int) =
 x_19.2.2.2.l ∧ AnIn x_19 ∧ ∀ y : Unit, True → ∃ y : Unit, True ∧ True)) ∧ (¬(¬SameT x_17.1 x_17.2 → False) → ∃ y : Unit, True ∧ False)) ∧ (¬(¬x_16.1.l = x_16.2.l → False) → ∃ y : Unit, True ∧ False)) ∧ (¬(¬x_15.1.l = x_15.2.l → False) → ∃
 y : Unit, True ∧ False)) ∧ (¬(¬ar.eq x_14 0 → False) → ∃ y : Unit, True ∧ False))))))))))) ∧ (¬(¬SameT x_11.1 x_11.2 → False) → ∃ y : Unit, True ∧ False)) ∧ (¬(¬ar.eq x_10 0 → False) → ∃ y : Unit, True ∧ False)) ∧ (¬(¬ar.eq x_9 0 → False)
 → ∃ y : Unit, True ∧ False)) ∧ (¬(¬ar.eq x_8 0 → False) → ∃ y : Unit, True ∧ False))
theorem li_eq (ar : AR) (x : liSpec.X) : (run ar PP ownSpecs (ownInvs x) 1000 4 (liSpec.H x).length (Tryd.f4.body.getD .skip) (liSpec.A x ++ List.replicate (Tryd.f4.ntmps - (liSpec.A x).length) .any) (liSpec.H x) (endCall ar PP Tryd.f4.results.toList (liSpec.fin x))) = li_vc ar x := by
  kernel_rfl
theorem li_of (h : ∀ x, liSpec.pre x → li_vc ar0 x) : liSpec.OK PP 4 :=
  Spec.ok_of_run (fn := Tryd.f4) (c := Tryd.f4.body.getD .skip) (by kernel_rfl) (by kernel_rfl) (by kernel_rfl) ownSpecs_ok ownInvs 1000 (fun x hx => (li_eq ar0 x).mpr (h x hx))
end Go.Eng

