/- Index: the law IndexOwn. -/
import Derived.Test.YtfcjboomlfjanaaDoorIxN
set_option linter.unusedVariables false
set_option linter.unusedSimpArgs false
namespace Go.PL
open Go.Eng (ar0)
theorem setT_zero (v : List UInt8) (l : List (List UInt8)) : setT v l 0 = l := by simp [setT]
theorem setT_len {v : List UInt8} {l : List (List UInt8)} {i : Nat} (h : i ≤ l.length) : (setT v l i).length = l.length := by simp [setT]; omega
theorem setT_set {v : List UInt8} {l : List (List UInt8)} {i : Nat} (h : i < l.length) : (setT v l i).set i v = setT v l (i + 1) := by
  have h1 : (List.replicate i v).length = i := List.length_replicate
  rw [setT, List.set_append_right _ _ (by omega), h1, Nat.sub_self, List.drop_eq_getElem_cons h, List.set_cons_zero, setT, List.replicate_succ', List.append_assoc]
  rfl
theorem addI_zero (v : Int) (l : List Int) : addI v l 0 = l := by simp [addI]
theorem addT_zero (v : List UInt8) (l : List (List UInt8)) : addT v l 0 = l := by simp [addT]
theorem addI_len (v : Int) (l : List Int) (i : Nat) : (addI v l i).length = l.length + i := by simp [addI]
theorem addT_len (v : List UInt8) (l : List (List UInt8)) (i : Nat) : (addT v l i).length = l.length + i := by simp [addT]
theorem addI_one (v : Int) (l : List Int) (i : Nat) : addI v l i ++ [v] = addI v l (i + 1) := by rw [addI, addI, List.replicate_succ', List.append_assoc]
theorem addT_one (v : List UInt8) (l : List (List UInt8)) (i : Nat) : addT v l i ++ [v] = addT v l (i + 1) := by rw [addT, addT, List.replicate_succ', List.append_assoc]
theorem setI_step {v : Int} {l : List Int} {i : Nat} (h : i < l.length) : ar0.iset (setI v l i) (i : Int) v = setI v l (i + 1) := by
  show (setI v l i).set (Int.toNat (i : Int)) v = _
  rw [Int.toNat_natCast]
  exact setI_set h
theorem setT_step {v : List UInt8} {l : List (List UInt8)} {i : Nat} (h : i < l.length) : ar0.tset (setT v l i) (i : Int) v = setT v l (i + 1) := by
  show (setT v l i).set (Int.toNat (i : Int)) v = _
  rw [Int.toNat_natCast]
  exact setT_set h
theorem setI_lt {v : Int} {l : List Int} {i : Nat} {n : Int} (hl : (l.length : Int) = n) (h : (i : Int) < n) : (i : Int) < ((setI v l i).length : Int) := by rw [setI_len (by omega)]; omega
theorem setT_lt {v : List UInt8} {l : List (List UInt8)} {i : Nat} {n : Int} (hl : (l.length : Int) = n) (h : (i : Int) < n) : (i : Int) < ((setT v l i).length : Int) := by rw [setT_len (by omega)]; omega
theorem setI_full {v : Int} {l : List Int} {n : Int} (hl : (l.length : Int) = n) : ((setI v l n.toNat).length : Int) = n := by rw [setI_len (by omega)]; exact hl
theorem setT_full {v : List UInt8} {l : List (List UInt8)} {n : Int} (hl : (l.length : Int) = n) : ((setT v l n.toNat).length : Int) = n := by rw [setT_len (by omega)]; exact hl
theorem addI_full {l : List Int} {n : Int} (hl : (l.length : Int) = n) (v w x : Int) (k : Nat) : ((addI w (setI v l n.toNat ++ [x]) k).length : Int) = n + 1 + k := by
  have h := setI_full (v := v) hl
  rw [addI_len, List.length_append, List.length_singleton]; omega
theorem addT_full {l : List (List UInt8)} {n : Int} (hl : (l.length : Int) = n) (v w x : List UInt8) (k : Nat) : ((addT w (setT v l n.toNat ++ [x]) k).length : Int) = n + 1 + k := by
  have h := setT_full (v := v) hl
  rw [addT_len, List.length_append, List.length_singleton]; omega
theorem drop_take {α : Type} {l : List α} {n : Int} (h : (l.length : Int) = n) : List.take n.toNat (List.drop (Int.toNat 0) l) = l := by
  subst h; rw [show Int.toNat 0 = 0 from rfl, List.drop_zero, Int.toNat_natCast, List.take_length]
theorem addI_take {l : List Int} {n : Int} (hl : (l.length : Int) = n) (v w x : Int) (k : Nat) : List.take (n + 1 + (k : Int)).toNat (List.drop (Int.toNat 0) (addI w (setI v l n.toNat ++ [x]) k)) = addI w (setI v l n.toNat ++ [x]) k := drop_take (addI_full hl v w x k)
theorem addT_take {l : List (List UInt8)} {n : Int} (hl : (l.length : Int) = n) (v w x : List UInt8) (k : Nat) : List.take (n + 1 + (k : Int)).toNat (List.drop (Int.toNat 0) (addT w (setT v l n.toNat ++ [x]) k)) = addT w (setT v l n.toNat ++ [x]) k := drop_take (addT_full hl v w x k)
theorem setI_get {v : Int} {l : List Int} {n : Int} {i : Nat} (hl : (l.length : Int) = n) (h : (i : Int) < n) : (setI v l n.toNat).getD i 0 = v := by
  have h1 : i < (List.replicate n.toNat v).length := by rw [List.length_replicate]; omega
  rw [List.getD_eq_getElem?_getD, setI, List.getElem?_append_left h1, List.getElem?_eq_getElem h1, List.getElem_replicate]
  rfl
theorem addI_get {v w x : Int} {l : List Int} {n : Int} {i k : Nat} (hl : (l.length : Int) = n) (h : (i : Int) < n) : (addI w (setI v l n.toNat ++ [x]) k).getD i 0 = v := by
  have h0 := setI_full (v := v) hl
  have h1 : i < (setI v l n.toNat).length := by omega
  have e := setI_get (v := v) hl h
  rw [List.getD_eq_getElem?_getD] at e ⊢
  rw [addI, List.append_assoc, List.getElem?_append_left h1]
  exact e
end Go.PL
set_option linter.unusedSectionVars false
set_option linter.unusedSimpArgs false
set_option linter.unusedVariables false
namespace Go.Eng
variable [CW : CWorld]
open Go.Proofs Go.PL
set_option maxRecDepth 100000
attribute [local irreducible] run
set_option maxHeartbeats 4000000 in
theorem liSpec_ok : liSpec.OK PP 4 := by
  refine li_of fun x hx => ?_
  obtain ⟨c, a, b⟩ := x
  obtain ⟨h1, h2, h3⟩ : PL.LbIn (c, a, b) := hx
  simp only at h1 h2 h3
  unfold li_vc
  simp only [ars, ars2, ars3, ex_cfg, ex_cfg6, ex_cn, ex_ct6, ex_intx, cfgAny, ints3, true_and, and_true, exists_const, forall_const, forall_eq, imp_false, Classical.not_not, Int.toNat_natCast, Int.zero_add, Int.le_refl, made_eta, take_self]
  have hC := made_ok c
  have hci := hC.ok
  refine ⟨h1, ⟨hci, h2⟩, fun y hy => ⟨⟨hci, h3⟩, fun z hz => ?_⟩⟩
  obtain ⟨k1, k2, k3, k4, k5, k6⟩ := id hy.ok
  obtain ⟨p0, p1, p2, p3, p4, p5, p6, p7⟩ := id hz.ok
  simp only at p0 p1 p2 p3 p4 p5 p6 p7
  have hE := mt_eok hC hy hz
  obtain ⟨hS, hF, hD, R⟩ := enc_dec hE hy.ok hz.ok
  have hL := encL_le (x := (made c, ⟨(made c).files, (made c).dirs, y⟩, z)) hC
  have hn := hS.n
  have hpz : PoolAny z := ⟨⟨p1, p2, p3, p4, p6⟩, p5, p7⟩
  simp only [k1, k2, k3, k4, k5, p1, p2, p3, p4, p5, dropz k1, dropz k2, dropz k3, dropz k4, dropz k5, dropz p1, dropz p2, dropz p3, dropz p4, dropz p5, ex_enc, ex_ct6, ex_intx, cfgAny, ints3, made_eta, take_self, Int.le_refl, true_and, and_true, imp_false, forall_const, Classical.not_not, exists_const]
  refine ⟨⟨hy.ok, fun _ => hz.ok⟩, fun e1 he1 => ⟨⟨hy.ok, fun _ => hz.ok⟩, fun e2 he2 => ?_⟩⟩
  obtain ⟨L, hLd⟩ : ∃ L, L = encL (made c, ⟨(made c).files, (made c).dirs, y⟩, z) := ⟨_, rfl⟩
  have f1 : encL (made c, ⟨1 + c.files % 64, c.dirs % 64, ⟨y.K, y.N, y.P, y.S, y.Z, y.len, y.cap⟩⟩, ⟨⟨z.objs.N, z.objs.T, z.objs.B, z.objs.O, z.objs.len, z.objs.cap⟩, z.q, z.qlen, z.qcap⟩) = L := hLd.symm
  have f2 : encErr (made c, ⟨1 + c.files % 64, c.dirs % 64, ⟨y.K, y.N, y.P, y.S, y.Z, y.len, y.cap⟩⟩, ⟨⟨z.objs.N, z.objs.T, z.objs.B, z.objs.O, z.objs.len, z.objs.cap⟩, z.q, z.qlen, z.qcap⟩) = 0 := PL.encErr_ok hE
  have f3 : dcE (made c) L = 0 := by rw [hLd]; exact dcE_ok hD
  rw [← hLd] at hL hn
  simp only [f1, f2, f3, true_and, forall_const, imp_false, not_true_eq_false, not_false_eq_true]
  refine ⟨by omega, fun cl hcl => ⟨⟨rfl, by simp only; omega⟩, fun u hu => ⟨⟨rfl, by simp only; omega⟩, fun v hv => ?_⟩⟩⟩
  obtain ⟨s1, s2⟩ := dec_same hF hD R (hLd ▸ hu)
  obtain ⟨t1, t2⟩ := dec_same hF hD R (hLd ▸ hv)
  obtain ⟨⟨j1, j2, j3, j4, j5, j6⟩, ⟨⟨j7, j8, j9, j10, j11⟩, j12, j13⟩⟩ := dcPost_any hu
  obtain ⟨l1, l2, l3, l4, l5, l6⟩ := id (dcPost_any hv).1
  obtain ⟨⟨l7, l8, l9, l10, l11⟩, l12, l13⟩ := id (dcPost_any hv).2
  simp only [j1, j2, j3, j4, j5, j7, j8, j9, j10, j12, dropz j1, dropz j2, dropz j3, dropz j4, dropz j5, dropz j7, dropz j8, dropz j9, dropz j10, dropz j12, l1, l2, l3, l4, l5, l7, l8, l9, l10, l12, dropz l1, dropz l2, dropz l3, dropz l4, dropz l5, dropz l7, dropz l8, dropz l9, dropz l10, dropz l12,
    ex_trees, ex_pools, ex_txts, Int.le_refl, true_and, and_true, forall_const, imp_false, Classical.not_not]
  obtain ⟨c1, c2, c3, c4, c5, c6⟩ := id hci
  have q1 := hy.le
  have q2 := hz.fits.len
  have q3 := hz.fits.qlen
  simp only at q1 q2 q3
  obtain ⟨a1, a2, ⟨a3, a4, a5, a6, a7⟩⟩ := id s1
  obtain ⟨b1, b2, b3, b4, b5⟩ := id s2
  simp only at a1 a2 a3 a4 a5 a6 a7 b1 b2 b3 b4 b5
  have n1 : u.1.1.nods.len = y.len := by rw [← j1, ← k1, a3]
  have n2 : u.1.2.objs.len = z.objs.len := by rw [← j7, ← p1, b1]
  have n3 : u.1.2.qlen = z.qlen := by rw [← j12, ← p5, b5]
  refine ⟨⟨⟨j1, j2, j3, j4, j5, j6⟩, hy.ok⟩, fun _ => ⟨⟨⟨⟨j7, j8, j9, j10, j11⟩, j12, j13⟩, hpz⟩, ⟨b1.symm, b2.symm, b3.symm, b4.symm, b5.symm⟩, fun _ => ⟨⟨0, ⟨by omega⟩, rfl, (setI_zero _ _).symm, (setI_zero _ _).symm, (setI_zero _ _).symm, (setT_zero _ _).symm, (setI_zero _ _).symm⟩, fun i hi => ?_⟩⟩, ⟨a1.symm, a2.symm, ⟨a3.symm, a4.symm, a5.symm, a6.symm, a7.symm⟩⟩⟩
  have hi := hi.le
  refine ⟨fun hlt => ⟨by omega, hlt, by omega, setI_lt j1 hlt, by omega, setI_lt j2 hlt, by omega, setI_lt j3 hlt, by omega, setT_lt j4 hlt, by omega, setI_lt j5 hlt, i + 1, ⟨by omega⟩, by omega, wrap_i64 (by omega) (by omega),
    setI_step (by omega), setI_step (by omega), setI_step (by omega), setT_step (by omega), setI_step (by omega)⟩, fun hge => ?_⟩
  obtain rfl : i = u.1.1.nods.len.toNat := by omega
  refine ⟨⟨0, ⟨by omega⟩, rfl, (setT_zero _ _).symm, (setT_zero _ _).symm, (setI_zero _ _).symm, (setI_zero _ _).symm⟩, fun i hi => ?_⟩
  have hi := hi.le
  refine ⟨fun hlt => ⟨by omega, hlt, by omega, setT_lt j7 hlt, by omega, setT_lt j8 hlt, by omega, setI_lt j9 hlt, by omega, setI_lt j10 hlt, i + 1, ⟨by omega⟩, by omega, wrap_i64 (by omega) (by omega),
    setT_step (by omega), setT_step (by omega), setI_step (by omega), setI_step (by omega)⟩, fun hge => ?_⟩
  obtain rfl : i = u.1.2.objs.len.toNat := by omega
  refine ⟨⟨0, ⟨by omega⟩, rfl, (setI_zero _ _).symm⟩, fun i hi => ?_⟩
  have hi := hi.le
  refine ⟨fun hlt => ⟨by omega, hlt, by omega, setI_lt j12 hlt, i + 1, ⟨by omega⟩, by omega, wrap_i64 (by omega) (by omega), setI_step (by omega)⟩, fun hge => ?_⟩
  obtain rfl : i = u.1.2.qlen.toNat := by omega
  refine ⟨⟨0, ⟨by omega⟩, rfl, (setT_zero _ _).symm⟩, fun i hi => ?_⟩
  have hi := hi.le
  refine ⟨fun hlt => ⟨by omega, hlt, by omega, setT_lt rfl hlt, i + 1, ⟨by omega⟩, by omega, wrap_i64 (by omega) (by omega), setT_step (by omega)⟩, fun hge => ?_⟩
  simp only [setI_full j1, setI_full j2, setI_full j3, setT_full j4, setI_full j5, setT_full j7, setT_full j8, setI_full j9, setI_full j10, setI_full j12,
    dropz (setI_full j1), dropz (setI_full j2), dropz (setI_full j3), dropz (setT_full j4), dropz (setI_full j5), dropz (setT_full j7), dropz (setT_full j8), dropz (setI_full j9), dropz (setI_full j10), dropz (setI_full j12), Int.le_refl, true_and]
  simp only [addI_full j1, addI_full j2, addI_full j3, addT_full j4, addI_full j5, addT_full j7, addT_full j8, addI_full j9, addI_full j10, addI_full j12, addI_take j1, addI_take j2, addI_take j3, addT_take j4, addI_take j5, addT_take j7, addT_take j8, addI_take j9, addI_take j10, addI_take j12, Int.le_refl, true_and]
  refine ⟨by omega, fun ca hca => ⟨by omega, fun cb hcb => ⟨by omega, fun cd hcd => ⟨⟨(0, ca, cb, cd), ⟨by simp, by simp; omega, by simp; omega, by simp; omega⟩, by simp, rfl, by simp, rfl, by simp, rfl, rfl, rfl,
    (addI_zero _ _).symm, (addI_zero _ _).symm, (addI_zero _ _).symm, (addT_zero _ _).symm, (addI_zero _ _).symm, rfl, (addT_zero _ _).symm, (addT_zero _ _).symm, (addI_zero _ _).symm, (addI_zero _ _).symm, rfl, (addI_zero _ _).symm⟩, ?_⟩⟩⟩⟩
  rintro ⟨k, ka, kb, kd⟩ ⟨g1, g2, g3, g4⟩
  simp only at g1 g2 g3 g4 ⊢
  refine ⟨fun hlt => ⟨by omega, fun a' ha' => ⟨by omega, fun b' hb' => ⟨by omega, fun d' hd' => ⟨(k + 1, a', b', d'), ⟨by simp only; omega, by simp only; omega, by simp only; omega, by simp only; omega⟩, by simp only; omega, by simp only; omega, rfl, by simp only; omega, rfl, by simp only; omega, rfl, wrap_i64 (by omega) (by omega), rfl,
    addI_one _ _ _, addI_one _ _ _, addI_one _ _ _, addT_one _ _ _, addI_one _ _ _, rfl, addT_one _ _ _, addT_one _ _ _, addI_one _ _ _, addI_one _ _ _, rfl, addI_one _ _ _⟩⟩⟩⟩, fun hge => ?_⟩
  refine ⟨⟨0, ⟨by omega⟩, rfl⟩, fun i hi => ?_⟩
  have hi := hi.le
  refine ⟨fun hlt => ⟨by omega, hlt, by omega, hlt, fun _ => ⟨by omega, by omega, by omega, by omega, addI_get j1 hlt, fun _ => ⟨i + 1, ⟨by omega⟩, by omega, wrap_i64 (by omega) (by omega)⟩⟩, setI_get j1 hlt⟩, fun _ => ?_⟩
  refine ⟨⟨0, ⟨by omega⟩, rfl⟩, fun i hi => ?_⟩
  have hi := hi.le
  refine ⟨fun hlt => ⟨by omega, hlt, by omega, hlt, fun _ => ⟨by omega, by omega, by omega, by omega, addI_get j10 hlt, fun _ => ⟨i + 1, ⟨by omega⟩, by omega, wrap_i64 (by omega) (by omega)⟩⟩, setI_get j10 hlt⟩, fun _ => ?_⟩
  refine ⟨⟨0, ⟨by omega⟩, rfl⟩, fun i hi => ?_⟩
  have hi := hi.le
  refine ⟨fun hlt => ⟨by omega, hlt, by omega, hlt, fun _ => ⟨by omega, by omega, by omega, by omega, addI_get j12 hlt, fun _ => ⟨i + 1, ⟨by omega⟩, by omega, wrap_i64 (by omega) (by omega)⟩⟩, setI_get j12 hlt⟩, fun _ => ?_⟩
  obtain ⟨x1, x2, ⟨x3, x4, x5, x6, x7⟩⟩ := id t1
  obtain ⟨y1, y2, y3, y4, y5⟩ := id t2
  refine ⟨⟨hy.ok, fun _ => hz.ok⟩, fun e3 _ => ⟨⟨rfl, rfl, by simp only; omega⟩, ⟨rfl, rfl, by simp only; omega⟩, ⟨⟨l1, l2, l3, l4, l5, l6⟩, hy.ok⟩, fun _ => ⟨⟨⟨⟨l7, l8, l9, l10, l11⟩, l12, l13⟩, hpz⟩, ⟨y1.symm, y2.symm, y3.symm, y4.symm, y5.symm⟩, fun _ => ⟨(made c, y, z, ⟨L, L.length, cl⟩),
    rfl, rfl, rfl, rfl, rfl, rfl, rfl, rfl, rfl, rfl, rfl, rfl, rfl, rfl, rfl, rfl, rfl, rfl, rfl, rfl, rfl, rfl, rfl, rfl, rfl, rfl, rfl, rfl, rfl, rfl, rfl, ⟨hE, hy.ok, hz.ok, hLd, rfl, by simp only; omega⟩⟩⟩, ⟨x1.symm, x2.symm, ⟨x3.symm, x4.symm, x5.symm, x6.symm, x7.symm⟩⟩⟩⟩
end Go.Eng

