/- Index: what Decode's answers have in common. -/
import Derived.Test.YtfcjboomlfjanaaDoorIxH
import Derived.Test.YtfcjboomlfjanaaDoorIxG
import Derived.Test.YtfcjboomlfjanaaDoorIxD
set_option linter.unusedVariables false
set_option linter.unusedSimpArgs false
/- Index: Decode, proved. -/
namespace Go.PL
theorem rdK_zero {m : RImg} {kind : Int} (h : kind ≠ 0) : rdK m kind = 0 ↔ fstB m = 0 := by
  unfold rdK
  by_cases hf : fstB m = 0
  · rw [if_pos hf]; exact ⟨fun _ => hf, fun _ => rfl⟩
  · rw [if_neg hf]; exact ⟨fun h' => absurd h' h, fun h' => absurd h' hf⟩
theorem dropk_rest {l : List UInt8} {k : Int} (h0 : 0 ≤ k) : dropk l k (l.length - k) = l.drop k.toNat := by
  rw [dropk, List.take_of_length_le (by rw [List.length_drop]; omega)]
theorem row_at {s : List UInt8} {c : Cfg} {k : Nat} {K : Int} (hK : offR c k = K) (cap : Int) (bad : Prop) (kind num : Int) :
    fstB ⟨s, cap, bad, K⟩ = fstB (imR s c k) ∧ rdK ⟨s, cap, bad, K⟩ kind = rdK (imR s c k) kind ∧ rdN ⟨s, cap, bad, K⟩ num = rdN (imR s c k) num ∧ rdP ⟨s, cap, bad, K⟩ = rdP (imR s c k) ∧ rdS ⟨s, cap, bad, K⟩ = rdS (imR s c k) ∧ rdZ ⟨s, cap, bad, K⟩ kind = rdZ (imR s c k) kind ∧ (BadRow ⟨s, cap, bad, K⟩ kind ↔ BadRow (imR s c k) kind) := by
  subst hK
  exact ⟨rfl, rfl, rfl, rfl, rfl, rfl, Iff.rfl⟩
end Go.PL
set_option linter.unusedSectionVars false
set_option linter.unusedSimpArgs false
set_option linter.unusedVariables false
namespace Go.Eng
variable [CW : CWorld]
open Go.Proofs Go.PL
set_option maxRecDepth 100000
attribute [local irreducible] run
theorem ex_rimgN {v u K cap : Int} {L : List UInt8} {b : Prop} {Q : RImg × Int × Int → Prop} :
    (∃ x : RImg × Int × Int, v = x.2.1 ∧ u = x.2.2 ∧ 0 + K.toNat * 1 + 0 = 0 + x.1.k.toNat * 1 + 0 ∧ (L.length : Int) - K = (x.1.l.length : Int) - x.1.k ∧ cap - K = x.1.cap - x.1.k ∧ (b ↔ x.1.bad) ∧ cap = x.1.cap ∧ PL.ints L = PL.ints x.1.l ∧ Q x) ↔
      Q (⟨L, cap, b, K⟩, v, u) := by
  constructor
  · rintro ⟨⟨⟨l, c, d, k'⟩, e, f⟩, h1, h1', h2, h3, h4, h5, h6, h7, h⟩
    simp only at h1 h1' h2 h3 h4 h5 h6 h7
    have := PL.ints_inj h7
    have h5 := propext h5
    subst h1 h1' h6 this h5
    have : k' = K := by omega
    subst this
    exact h
  · exact fun h => ⟨_, rfl, rfl, rfl, rfl, rfl, Iff.rfl, rfl, rfl, h⟩
theorem ex_lensx {l : List (List UInt8)} {n c b : Int} {Q : Txts × Int → Prop} : (∃ x : Txts × Int, l = x.1.l ∧ n = x.1.len ∧ c = x.1.cap ∧ b = x.2 ∧ Q x) ↔ Q (⟨l, n, c⟩, b) := by
  constructor
  · rintro ⟨⟨⟨a1, a2, a3⟩, a4⟩, h1, h2, h3, h4, h⟩
    simp only at h1 h2 h3 h4
    subst h1 h2 h3 h4
    exact h
  · exact fun h => ⟨_, rfl, rfl, rfl, rfl, h⟩
set_option maxHeartbeats 2000000 in
theorem dk_ok : dkSpec.OK PP 10 := by
  refine dk_of fun x hx => ?_
  obtain ⟨c, ⟨l, n, cp⟩⟩ := x
  obtain ⟨hln, hle⟩ : PL.DcIn (c, ⟨l, n, cp⟩) := hx
  simp only at hln hle
  subst hln
  have bad : ∀ e : Int, ¬ DcOK c l → dcE c l = e → ∃ y : (Tree × Pool) × Int × Int × Int, DcPost (c, ⟨l, l.length, cp⟩) y ∧ 0 = y.1.1.files ∧ 0 = y.1.1.dirs ∧ 0 = y.1.1.nods.len ∧ 0 = y.1.1.nods.len ∧ 0 = y.1.2.objs.len ∧ 0 = y.1.2.objs.len ∧ 0 = y.1.2.qlen ∧ 0 = y.1.2.qlen ∧ e = dcE c l ∧ y.2.1 = 0 ∧ y.1.1.nods.K = [] ∧ y.1.1.nods.N = [] ∧ y.1.1.nods.P = [] ∧ y.1.1.nods.S = [] ∧ y.1.1.nods.Z = [] ∧
      y.2.2.1 = 0 ∧ y.1.2.objs.N = [] ∧ y.1.2.objs.T = [] ∧ y.1.2.objs.B = [] ∧ y.1.2.objs.O = [] ∧ y.2.2.2 = 0 ∧ y.1.2.q = [] := fun e h he =>
    ⟨((noTree, noPool), 0, 0, 0), ⟨.inr ⟨h, rfl⟩⟩, rfl, rfl, rfl, rfl, rfl, rfl, rfl, rfl, he.symm, rfl, rfl, rfl, rfl, rfl, rfl, rfl, rfl, rfl, rfl, rfl, rfl, rfl⟩
  have p1 : ∀ e : Int, e + 16 + 16 = e + 32 := fun e => by omega
  have p2 : ∀ e : Int, e + 32 + 4 = e + 36 := fun e => by omega
  have p3 : ∀ e : Int, e + 36 + 4 = e + 40 := fun e => by omega
  unfold dk_vc
  simp only [ars, ars2, ex_cfg, ex_lensx, ex_rimgB, ex_rimgN, cfgAny, true_and, and_true, exists_const, forall_const, forall_eq, imp_false, Classical.not_not, Int.toNat_natCast, Int.zero_add, Int.add_zero, PL.ints_length, PL.chk_zero, Int.le_refl, map_dropk, iff_self, p1, p2, p3]
  refine ⟨fun hc => ?_, fun hC => ?_⟩
  · rw [PL.chk_bad hc]; exact bad _ (fun h => hc h.cfg) (dcE_c hc)
  have hci := hC.ok
  obtain ⟨c1, c2, c3, c4, c5, c6⟩ := id hci
  obtain ⟨f1, f2, f3⟩ := full_fits hC
  have hp := hC.pages
  have hpr := PL.pages_range hC
  have w0 : IntKind.i64.wrap (c.page - 5) = c.page - 5 := wrap_i64 (by omega) (by omega)
  have no : ¬ DcOK c l → _ := fun h => bad 141 h (dcE_i hC h)
  simp only [w0]
  refine ⟨hci, fun hn => ⟨⟨by simp only, hle⟩, fun hA => no fun h => hA h.all, fun hA => ?_⟩, fun hn => no fun h => hn h.n⟩
  have hlen : ((l.flatten).length : Int) = l.length * (c.page - 5) := by
    have := take_flat_len (l := l) (n := c.page - 5) (by omega) (Nat.le_refl _) (fun j hj => hA.all j hj)
    rwa [List.take_length] at this
  have hmn : pagesI c * (c.page - 5) = l.length * (c.page - 5) := by rw [hn]
  have hl2 := f1
  simp only [lenI] at hl2
  have hrc : rowsC c = c.files + c.slots := rfl
  have hO : offO c = 36 * c.dirs + 40 * c.files := rfl
  have hQ : offQ c = offO c + 40 * rowsC c := rfl
  have hN : nRows c = c.dirs.toNat + c.files.toNat := by unfold nRows; omega
  refine ⟨⟨(0, 0), ⟨Nat.zero_le _, by simp⟩, by and_intros <;> first | rfl | trivial | simp [PL.ints]⟩, ?_⟩
  rintro ⟨i, cap⟩ ⟨hi, hcap⟩
  simp only at hi hcap ⊢
  refine ⟨fun hlt => ?_, fun hge => ?_⟩
  · have w1 : IntKind.i64.wrap ((i : Int) + 1) = i + 1 := wrap_i64 (by omega) (by omega)
    have e1 := take_flat (l := l) (i := i) (by omega)
    have hb := hA.all i (by omega)
    have hfi := take_flat_len (l := l) (n := c.page - 5) (by omega) hi (fun j hj => hA.all j (by omega))
    have hmul : (i : Int) * (c.page - 5) ≤ l.length * (c.page - 5) := Int.mul_le_mul_of_nonneg_right (by omega) (by omega)
    refine ⟨by omega, hlt, by omega, fun c' hc' => ⟨(i + 1, c'), ⟨by simp only; omega, by simp only [e1, List.length_append]; omega⟩, by simp only; omega, by rw [w1]; rfl, by simp only [e1, List.length_append]; omega, rfl, rfl, app_ints rfl e1⟩⟩
  obtain rfl : i = l.length := by omega
  simp only [List.take_length] at hcap ⊢
  generalize hs : l.flatten = s at hcap hlen ⊢
  refine ⟨⟨(0, 0, cap), ⟨by simp only; omega, by simp [nLive, live], by rw [hs]; exact hcap⟩, by and_intros <;> first | rfl | trivial | (simp [nLive, live]; done) | (simp only; omega) | exact iff_of_false id badTo_zero⟩, ?_⟩
  have e0 : ∀ p : Nat, (p : Int) < c.dirs → offR c p = 36 * p ∧ kndR c p = 1 ∧ nmbR c p = p + 1 := fun p hp => by
    unfold offR kndR nmbR; rw [if_pos hp, if_pos hp, if_pos hp]; exact ⟨rfl, rfl, rfl⟩
  have e1 : ∀ p : Nat, offR c (c.dirs.toNat + p) = 36 * c.dirs + 40 * p ∧ kndR c (c.dirs.toNat + p) = 2 ∧ nmbR c (c.dirs.toNat + p) = p := fun p => by
    have hp : ¬ ((c.dirs.toNat + p : Nat) : Int) < c.dirs := by omega
    unfold offR kndR nmbR; rw [if_neg hp, if_neg hp, if_neg hp]; omega
  clear hcap hi hge
  rintro ⟨k, cp1, cb⟩ ⟨hk, hcp, hcb⟩
  simp only [hs] at hk hcp hcb
  obtain ⟨lK, lN, lP, lR, lS, lZ⟩ := col_lens s c k
  have nr := nLive_range s c k
  simp only [lK, lN, lP, lS, lZ, rdK_zero (show (1 : Int) ≠ 0 by decide), rdK_zero (show (2 : Int) ≠ 0 by decide)]
  refine ⟨fun hlt => ?_, fun hge => ?_⟩
  · obtain ⟨o1, o2, o3⟩ := e0 k (by omega)
    obtain ⟨g0, g1, g2, g3, g4, g5, g6⟩ := row_at (s := s) o1 cb (BadTo s c k) 1 ((k : Int) + 1)
    have w2 : IntKind.i64.wrap ((k : Int) + 1 + 1) = k + 1 + 1 := wrap_i64 (by omega) (by omega)
    have hb : BadTo s c k ∨ BadRow (imR s c k) 1 ↔ BadTo s c (k + 1) := by rw [badTo_succ, o2]
    simp only [g0, g1, g2, g3, g4, g5, g6, w2, show rsz 1 = 36 from rfl]
    refine ⟨⟨⟨hcb, by simp only; omega, show (0 : Int) ≤ 36 by omega, show 36 * (k : Int) + 36 ≤ s.length by omega⟩, .inl rfl⟩, fun hf => ?_, fun hf => ?_⟩
    · exact ⟨by omega, by omega, by omega, by omega, by omega, by omega, fun c' hc' => ⟨(k + 1, c', cb), ⟨by simp only; omega, by simp only [hs]; rw [nLive_hit hf]; exact hc', by simp only [hs]; exact hcb⟩, by simp only; omega, by simp only; omega, by simp only; omega, by simp only; omega, by simp only; omega, hb, rfl, (nLive_hit hf).symm, rfl, rfl,
        col_step _ rfl hf (by rw [o2]), col_step _ rfl hf (by rw [o3]), col_step _ rfl hf rfl, col_step _ rfl hf rfl, col_step _ rfl hf (by rw [o2])⟩⟩
    · have hm := live_miss hf
      refine ⟨(k + 1, cp1, cb), ⟨by simp only; omega, by simp only [hs, nLive, hm]; exact hcp, by simp only [hs]; exact hcb⟩, by simp only; omega, by simp only; omega, by simp only; omega, by simp only; omega, by simp only; omega, hb, rfl, by simp only [nLive, hm], rfl, rfl, ?_⟩
      simp only [colK, colN, colP, colS, colZ, hm, and_self]
  obtain rfl : k = c.dirs.toNat := by omega
  refine ⟨⟨(0, cp1, cb), ⟨by simp only; omega, by simp only [hs]; exact hcp, by simp only [hs]; exact hcb⟩, by and_intros <;> first | rfl | trivial | (simp only; omega) | exact Iff.rfl⟩, ?_⟩
  clear hk hcp hcb lK lN lP lR lS lZ nr hge
  rintro ⟨k, cp1, cb⟩ ⟨hk, hcp, hcb⟩
  simp only [hs] at hk hcp hcb
  obtain ⟨lK, lN, lP, lR, lS, lZ⟩ := col_lens s c (c.dirs.toNat + k)
  have nr := nLive_range s c (c.dirs.toNat + k)
  simp only [lK, lN, lP, lS, lZ]
  refine ⟨fun hlt => ?_, fun hge => ?_⟩
  · obtain ⟨o1, o2, o3⟩ := e1 k
    obtain ⟨g0, g1, g2, g3, g4, g5, g6⟩ := row_at (s := s) o1 cb (BadTo s c (c.dirs.toNat + k)) 2 (k : Int)
    have w2 : IntKind.i64.wrap ((k : Int) + 1) = k + 1 := wrap_i64 (by omega) (by omega)
    have hb : BadTo s c (c.dirs.toNat + k) ∨ BadRow (imR s c (c.dirs.toNat + k)) 2 ↔ BadTo s c (c.dirs.toNat + (k + 1)) := by rw [← Nat.add_assoc, badTo_succ, o2]
    simp only [g0, g1, g2, g3, g4, g5, g6, w2, show rsz 2 = 40 from rfl]
    refine ⟨⟨⟨hcb, by simp only; omega, show (0 : Int) ≤ 40 by omega, show 36 * c.dirs + 40 * (k : Int) + 40 ≤ s.length by omega⟩, .inr rfl⟩, fun hf => ?_, fun hf => ?_⟩
    · exact ⟨by omega, by omega, by omega, by omega, by omega, by omega, fun c' hc' => ⟨(k + 1, c', cb), ⟨by simp only; omega, by simp only [hs]; rw [← Nat.add_assoc, nLive_hit hf]; exact hc', by simp only [hs]; exact hcb⟩, by simp only; omega, by simp only; omega, by simp only; omega, by simp only; omega, by simp only; omega, hb, rfl, (nLive_hit hf).symm, rfl, rfl,
        col_step _ rfl hf (by rw [o2]), col_step _ rfl hf (by rw [o3]), col_step _ rfl hf rfl, col_step _ rfl hf rfl, col_step _ rfl hf (by rw [o2])⟩⟩
    · have hm : live s c (c.dirs.toNat + (k + 1)) = live s c (c.dirs.toNat + k) := live_miss hf
      refine ⟨(k + 1, cp1, cb), ⟨by simp only; omega, by simp only [hs, nLive, hm]; exact hcp, by simp only [hs]; exact hcb⟩, by simp only; omega, by simp only; omega, by simp only; omega, by simp only; omega, by simp only; omega, hb, rfl, by simp only [nLive, hm], rfl, rfl, ?_⟩
      simp only [colK, colN, colP, colS, colZ, hm, and_self]
  obtain rfl : k = c.files.toNat := by omega
  simp only [← hN] at hcp ⊢
  have wr : IntKind.i64.wrap (c.files + c.slots) = rowsC c := wrap_i64 (by omega) (by omega)
  simp only [wr]
  refine ⟨⟨(0, cp1, cb, 0), ⟨by simp only; omega, by simp only [hs]; exact hcp, by simp only [hs]; exact hcb, by simp⟩, by and_intros <;> first | rfl | trivial | (simp only; omega) | exact Iff.rfl⟩, ?_⟩
  clear hk hcp hcb lK lN lP lR lS lZ nr hge
  rintro ⟨k, cp1, cb, cp2⟩ ⟨hk, hcp, hcb, hcp2⟩
  simp only [hs] at hk hcp hcb hcp2
  obtain ⟨lN, lT, lB, lO, _⟩ := obj_lens s c k
  simp only [lN, lT, lB, lO]
  refine ⟨fun hlt => ⟨?_, ?_⟩, fun hge => ?_⟩
  · have ri : ∀ a n : Int, 0 ≤ a → 0 ≤ n → a + n ≤ 40 → RImgOK ⟨s, cb, BadTo s c (nRows c), offO c + 40 * (k : Int) + a⟩ n := fun a n h1 h2 h3 => ⟨hcb, by simp only; omega, h2, by simp only; omega⟩
    have ri0 : RImgOK ⟨s, cb, BadTo s c (nRows c), offO c + 40 * (k : Int)⟩ 16 := ⟨hcb, by simp only; omega, by omega, by simp only; omega⟩
    have ri1 := ri 16 16 (by omega) (by omega) (by omega)
    have ni : NumIn (⟨s, cb, BadTo s c (nRows c), offO c + 40 * (k : Int) + 32⟩, 4) := ⟨ri 32 4 (by omega) (by omega) (by omega), show (4 : Int) ≤ 7 by omega⟩
    have q0 : 0 ≤ offO c + 40 * (k : Int) := by omega
    have q1 : 0 ≤ offO c + 40 * (k : Int) + 16 := by omega
    have q2 : offO c + 40 * (k : Int) + 16 ≤ s.length := by omega
    have q3 : offO c + 40 * (k : Int) + 32 ≤ s.length := by omega
    have yes : Yes () := ⟨trivial⟩
    simp only [ri0, ri1, ni, q0, q1, q2, q3, true_and, and_true, and_self]
    first | exact ⟨(), yes⟩ | exact ⟨(), trivial⟩ | trivial
  · have w5 : IntKind.i64.wrap ((k : Int) + 1) = k + 1 := wrap_i64 (by omega) (by omega)
    have n4 := numB_lt (l := dropk s (offO c + 40 * (k : Int) + 36) 4) (k := 4) (by simp [dropk]; omega)
    have h4 : (256 : Int) ^ 4 = 4294967296 := by decide
    have w6 : IntKind.i64.wrap (numB (dropk s (offO c + 40 * (k : Int) + 36) 4) - 1) = numB (dropk s (offO c + 40 * (k : Int) + 36) 4) - 1 := wrap_i64 (by omega) (by omega)
    simp only [w5, w6]
    refine fun _ _ => ⟨⟨⟨hcb, by simp only; omega, by simp only; omega, by simp only; omega⟩, show (4 : Int) ≤ 7 by omega⟩, by omega, by omega, by omega, by omega, by omega, fun c' hc' => ⟨(k + 1, cp1, cb, c'), ⟨by simp only; omega, by simp only [hs]; exact hcp, by simp only [hs]; exact hcb, by simp only; omega⟩, by simp only; omega, by simp only; omega, by simp only; omega, by simp only; omega, by simp only; omega, ?_⟩⟩
    exact ⟨rfl, rfl, rfl, by simp only; omega, rfl, rfl, rng_step _ rfl, rng_step _ rfl, rng_step _ rfl, rng_step _ rfl⟩
  obtain rfl : k = (rowsC c).toNat := by omega
  have r0 : ((rowsC c).toNat : Int) = rowsC c := by omega
  have eQ : offO c + 40 * rowsC c = offQ c := rfl
  have eC : numB (dropk s (offQ c) 4) = cntQ s c := rfl
  have hq := cntQ_range s c
  have hr := rowsC_range hci
  have hmin : cntP s c = if rowsC c < cntQ s c then 0 else cntQ s c := rfl
  have hP : (rowsC c < cntQ s c → cntP s c = 0) ∧ (¬ rowsC c < cntQ s c → cntP s c = cntQ s c) := ⟨fun h => if_pos h, fun h => if_neg h⟩
  simp only [r0, eQ, eC]
  have ni : NumIn (⟨s, cb, BadTo s c (nRows c), offQ c⟩, 4) := ⟨⟨hcb, by simp only; omega, by simp only; omega, by simp only; omega⟩, show (4 : Int) ≤ 7 by omega⟩
  have d0 : Dp4 (c, ⟨l, l.length, cp⟩) (0, cp1, cb, cp2, 0) := ⟨by simp only [hs]; by_cases h : rowsC c < cntQ s c <;> simp only [hP, h, not_false_iff] <;> omega, by simp only [hs]; exact hcp, by simp only [hs]; exact hcb, by simp only; omega, by simp⟩
  have Int_lt : (rowsC c).lt (cntQ s c) ↔ rowsC c < cntQ s c := Iff.rfl
  refine ⟨ni, fun hgt => ⟨⟨(0, cp1, cb, cp2, 0), d0, (hP.1 hgt).symm, (hP.1 hgt).symm, by simp, by simp, by simp, by simp, ?e1⟩, ?t1⟩, fun hle => ⟨⟨(0, cp1, cb, cp2, 0), d0, (hP.2 hle).symm, (hP.2 hle).symm, by simp, by simp, by simp, by simp, ?e2⟩, ?t2⟩⟩
  case e1 => exact ⟨⟨fun _ => .inr hgt, fun _ => trivial⟩, by and_intros <;> first | rfl | trivial | simp [qL]⟩
  case e2 => exact ⟨⟨.inl, fun h => h.elim id fun h => absurd h hle⟩, by and_intros <;> first | rfl | trivial | simp [qL]⟩
  all_goals
    clear d0 ni hcp hcb hcp2
    rintro ⟨k, cp1, cb, cp2, cp3⟩ ⟨hk, hcp, hcb, hcp2, hcp3⟩
    simp only [hs] at hk hcp hcb hcp2 hcp3
    have lq : (qL s c k).length = k := by simp [qL]
    simp only [lq]
    have hPb : 0 ≤ cntP s c ∧ cntP s c ≤ rowsC c := by
      by_cases h : rowsC c < cntQ s c
      · have := hP.1 h; omega
      · have := hP.2 h; omega
    refine ⟨fun hlt => ?_, fun hge => ?_⟩
    · have w5 : IntKind.i64.wrap ((k : Int) + 1) = k + 1 := wrap_i64 (by omega) (by omega)
      simp only [w5]
      exact ⟨⟨⟨hcb, by simp only; omega, by simp only; omega, by simp only; omega⟩, show (4 : Int) ≤ 7 by omega⟩, by omega, by omega, fun c' hc' => ⟨(k + 1, cp1, cb, cp2, c'), ⟨by simp only [hs]; omega, by simp only [hs]; exact hcp, by simp only [hs]; exact hcb, hcp2, by simp only; omega⟩, by simp only; omega, by simp only; omega, by simp only; omega, by simp only; omega, by simp only; omega,
        rfl, rfl, rfl, rfl, by simp only; omega, rfl, rfl, rfl, rng_step _ rfl⟩⟩
    obtain rfl : k = (cntP s c).toNat := by omega
    have q0 : ((cntP s c).toNat : Int) = cntP s c := by omega
    obtain ⟨lK, lN, lP, lR, lS, lZ⟩ := col_lens s c (nRows c)
    obtain ⟨mN, mT, mB, mO, _⟩ := obj_lens s c (rowsC c).toNat
    have nr := nLive_range s c (nRows c)
    have dq : List.take (cntP s c).toNat (List.drop (Int.toNat 0) (qL s c (cntP s c).toNat)) = qL s c (cntP s c).toNat := dropz (by rw [lq, q0])
    simp only [lK, lN, lP, lS, lZ, mN, mT, mB, mO, q0, r0, dq, dropz lK, dropz lN, dropz lP, dropz lS, dropz lZ, dropz (by rw [mN, r0]), dropz (by rw [mT, r0]), dropz (by rw [mB, r0]), dropz (by rw [mO, r0]), Int.le_refl, true_and]
    have gd : DcOK c l → GoodS s c ∧ TreeOK c (treeP s c 0) ∧ PoolOK c (poolP s c 0 0) := fun h => by
      have h1 := h.good
      have h2 := h.tree
      have h3 := h.pool
      rw [hs] at h1 h2 h3
      exact ⟨h1, h2, h3⟩
    have kq : 0 ≤ offQ c + 4 + 4 * cntP s c ∧ offQ c + 4 + 4 * cntP s c ≤ s.length := by omega
    refine ⟨fun hnb => ⟨⟨s, cb, False, offQ c + 4 + 4 * cntP s c⟩, rfl, rfl, rfl, rfl, rfl, ⟨hcb, kq.1, kq.2, by simp only; omega⟩, fun hno => ?_, fun y hy => ⟨fun hny => absurd (by have := hy.lt; omega) hny, fun _ => no fun h => ?_⟩⟩,
      fun hb => no fun h => hb.elim (fun ⟨p, hp, h2⟩ => (gd h).1.rows p hp h2) fun h2 => absurd (gd h).1.cnt (by omega)⟩
    · have hcq : ¬ rowsC c < cntQ s c := fun h => hnb (.inr h)
      have hcQ := hP.2 hcq
      have hz := hno.no
      simp only [dropk_rest kq.1] at hz
      rw [hcQ] at hz
      have hG : GoodS s c := ⟨fun p hp h => hnb (.inl ⟨p, hp, h⟩), by omega, hz⟩
      have hT : NodsOK (nodsP s c (nRows c) cp1) := by
        have h1 := nodsR_ok (s := s) (cap := cp1) hci
        have e1' : nodsR s c (nRows c) cp1 = nodsP s c (nRows c) cp1 := congrArg Tree.nods (tree_same hG cp1)
        rwa [e1'] at h1
      refine ⟨(c, treeP s c cp1), rfl, rfl, rfl, rfl, rfl, rfl, rfl, rfl, rfl, rfl, rfl, rfl, rfl, rfl, rfl, ⟨hci, hT⟩, fun hok => ?_, fun hnt => no fun h => hnt (treeP_cap (gd h).2.1)⟩
      have hPI : PoolIn (c, poolP s c cp2 cp3) := by
        have := poolR_in (s := s) (b := cp2) (d := cp3) hci
        rwa [pool_same hG] at this
      refine ⟨(c, poolP s c cp2 cp3), rfl, rfl, rfl, rfl, rfl, rfl, rfl, rfl, rfl, rfl, rfl, rfl, rfl, rfl, rfl, hPI, fun hnp => no fun h => hnp (poolP_cap (gd h).2.2), fun hpk => ?_⟩
      have hD : DcOK c l := ⟨hC, hn, hA, by rw [hs]; exact hG, by rw [hs]; exact treeP_cap hok, by rw [hs]; exact poolP_cap hpk⟩
      refine ⟨(nodsP s c (nRows c) cp1, cp1), rfl, rfl, rfl, rfl, rfl, rfl, rfl, rfl, ⟨nr.1, hcp⟩, (objsX s c cp2, cp2), rfl, rfl, rfl, rfl, rfl, rfl, rfl, ⟨by simp only [objsX]; omega, hcp2⟩, (qL s c (cntP s c).toNat, cntP s c, cp3, cp3), rfl, rfl, rfl, rfl, ⟨hPb.1, by simp only; omega⟩,
        ((treeP s c (nLive s c (nRows c)), poolP s c (rowsC c) (cntP s c)), cp1, cp2, cp3), ⟨.inl ⟨hD, nLive s c (nRows c), rowsC c, cntP s c, ?_⟩⟩, rfl, rfl, rfl, rfl, rfl, rfl, rfl, rfl, (dcE_ok hD).symm, rfl, rfl, rfl, rfl, rfl, rfl, rfl, rfl, rfl, rfl, rfl, rfl, rfl⟩
      simp only [hs]
      exact ⟨Int.le_refl _, hcp, Int.le_refl _, hcp2, by omega, by omega, trivial⟩
    · have hcq : ¬ rowsC c < cntQ s c := fun h => hnb (.inr h)
      have hcQ := hP.2 hcq
      have := hy.yes
      simp only [dropk_rest kq.1] at this
      rw [hcQ] at this
      exact (gd h).1.rest this
end Go.Eng
set_option linter.unusedVariables false
namespace Go.PL
theorem dcPost_any {x : Cfg × Txts} {y : (Tree × Pool) × Int × Int × Int} (h : DcPost x y) : NodsOK y.1.1.nods ∧ PoolAny y.1.2 := by
  obtain ⟨a, b⟩ := y
  rcases h.ex with ⟨hD, a', b', d', _, _, _, _, _, _, rfl⟩ | ⟨_, h⟩
  · have hc := hD.cfg.ok
    have h1 := nodsR_ok (s := x.2.l.flatten) (cap := a') hc
    have h2 := poolR_in (s := x.2.l.flatten) (b := b') (d := d') hc
    have e1 := tree_same hD.good a'
    have e2 := pool_same hD.good b' d'
    have e1' : nodsR x.2.l.flatten x.1 (nRows x.1) a' = nodsP x.2.l.flatten x.1 (nRows x.1) a' := by
      have := congrArg Tree.nods e1
      exact this
    rw [e1'] at h1
    rw [e2] at h2
    exact ⟨h1, ⟨⟨h2.n, h2.t, h2.b, h2.o, h2.cap⟩, h2.q, h2.qcap⟩⟩
  · cases h
    exact ⟨⟨rfl, rfl, rfl, rfl, rfl, by decide⟩, ⟨⟨rfl, rfl, rfl, rfl, by decide⟩, rfl, by decide⟩⟩
theorem dcPost_same {x x' : Cfg × Txts} {y y' : (Tree × Pool) × Int × Int × Int} (hc : x.1 = x'.1) (hl : x.2.l = x'.2.l) (h : DcPost x y) (h' : DcPost x' y') : SameT y.1.1 y'.1.1 ∧ SameP y.1.2 y'.1.2 := by
  obtain ⟨a, b⟩ := y
  obtain ⟨a', b'⟩ := y'
  obtain ⟨c, t⟩ := x
  obtain ⟨c', t'⟩ := x'
  simp only at hc hl
  subst hc
  rcases h.ex with ⟨hD, _, _, _, _, _, _, _, _, _, rfl⟩ | ⟨hn, e⟩ <;> rcases h'.ex with ⟨hD', _, _, _, _, _, _, _, _, _, rfl⟩ | ⟨hn', e'⟩
  · simp only [hl]
    exact ⟨⟨rfl, rfl, ⟨rfl, rfl, rfl, rfl, rfl⟩⟩, ⟨rfl, rfl, rfl, rfl, rfl⟩⟩
  · simp only [hl] at hD
    exact absurd hD hn'
  · simp only [← hl] at hD'
    exact absurd hD' hn
  · cases e; cases e'
    exact ⟨⟨rfl, rfl, ⟨rfl, rfl, rfl, rfl, rfl⟩⟩, ⟨rfl, rfl, rfl, rfl, rfl⟩⟩
end Go.PL

