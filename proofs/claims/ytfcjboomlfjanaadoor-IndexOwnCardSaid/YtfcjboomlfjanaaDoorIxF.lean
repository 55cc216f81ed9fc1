/- Index, the reference: read. -/
import Derived.Test.YtfcjboomlfjanaaDoorIxE
import Derived.Test.YtfcjboomlfjanaaDoorIxD
set_option linter.unusedVariables false
set_option linter.unusedSimpArgs false
/- Index: what an image says, and when it is written just so: the plain law of Decode. -/
namespace Go.PL
def sg (l : List UInt8) (a n : Nat) : List UInt8 := (l.drop a).take n
theorem sg_len {l : List UInt8} {a n : Nat} (h : a + n ≤ l.length) : (sg l a n).length = n := by simp [sg]; omega
theorem sg_split (l : List UInt8) (a n m : Nat) : sg l a (n + m) = sg l a n ++ sg l (a + n) m := by
  simp only [sg, List.take_add, List.drop_drop]
theorem nz_append {a b : List UInt8} : NZ (a ++ b) ↔ NZ a ∨ NZ b := by
  constructor
  · rintro ⟨c, hc, h⟩
    rcases List.mem_append.1 hc with hc | hc
    · exact .inl ⟨c, hc, h⟩
    · exact .inr ⟨c, hc, h⟩
  · rintro (⟨c, hc, h⟩ | ⟨c, hc, h⟩)
    · exact ⟨c, List.mem_append_left _ hc, h⟩
    · exact ⟨c, List.mem_append_right _ hc, h⟩
theorem zs_iff {l : List UInt8} {n : Nat} (h : l.length = n) : zs n = l ↔ ¬ NZ l := by
  subst h
  constructor
  · rintro e ⟨b, hb, h0⟩
    rw [← e] at hb
    exact h0 (List.eq_of_mem_replicate hb)
  · intro h
    symm
    exact List.eq_replicate_iff.2 ⟨rfl, fun b hb => Classical.byContradiction fun h0 => h ⟨b, hb, h0⟩⟩
theorem nz_zs (n : Nat) : ¬ NZ (zs n) := (zs_iff (l := zs n) (by simp [zs])).1 rfl
theorem app_iff {a b c d : List UInt8} (h : a.length = c.length) : a ++ b = c ++ d ↔ a = c ∧ b = d :=
  ⟨fun e => List.append_inj e h, fun ⟨h1, h2⟩ => by rw [h1, h2]⟩
theorem big_eq {l : List UInt8} {k : Nat} {n : Int} (h : l.length = k) (h0 : 0 ≤ n) (h1 : n < 256 ^ k) : big n k = l ↔ n = numB l :=
  ⟨fun e => by rw [← e, numB_big k n h0 h1], fun e => by rw [e, big_numB k l h]⟩
theorem big_zs (k : Nat) : big 0 k = zs k := by
  have h : numB (zs k) = 0 := by
    induction k with
    | zero => rfl
    | succ k ih =>
      have : zs (k + 1) = zs k ++ [0] := by simp [zs, List.replicate_succ']
      rw [this, numB_snoc, ih]; rfl
  have := big_numB k (zs k) (by simp [zs])
  rwa [h] at this
theorem numB_zero {l : List UInt8} : numB l = 0 ↔ ¬ NZ l := by
  rw [← zs_iff rfl, ← big_zs, big_eq rfl (by omega) (by have := numB_range l.length l rfl; omega)]
  exact ⟨fun h => h.symm, fun h => h.symm⟩
def rfN (m : RImg) : List UInt8 := if fstB m = 0 then [] else dropk m.l (m.k + 4) (if 32 < lngB m then 32 else lngB m)
def nodR (m : RImg) (kind num : Int) : Nod := ⟨rdK m kind, rdN m num, rdP m, rfN m, rdZ m kind⟩
theorem lng_range (m : RImg) : 0 ≤ lngB m ∧ lngB m < 256 := by
  have := numB_lt (l := dropk m.l (m.k + 3) 1) (k := 1) (by simp [dropk]; omega)
  simpa [lngB] using this
theorem rfN_ok {m : RImg} {kind : Int} (h : ¬ BadRow m kind) : rfN m = rdS m := by
  unfold rfN rdS
  by_cases hf : fstB m = 0
  · rw [if_pos hf, if_pos hf]
  · rw [if_neg hf, if_neg hf]
    unfold BadRow at h
    rw [if_neg hf] at h
    have : ¬ 32 < lngB m := fun g => h (.inr (.inl g))
    rw [if_neg this, lngC, if_neg this]
theorem row_iff {l : List UInt8} {cap : Int} {bad : Prop} {k : Nat} {kind num : Int} (hk : kind = 1 ∨ kind = 2) (hl : (k : Int) + rsz kind ≤ l.length) :
    (if fstB ⟨l, cap, bad, k⟩ = 0 then zs (rsz kind).toNat else rowS (nodR ⟨l, cap, bad, k⟩ kind num)) = sg l k (rsz kind).toNat ↔ ¬ BadRow ⟨l, cap, bad, k⟩ kind := by
  obtain ⟨w, hw, hkw⟩ : ∃ w : Nat, rsz kind = ((36 + w : Nat) : Int) ∧ (kind = 1 ∧ w = 0 ∨ kind = 2 ∧ w = 4) := by
    rcases hk with rfl | rfl
    · exact ⟨0, rfl, by omega⟩
    · exact ⟨4, rfl, by omega⟩
  have hll : k + (36 + w) ≤ l.length := by omega
  rw [hw, Int.toNat_natCast]
  have f0 : fstB ⟨l, cap, bad, k⟩ = numB (sg l k 1) := by simp [fstB, dropk, sg]
  have fl : lngB ⟨l, cap, bad, k⟩ = numB (sg l (k + 3) 1) := by
    simp only [lngB, dropk, sg, show ((k : Int) + 3).toNat = k + 3 by omega, show (1 : Int).toNat = 1 from rfl]
  have e1 : 36 + w = 1 + (35 + w) := by omega
  by_cases hf : fstB ⟨l, cap, bad, k⟩ = 0
  · have hb : BadRow ⟨l, cap, bad, k⟩ kind ↔ NZ (sg l (k + 1) (35 + w)) := by
      unfold BadRow
      rw [if_pos hf, hw]
      simp only [dropk, sg, show ((k : Int) + 1).toNat = k + 1 by omega, show (((36 + w : Nat) : Int) - 1).toNat = 35 + w by omega]
    rw [if_pos hf, hb, zs_iff (sg_len hll), e1, sg_split, nz_append]
    rw [f0, numB_zero] at hf
    exact ⟨fun h g => h (.inr g), fun h g => g.elim hf h⟩
  rw [if_neg hf]
  have hlr := lng_range ⟨l, cap, bad, k⟩
  obtain ⟨L, hL⟩ : ∃ L : Nat, (if 32 < lngB ⟨l, cap, bad, k⟩ then 32 else lngB ⟨l, cap, bad, k⟩) = (L : Int) := ⟨Int.toNat (if 32 < lngB ⟨l, cap, bad, k⟩ then 32 else lngB ⟨l, cap, bad, k⟩), by split <;> omega⟩
  have hL32 : L ≤ 32 := by split at hL <;> omega
  have hname : rfN ⟨l, cap, bad, k⟩ = sg l (k + 4) L := by
    unfold rfN
    rw [if_neg hf, hL]
    simp only [dropk, sg, show ((k : Int) + 4).toNat = k + 4 by omega, Int.toNat_natCast]
  have hP : rdP ⟨l, cap, bad, k⟩ = numB (sg l (k + 1) 2) := by
    unfold rdP
    rw [if_neg hf]
    simp only [dropk, sg, show ((k : Int) + 1).toNat = k + 1 by omega, show (2 : Int).toNat = 2 from rfl]
  have hZ : (if kind = 2 then big (rdZ ⟨l, cap, bad, k⟩ kind) 4 else []) = sg l (k + 36) w := by
    rcases hkw with ⟨rfl, rfl⟩ | ⟨rfl, rfl⟩
    · simp [sg]
    · rw [if_pos rfl]
      unfold rdZ
      rw [if_neg hf, if_pos rfl]
      simp only [dropk, show ((k : Int) + 36).toNat = k + 36 by omega, show (4 : Int).toNat = 4 from rfl]
      exact big_numB 4 _ (by simp; omega)
  have hK : rdK ⟨l, cap, bad, k⟩ kind = kind := by unfold rdK; rw [if_neg hf]
  have b1 : sg l k 36 = sg l k 1 ++ sg l (k + 1) 35 := sg_split l k 1 35
  have b2 : sg l (k + 1) 35 = sg l (k + 1) 2 ++ sg l (k + 3) 33 := sg_split l (k + 1) 2 33
  have b3 : sg l (k + 3) 33 = sg l (k + 3) 1 ++ sg l (k + 4) 32 := sg_split l (k + 3) 1 32
  have b4 : sg l (k + 4) 32 = sg l (k + 4) L ++ sg l (k + 4 + L) (32 - L) := by
    have := sg_split l (k + 4) L (32 - L)
    rwa [show L + (32 - L) = 32 by omega] at this
  have es : sg l k (36 + w) = sg l k 1 ++ (sg l (k + 1) 2 ++ (sg l (k + 3) 1 ++ (sg l (k + 4) L ++ sg l (k + 4 + L) (32 - L)))) ++ sg l (k + 36) w := by
    rw [sg_split l k 36 w, b1, b2, b3, b4]
  have er : rowS (nodR ⟨l, cap, bad, k⟩ kind num) = [1] ++ (big (numB (sg l (k + 1) 2)) 2 ++ (big (L : Int) 1 ++ (sg l (k + 4) L ++ zs (32 - L)))) ++ sg l (k + 36) w := by
    simp only [rowS, rowA, nodR, hname, hP, hK, hZ, sg_len (show k + 4 + L ≤ l.length by omega)]
    rfl
  rw [es, er, app_iff (by simp [big_length, sg_len (show k + 4 + L ≤ l.length by omega), sg_len (show k + 1 ≤ l.length by omega), sg_len (show k + 1 + 2 ≤ l.length by omega), sg_len (show k + 3 + 1 ≤ l.length by omega), sg_len (show k + 4 + L + (32 - L) ≤ l.length by omega), zs]; omega),
    app_iff (by simp [sg_len (show k + 1 ≤ l.length by omega)]), app_iff (by simp [big_length, sg_len (show k + 1 + 2 ≤ l.length by omega)]), app_iff (by simp [big_length, sg_len (show k + 3 + 1 ≤ l.length by omega)]), app_iff rfl,
    zs_iff (sg_len (show k + 4 + L + (32 - L) ≤ l.length by omega)), big_eq (sg_len (show k + 1 + 2 ≤ l.length by omega)) (numB_range 2 _ (sg_len (by omega))).1 (numB_range 2 _ (sg_len (by omega))).2,
    big_eq (sg_len (show k + 3 + 1 ≤ l.length by omega)) (by omega) (by omega)]
  have h1 : [1] = sg l k 1 ↔ fstB ⟨l, cap, bad, k⟩ = 1 := by
    rw [show ([1] : List UInt8) = big 1 1 by decide, big_eq (sg_len (by omega)) (by omega) (by omega), f0]
    exact ⟨fun h => h.symm, fun h => h.symm⟩
  rw [h1]
  unfold BadRow
  rw [if_neg hf]
  by_cases hg : 32 < lngB ⟨l, cap, bad, k⟩
  · rw [if_pos hg] at hL
    rw [fl] at hg
    refine ⟨fun ⟨⟨_, _, h, _⟩, _⟩ => absurd h (by omega), fun h => absurd (.inr (.inl (fl ▸ hg))) h⟩
  · have hC : lngC ⟨l, cap, bad, k⟩ = (L : Int) := by rw [← hL, if_neg hg, lngC, if_neg hg]
    rw [if_neg hg] at hL
    rw [hC]
    have hd : dropk l ((k : Int) + 4 + (L : Int)) (32 - (L : Int)) = sg l (k + 4 + L) (32 - L) := by
      simp only [dropk, sg, show ((k : Int) + 4 + (L : Int)).toNat = k + 4 + L by omega, show (32 - (L : Int)).toNat = 32 - L by omega]
    simp only [hd]
    rw [← fl, hL]
    constructor
    · rintro ⟨⟨g1, _, _, _, g2⟩, _⟩ (h | h | h)
      · exact h g1
      · omega
      · exact g2 h
    · intro h
      exact ⟨⟨Classical.byContradiction fun g => h (.inl g), by trivial, by trivial, by trivial, fun g => h (.inr (.inr g))⟩, by trivial⟩
end Go.PL
/- Index: what is read out of an image; when it is written just so. -/
namespace Go.PL
def offR (c : Cfg) (p : Nat) : Int := if (p : Int) < c.dirs then 36 * p else 36 * c.dirs + 40 * (p - c.dirs)
def kndR (c : Cfg) (p : Nat) : Int := if (p : Int) < c.dirs then 1 else 2
def nmbR (c : Cfg) (p : Nat) : Int := if (p : Int) < c.dirs then p + 1 else p - c.dirs
def imR (s : List UInt8) (c : Cfg) (p : Nat) : RImg := ⟨s, 0, False, offR c p⟩
def liveP (s : List UInt8) (c : Cfg) (p : Nat) : Bool := decide (¬ fstB (imR s c p) = 0)
def live (s : List UInt8) (c : Cfg) (n : Nat) : List Nat := (List.range n).filter (liveP s c)
def colK (s : List UInt8) (c : Cfg) (n : Nat) : List Int := (live s c n).map fun p => rdK (imR s c p) (kndR c p)
def colN (s : List UInt8) (c : Cfg) (n : Nat) : List Int := (live s c n).map fun p => rdN (imR s c p) (nmbR c p)
def colP (s : List UInt8) (c : Cfg) (n : Nat) : List Int := (live s c n).map fun p => rdP (imR s c p)
def colS (s : List UInt8) (c : Cfg) (n : Nat) : List (List UInt8) := (live s c n).map fun p => rdS (imR s c p)
def colR (s : List UInt8) (c : Cfg) (n : Nat) : List (List UInt8) := (live s c n).map fun p => rfN (imR s c p)
def colZ (s : List UInt8) (c : Cfg) (n : Nat) : List Int := (live s c n).map fun p => rdZ (imR s c p) (kndR c p)
def nLive (s : List UInt8) (c : Cfg) (n : Nat) : Int := (live s c n).length
def offO (c : Cfg) : Int := 36 * c.dirs + 40 * c.files
def rowsC (c : Cfg) : Int := c.files + c.slots
def offQ (c : Cfg) : Int := offO c + 40 * rowsC c
def oN (s : List UInt8) (c : Cfg) (n : Nat) : List (List UInt8) := (List.range n).map fun (j : Nat) => dropk s (offO c + 40 * (j : Int)) 16
def oT (s : List UInt8) (c : Cfg) (n : Nat) : List (List UInt8) := (List.range n).map fun (j : Nat) => dropk s (offO c + 40 * (j : Int) + 16) 16
def oB (s : List UInt8) (c : Cfg) (n : Nat) : List Int := (List.range n).map fun (j : Nat) => numB (dropk s (offO c + 40 * (j : Int) + 32) 4)
def oO (s : List UInt8) (c : Cfg) (n : Nat) : List Int := (List.range n).map fun (j : Nat) => numB (dropk s (offO c + 40 * (j : Int) + 36) 4) - 1
def cntQ (s : List UInt8) (c : Cfg) : Int := numB (dropk s (offQ c) 4)
def cntP (s : List UInt8) (c : Cfg) : Int := if rowsC c < cntQ s c then 0 else cntQ s c
def cntR (s : List UInt8) (c : Cfg) : Int := if rowsC c < cntQ s c then rowsC c else cntQ s c
def qL (s : List UInt8) (c : Cfg) (n : Nat) : List Int := (List.range n).map fun (j : Nat) => numB (dropk s (offQ c + 4 + 4 * (j : Int)) 4)
def nRows (c : Cfg) : Nat := (c.dirs + c.files).toNat
def nodsP (s : List UInt8) (c : Cfg) (n : Nat) (cap : Int) : Nods := ⟨colK s c n, colN s c n, colP s c n, colS s c n, colZ s c n, nLive s c n, cap⟩
def nodsR (s : List UInt8) (c : Cfg) (n : Nat) (cap : Int) : Nods := ⟨colK s c n, colN s c n, colP s c n, colR s c n, colZ s c n, nLive s c n, cap⟩
def treeP (s : List UInt8) (c : Cfg) (cap : Int) : Tree := ⟨c.files, c.dirs, nodsP s c (nRows c) cap⟩
def treeR (s : List UInt8) (c : Cfg) (cap : Int) : Tree := ⟨c.files, c.dirs, nodsR s c (nRows c) cap⟩
def objsX (s : List UInt8) (c : Cfg) (cap : Int) : Objs := ⟨oN s c (rowsC c).toNat, oT s c (rowsC c).toNat, oB s c (rowsC c).toNat, oO s c (rowsC c).toNat, rowsC c, cap⟩
def poolP (s : List UInt8) (c : Cfg) (cap qcap : Int) : Pool := ⟨objsX s c cap, qL s c (cntP s c).toNat, cntP s c, qcap⟩
def poolR (s : List UInt8) (c : Cfg) (cap qcap : Int) : Pool := ⟨objsX s c cap, qL s c (cntR s c).toNat, cntR s c, qcap⟩
structure GoodS (s : List UInt8) (c : Cfg) : Prop where
  rows : ∀ p, p < nRows c → ¬ BadRow (imR s c p) (kndR c p)
  cnt : cntQ s c ≤ rowsC c
  rest : ¬ NZ (s.drop (offQ c + 4 + 4 * cntQ s c).toNat)
theorem live_hit {s : List UInt8} {c : Cfg} {n : Nat} (h : ¬ fstB (imR s c n) = 0) : live s c (n + 1) = live s c n ++ [n] := by
  have : liveP s c n = true := by simp [liveP, h]
  simp [live, List.range_succ, this]
theorem live_miss {s : List UInt8} {c : Cfg} {n : Nat} (h : fstB (imR s c n) = 0) : live s c (n + 1) = live s c n := by
  have : liveP s c n = false := by simp [liveP, h]
  simp [live, List.range_succ, this]
theorem live_le (s : List UInt8) (c : Cfg) (n : Nat) : (live s c n).length ≤ n := by
  have := List.length_filter_le (liveP s c) (List.range n)
  simpa [live] using this
theorem mem_live {s : List UInt8} {c : Cfg} {n p : Nat} : p ∈ live s c n ↔ p < n ∧ ¬ fstB (imR s c p) = 0 := by
  simp [live, liveP]
theorem getD_map {α β : Type} (f : α → β) {l : List α} {i : Nat} {d : β} (h : i < l.length) : (l.map f).getD i d = f l[i] := by
  rw [List.getD_eq_getElem?_getD, List.getElem?_eq_getElem (by simpa using h), List.getElem_map]; rfl
theorem getD_range {β : Type} (f : Nat → β) {n i : Nat} {d : β} (h : i < n) : ((List.range n).map f).getD i d = f i := by
  rw [getD_map f (by simpa using h), List.getElem_range]
def keyR (c : Cfg) (p : Nat) : Int := kndR c p * 1000000 + nmbR c p
theorem cntQ_range (s : List UInt8) (c : Cfg) : 0 ≤ cntQ s c ∧ cntQ s c < 4294967296 := by
  have := numB_lt (l := dropk s (offQ c) 4) (k := 4) (by simp [dropk]; omega)
  simpa [cntQ] using this
theorem cntR_range {s : List UInt8} {c : Cfg} (hc : CfgIn c) : 0 ≤ cntR s c ∧ cntR s c ≤ rowsC c ∧ (cntR s c = cntQ s c ↔ cntQ s c ≤ rowsC c) := by
  have := cntQ_range s c
  obtain ⟨c1, c2, c3, c4, c5, c6⟩ := id hc
  by_cases h : rowsC c < cntQ s c
  · have e : cntR s c = rowsC c := if_pos h
    simp only [rowsC] at h e ⊢
    omega
  · have e : cntR s c = cntQ s c := if_neg h
    simp only [rowsC] at h e ⊢
    omega
theorem col_same {s : List UInt8} {c : Cfg} (h : GoodS s c) : colR s c (nRows c) = colS s c (nRows c) :=
  List.map_congr_left fun p hp => rfN_ok (h.rows p (mem_live.1 hp).1)
theorem tree_same {s : List UInt8} {c : Cfg} (h : GoodS s c) (cap : Int) : treeR s c cap = treeP s c cap := by
  simp only [treeR, treeP, nodsR, nodsP, col_same h]
theorem cnt_same {s : List UInt8} {c : Cfg} (h : GoodS s c) : cntR s c = cntQ s c ∧ cntP s c = cntQ s c := by
  have := h.cnt
  exact ⟨if_neg (by omega), if_neg (by omega)⟩
theorem pool_same {s : List UInt8} {c : Cfg} (h : GoodS s c) (cap qcap : Int) : poolR s c cap qcap = poolP s c cap qcap := by
  simp only [poolR, poolP, cnt_same h]
theorem flat_pieces (s : List UInt8) (n : Nat) : ∀ k, (pieces s n k).flatten = s.take (k * n)
  | 0 => by simp [pieces]
  | k + 1 => by rw [pieces_succ, List.flatten_append, flat_pieces s n k, Nat.succ_mul, List.take_add]; simp
end Go.PL
/- bytes.Trim of noughts. -/
namespace Go.PL
structure TrimNo (m : RImg) : Prop where
  no : ¬ NZ (dropk m.l m.k (m.l.length - m.k))
structure TrimYes (m : RImg) (y : Nat × Nat) : Prop where
  yes : NZ (dropk m.l m.k (m.l.length - m.k))
  lt : y.2 < y.1
end Go.PL
set_option linter.unusedSectionVars false
set_option linter.unusedSimpArgs false
set_option linter.unusedVariables false
namespace Go.Eng
variable [CW : CWorld]
open Go.Proofs Go.PL
set_option maxRecDepth 100000
def trimSpec : Spec where
  X := RImg
  A m := [.slc 0 (.x 0 1 m.k 0) (.x (m.l.length - m.k)) (.x (m.cap - m.k)), .str [0]]
  H m := [bytesB m.l m.cap]
  pre m := PL.TrimIn m
  outs := [{ Y _ := Unit, post m _ := PL.TrimNo m, R _ _ := .nslc, H' m _ := [bytesB m.l m.cap] },
    { Y _ := Nat × Nat, post m y := PL.TrimYes m y, R m y := .slc 0 (.x 0 1 (m.k + y.2) 0) (.x ((y.1 : Int) - y.2)) (.x (m.cap - (m.k + y.2))), H' m _ := [bytesB m.l m.cap] }]
def nevSpec : Spec where
  X := List UInt8
  A x := [.str x]
  H x := []
  pre _ := False
  outs := []
theorem nevSpec_ok : nevSpec.OK PP 63 := ⟨⟨Tryd.f63, by kernel_rfl, by kernel_rfl, by kernel_rfl⟩, fun x hx => hx.elim⟩
def trimLfSpec : Spec := { trimLSpec with far := true }
theorem trimLfSpec_ok : trimLfSpec.OK PP 61 := trimLSpec_ok
noncomputable def trimSpecs : Specs := fun f xs hp => match f with
  | 63 => some nevSpec
  | 62 => some trimRSpec
  | 61 => some trimLfSpec
  | _ => noSpec f xs hp
theorem trimSpecs_ok : SpecsOK PP trimSpecs := by
  intro CW f xs hp S h
  unfold trimSpecs at h
  split at h
  · cases h; exact nevSpec_ok
  · cases h; exact trimRSpec_ok
  · cases h; exact trimLfSpec_ok
  · exact noSpec_ok CW f xs hp S h
def trim_vc (ar : AR) (x : trimSpec.X) : Prop :=
  (ar.eq ((↑x.l.length : Int).sub x.k) 0 → (∃ (y : Unit), TrimNo x ∧ x.cap = x.cap ∧ ints x.l = ints x.l ∧ True) ∨ ∃ (y : Nat × Nat), TrimYes x y ∧ 0 = (↑y.fst : Int).sub (↑y.snd :
  Int) ∧ 0 = x.cap.sub (x.k.add (↑y.snd : Int)) ∧ x.cap = x.cap ∧ ints x.l = ints x.l ∧ True) ∧ (¬ar.eq ((↑x.l.length : Int).sub x.k) 0 → (ar.seq [UInt8.ofNat 0] [] → (∃ (y :
  Unit), TrimNo x ∧ False) ∨ ∃ (y : Nat × Nat), TrimYes x y ∧ (Nat.add 0 (x.k.toNat.mul 1)).add 0 = (Nat.add 0 ((x.k.add (↑y.snd : Int)).toNat.mul 1)).add 0 ∧ (↑x.l.length :
  Int).sub x.k = (↑y.fst : Int).sub (↑y.snd : Int) ∧ x.cap.sub x.k = x.cap.sub (x.k.add (↑y.snd : Int)) ∧ x.cap = x.cap ∧ ints x.l = ints x.l ∧ True) ∧ (¬ar.seq [UInt8.ofNat 0] []
  → (ar.eq (ar.slen [UInt8.ofNat 0]) 1 → ar.lt 0 (ar.slen [UInt8.ofNat 0]) ∧ ∀ (z : Int), z = ar.sget [UInt8.ofNat 0] 0 → (ar.lt z 128 → ar.lt 0 (ar.slen [UInt8.ofNat 0]) ∧ ∀ (z :
  Int), z = ar.sget [UInt8.ofNat 0] 0 → ar.lt 0 (ar.slen [UInt8.ofNat 0]) ∧ ∀ (z_1 : Int), z_1 = ar.sget [UInt8.ofNat 0] 0 → ∃ (x_1 : RImg), (Nat.add 0 (x.k.toNat.mul 1)).add 0 =
  (Nat.add 0 (x_1.k.toNat.mul 1)).add 0 ∧ (↑x.l.length : Int).sub x.k = (↑x_1.l.length : Int).sub x_1.k ∧ x.cap.sub x.k = x_1.cap.sub x_1.k ∧ z = 0 ∧ x.cap = x_1.cap ∧ ints x.l =
  ints x_1.l ∧ TrimIn x_1 ∧ ∀ (y : Nat), TrimGo x_1 y → ∃ (x_2 : RImg × Int), (Nat.add 0 (x_1.k.toNat.mul 1)).add 0 = (Nat.add 0 (x_2.1.k.toNat.mul 1)).add 0 ∧ (↑y : Int) = x_2.snd
  ∧ x_1.cap.sub x_1.k = x_2.1.cap.sub x_2.1.k ∧ z_1 = 0 ∧ x_1.cap = x_2.1.cap ∧ ints x_1.l = ints x_2.1.l ∧ TrimLIn x_2 ∧ (∀ (y : Unit), (Int.lt 0 x_2.snd → False) → (∃ (y : Unit),
  TrimNo x ∧ x_2.1.cap = x.cap ∧ ints x_2.1.l = ints x.l ∧ True) ∨ ∃ (y : Nat × Nat), TrimYes x y ∧ 0 = (↑y.fst : Int).sub (↑y.snd : Int) ∧ 0 = x.cap.sub (x.k.add (↑y.snd : Int)) ∧
  x_2.1.cap = x.cap ∧ ints x_2.1.l = ints x.l ∧ True) ∧ ∀ (y : Nat), TrimLGo x_2 y → (∃ (y : Unit), TrimNo x ∧ False) ∨ ∃ (y_1 : Nat × Nat), TrimYes x y_1 ∧ (Nat.add 0
  ((x_2.1.k.add (↑y : Int)).toNat.mul 1)).add 0 = (Nat.add 0 ((x.k.add (↑y_1.snd : Int)).toNat.mul 1)).add 0 ∧ x_2.snd.sub (↑y : Int) = (↑y_1.fst : Int).sub (↑y_1.snd : Int) ∧
  x_2.1.cap.sub (x_2.1.k.add (↑y : Int)) = x.cap.sub (x.k.add (↑y_1.snd : Int)) ∧ x_2.1.cap = x.cap ∧ ints x_2.1.l = ints x.l ∧ True) ∧ (¬ar.lt z 128 → ∃ (x : List UInt8),
  [UInt8.ofNat 0] = x ∧ False ∧ True)) ∧ (¬ar.eq (ar.slen [UInt8.ofNat 0]) 1 → ∃ (x : List UInt8), [UInt8.ofNat 0] = x ∧ False ∧ True)))
theorem trim_eq (ar : AR) (x : trimSpec.X) : (run ar PP trimSpecs noInv 1000 34 (trimSpec.H x).length (Tryd.f34.body.getD .skip) (trimSpec.A x ++ List.replicate (Tryd.f34.ntmps - (trimSpec.A x).length) .any) (trimSpec.H x) (endCall ar PP Tryd.f34.results.toList (trimSpec.fin x))) = trim_vc ar x := by
  kernel_rfl
theorem trim_of (h : ∀ x, trimSpec.pre x → trim_vc ar0 x) : trimSpec.OK PP 34 :=
  Spec.ok_of_run (fn := Tryd.f34) (c := Tryd.f34.body.getD .skip) (by kernel_rfl) (by kernel_rfl) (by kernel_rfl) trimSpecs_ok (fun _ => noInv) 1000 (fun x hx => (trim_eq ar0 x).mpr (h x hx))
theorem trimSpec_ok : trimSpec.OK PP 34 := by
  refine trim_of fun (m : RImg) hx => ?_
  obtain ⟨h1, h2, h3, h4⟩ : PL.TrimIn m := id hx
  unfold trim_vc
  have z0 : ∀ z : Int, z = ar0.sget [UInt8.ofNat 0] 0 → z = 0 := fun z hz => by rw [hz]; rfl
  refine ⟨fun he => .inl ⟨(), ⟨?_⟩, rfl, rfl, trivial⟩, fun hne => ⟨fun e => (by cases e), fun _ => ⟨fun _ => ⟨show (0 : Int) < 1 by omega, fun z hz => ⟨fun _ => ⟨show (0 : Int) < 1 by omega, fun z hz => ⟨show (0 : Int) < 1 by omega, fun z1 hz1 =>
    ⟨m, rfl, rfl, rfl, z0 z hz, rfl, rfl, hx, fun y hy => ⟨(m, (y : Int)), rfl, rfl, rfl, z0 z1 hz1, rfl, rfl, ⟨h1, h2, Int.natCast_nonneg _, hy.le, h4, fun h => hy.last (Int.natCast_pos.1 h)⟩,
      fun _ hn => .inl ⟨(), ⟨fun h => hn (Int.natCast_pos.2 (hy.nz.1 h))⟩, rfl, rfl, trivial⟩, fun j hj => .inr ⟨(y, j), ⟨?_, ?_⟩, rfl, rfl, rfl, rfl, rfl, trivial⟩⟩⟩⟩⟩, fun hn => absurd (show z < 128 by rw [z0 z hz]; omega) hn⟩⟩, fun h => absurd rfl h⟩⟩⟩
  · have he' : (m.l.length : Int) - m.k = 0 := he
    rw [he']
    simpa [dropk] using nz_nil
  · have := hj.lt
    exact hy.nz.2 (by simp only at this; omega)
  · have := hj.lt
    simp only at this ⊢
    omega
end Go.Eng
namespace Go.PL
structure ReadIn (x : Cfg × List UInt8) : Prop where
  cfg : CfgIn x.1
  len : lenI x.1 ≤ x.2.length
  le : (x.2.length : Int) ≤ 140737488351232
structure ReadCap (x : Cfg × List UInt8) (y : Int × Int × Int) : Prop where
  a : nLive x.2 x.1 (nRows x.1) ≤ y.1
  b : rowsC x.1 ≤ y.2.1
  c : cntR x.2 x.1 ≤ y.2.2
structure Rd1 (x : Cfg × List UInt8) (i : Nat × Int) : Prop where
  le : (i.1 : Int) ≤ x.1.dirs
  cap : nLive x.2 x.1 i.1 ≤ i.2
structure Rd2 (x : Cfg × List UInt8) (i : Nat × Int) : Prop where
  le : (i.1 : Int) ≤ x.1.files
  cap : nLive x.2 x.1 (x.1.dirs.toNat + i.1) ≤ i.2
structure Rd3 (x : Cfg × List UInt8) (i : Nat × Int × Int) : Prop where
  le : (i.1 : Int) ≤ rowsC x.1
  cap : nLive x.2 x.1 (nRows x.1) ≤ i.2.1
  cap2 : (i.1 : Int) ≤ i.2.2
structure Rd4 (x : Cfg × List UInt8) (i : Nat × Int × Int × Int) : Prop where
  le : (i.1 : Int) ≤ cntR x.2 x.1
  cap : nLive x.2 x.1 (nRows x.1) ≤ i.2.1
  cap2 : rowsC x.1 ≤ i.2.2.1
  cap3 : (i.1 : Int) ≤ i.2.2.2
theorem col_step {α : Type} (f : Nat → α) {s : List UInt8} {c : Cfg} {k : Nat} {n : Int} {a : α} (hn : n = nLive s c k) (h : ¬ fstB (imR s c k) = 0) (ha : a = f k) :
    (((live s c k).map f).drop (Int.toNat 0)).take n.toNat ++ [a] = (live s c (k + 1)).map f := by
  subst hn ha
  rw [live_hit h, List.map_append, show Int.toNat 0 = 0 from rfl, List.drop_zero, List.take_of_length_le (by simp [nLive])]
  rfl
theorem rng_step {α : Type} (f : Nat → α) {k : Nat} {a : α} (ha : a = f k) :
    (((List.range k).map f).drop (Int.toNat 0)).take k ++ [a] = (List.range (k + 1)).map f := by
  subst ha
  rw [List.range_succ, List.map_append, show Int.toNat 0 = 0 from rfl, List.drop_zero, List.take_of_length_le (by simp)]
  rfl
theorem nLive_hit {s : List UInt8} {c : Cfg} {k : Nat} (h : ¬ fstB (imR s c k) = 0) : nLive s c (k + 1) = nLive s c k + 1 := by
  simp only [nLive, live_hit h, List.length_append, List.length_singleton]; omega
theorem nLive_range (s : List UInt8) (c : Cfg) (n : Nat) : 0 ≤ nLive s c n ∧ nLive s c n ≤ n := by
  have := live_le s c n
  simp only [nLive]; omega
end Go.PL
set_option linter.unusedSectionVars false
set_option linter.unusedSimpArgs false
set_option linter.unusedVariables false
namespace Go.Eng
variable [CW : CWorld]
open Go.Proofs Go.PL
set_option maxRecDepth 100000
attribute [local irreducible] run
def treeB (n : Nat) (c : Cfg) (len cap : Int) : Blk := .mk 28 [.one (.int .i64 (.x c.files)), .one (.int .i64 (.x c.dirs)), .one (.slc n (.l 0) (.x len) (.x cap))]
def objsB (x : Objs) : Blk := .mk 51 [.arr (.x x.cap) [.strs x.N, .strs x.T, .ints .i64 x.B, .ints .i64 x.O]]
def qB (l : List Int) (cap : Int) : Blk := .mk 3 [.arr (.x cap) [.ints .i64 l]]
def objsXn (s : List UInt8) (c : Cfg) (n : Nat) (cap : Int) : Objs := ⟨PL.oN s c n, PL.oT s c n, PL.oB s c n, PL.oO s c n, n, cap⟩
def poolB (n : SV) (q : SV) : Blk := .mk 32 [.one n, .one q]
theorem col_lens (s : List UInt8) (c : Cfg) (k : Nat) : (((PL.colK s c k).length : Int) = PL.nLive s c k ∧ ((PL.colN s c k).length : Int) = PL.nLive s c k ∧ ((PL.colP s c k).length : Int) = PL.nLive s c k ∧ ((PL.colR s c k).length : Int) = PL.nLive s c k ∧ ((PL.colS s c k).length : Int) = PL.nLive s c k ∧ ((PL.colZ s c k).length : Int) = PL.nLive s c k) := by
  simp [PL.colK, PL.colN, PL.colP, PL.colR, PL.colS, PL.colZ, PL.nLive]
theorem obj_lens (s : List UInt8) (c : Cfg) (k : Nat) : (PL.oN s c k).length = k ∧ (PL.oT s c k).length = k ∧ (PL.oB s c k).length = k ∧ (PL.oO s c k).length = k ∧ (PL.qL s c k).length = k := by
  simp [PL.oN, PL.oT, PL.oB, PL.oO, PL.qL]
end Go.Eng

