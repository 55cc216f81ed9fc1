/- Index, the reference: read. -/
import Derived.Test.YtfcjboomlfjanaaDoorIxE
import Derived.Test.YtfcjboomlfjanaaDoorIxD
set_option linter.unusedVariables false
set_option linter.unusedSimpArgs false

/- Index: what an image says, and when it is written just so: the plain law of Decode. -/
namespace Go.PL
def sg (l : List UInt8) (a n : Nat) : List UInt8 := (l.drop a).take n
theorem sg_len {l : List UInt8} {a n : Nat} (h : a + n ≤ l.length) : (sg l a n).length = n := by simp [sg]; omega
theorem sg_split (l : List UInt8) (a n m : Nat) : sg l a (n + m) = sg l a n ++ sg l (a + n) m := by
  simp only [sg, List.take_add, List.drop_drop]
theorem take_sg (l : List UInt8) (a n : Nat) : l.take (a + n) = l.take a ++ sg l a n := List.take_add
theorem drop_sg {l : List UInt8} {a n : Nat} : l.drop a = sg l a n ++ l.drop (a + n) := by
  rw [sg, ← List.drop_drop, List.take_append_drop]
theorem nz_append {a b : List UInt8} : NZ (a ++ b) ↔ NZ a ∨ NZ b := by
  constructor
  · rintro ⟨c, hc, h⟩
    rcases List.mem_append.1 hc with hc | hc
    · exact .inl ⟨c, hc, h⟩
    · exact .inr ⟨c, hc, h⟩
  · rintro (⟨c, hc, h⟩ | ⟨c, hc, h⟩)
    · exact ⟨c, List.mem_append_left _ hc, h⟩
    · exact ⟨c, List.mem_append_right _ hc, h⟩
theorem zs_iff {l : List UInt8} {n : Nat} (h : l.length = n) : zs n = l ↔ ¬ NZ l := by
  subst h
  constructor
  · rintro e ⟨b, hb, h0⟩
    rw [← e] at hb
    exact h0 (List.eq_of_mem_replicate hb)
  · intro h
    symm
    exact List.eq_replicate_iff.2 ⟨rfl, fun b hb => Classical.byContradiction fun h0 => h ⟨b, hb, h0⟩⟩
theorem nz_zs (n : Nat) : ¬ NZ (zs n) := (zs_iff (l := zs n) (by simp [zs])).1 rfl
theorem app_iff {a b c d : List UInt8} (h : a.length = c.length) : a ++ b = c ++ d ↔ a = c ∧ b = d :=
  ⟨fun e => List.append_inj e h, fun ⟨h1, h2⟩ => by rw [h1, h2]⟩
theorem big_eq {l : List UInt8} {k : Nat} {n : Int} (h : l.length = k) (h0 : 0 ≤ n) (h1 : n < 256 ^ k) : big n k = l ↔ n = numB l :=
  ⟨fun e => by rw [← e, numB_big k n h0 h1], fun e => by rw [e, big_numB k l h]⟩
theorem big_zs (k : Nat) : big 0 k = zs k := by
  have h : numB (zs k) = 0 := by
    induction k with
    | zero => rfl
    | succ k ih =>
      have : zs (k + 1) = zs k ++ [0] := by simp [zs, List.replicate_succ']
      rw [this, numB_snoc, ih]; rfl
  have := big_numB k (zs k) (by simp [zs])
  rwa [h] at this
theorem numB_zero {l : List UInt8} : numB l = 0 ↔ ¬ NZ l := by
  rw [← zs_iff rfl, ← big_zs, big_eq rfl (by omega) (by have := numB_range l.length l rfl; omega)]
  exact ⟨fun h => h.symm, fun h => h.symm⟩
/-- The name that the reference reads of a row. -/
def rfN (m : RImg) : List UInt8 := if fstB m = 0 then [] else dropk m.l (m.k + 4) (if 32 < lngB m then 32 else lngB m)
def nodR (m : RImg) (kind num : Int) : Nod := ⟨rdK m kind, rdN m num, rdP m, rfN m, rdZ m kind⟩
theorem lng_range (m : RImg) : 0 ≤ lngB m ∧ lngB m < 256 := by
  have := numB_lt (l := dropk m.l (m.k + 3) 1) (k := 1) (by simp [dropk]; omega)
  simpa [lngB] using this
theorem rfN_len (m : RImg) : (rfN m).length ≤ 32 := by
  have := lng_range m
  unfold rfN
  split
  · simp
  · simp only [dropk, List.length_take]
    split <;> omega
theorem nodR_in (m : RImg) (kind num : Int) : RowIn (nodR m kind num) := by
  refine ⟨?_, rfN_len m, ?_⟩
  · have := numB_lt (l := dropk m.l (m.k + 1) 2) (k := 2) (by simp [dropk]; omega)
    simp only [nodR, rdP]
    split <;> omega
  · have := numB_lt (l := dropk m.l (m.k + 36) 4) (k := 4) (by simp [dropk]; omega)
    simp only [nodR, rdZ]
    split
    · omega
    · split <;> omega
theorem rfN_ok {m : RImg} {kind : Int} (h : ¬ BadRow m kind) : rfN m = rdS m := by
  unfold rfN rdS
  by_cases hf : fstB m = 0
  · rw [if_pos hf, if_pos hf]
  · rw [if_neg hf, if_neg hf]
    unfold BadRow at h
    rw [if_neg hf] at h
    have : ¬ 32 < lngB m := fun g => h (.inr (.inl g))
    rw [if_neg this, lngC, if_neg this]
/-- A row is written again just as it stands, if nothing in it is bad. -/
theorem row_iff {l : List UInt8} {cap : Int} {bad : Prop} {k : Nat} {kind num : Int} (hk : kind = 1 ∨ kind = 2) (hl : (k : Int) + rsz kind ≤ l.length) :
    (if fstB ⟨l, cap, bad, k⟩ = 0 then zs (rsz kind).toNat else rowS (nodR ⟨l, cap, bad, k⟩ kind num)) = sg l k (rsz kind).toNat ↔ ¬ BadRow ⟨l, cap, bad, k⟩ kind := by
  obtain ⟨w, hw, hkw⟩ : ∃ w : Nat, rsz kind = ((36 + w : Nat) : Int) ∧ (kind = 1 ∧ w = 0 ∨ kind = 2 ∧ w = 4) := by
    rcases hk with rfl | rfl
    · exact ⟨0, rfl, by omega⟩
    · exact ⟨4, rfl, by omega⟩
  have hll : k + (36 + w) ≤ l.length := by omega
  rw [hw, Int.toNat_natCast]
  have f0 : fstB ⟨l, cap, bad, k⟩ = numB (sg l k 1) := by simp [fstB, dropk, sg]
  have fl : lngB ⟨l, cap, bad, k⟩ = numB (sg l (k + 3) 1) := by
    simp only [lngB, dropk, sg, show ((k : Int) + 3).toNat = k + 3 by omega, show (1 : Int).toNat = 1 from rfl]
  have e1 : 36 + w = 1 + (35 + w) := by omega
  by_cases hf : fstB ⟨l, cap, bad, k⟩ = 0
  · have hb : BadRow ⟨l, cap, bad, k⟩ kind ↔ NZ (sg l (k + 1) (35 + w)) := by
      unfold BadRow
      rw [if_pos hf, hw]
      simp only [dropk, sg, show ((k : Int) + 1).toNat = k + 1 by omega, show (((36 + w : Nat) : Int) - 1).toNat = 35 + w by omega]
    rw [if_pos hf, hb, zs_iff (sg_len hll), e1, sg_split, nz_append]
    rw [f0, numB_zero] at hf
    exact ⟨fun h g => h (.inr g), fun h g => g.elim hf h⟩
  rw [if_neg hf]
  have hlr := lng_range ⟨l, cap, bad, k⟩
  obtain ⟨L, hL⟩ : ∃ L : Nat, (if 32 < lngB ⟨l, cap, bad, k⟩ then 32 else lngB ⟨l, cap, bad, k⟩) = (L : Int) := ⟨Int.toNat (if 32 < lngB ⟨l, cap, bad, k⟩ then 32 else lngB ⟨l, cap, bad, k⟩), by split <;> omega⟩
  have hL32 : L ≤ 32 := by split at hL <;> omega
  have hname : rfN ⟨l, cap, bad, k⟩ = sg l (k + 4) L := by
    unfold rfN
    rw [if_neg hf, hL]
    simp only [dropk, sg, show ((k : Int) + 4).toNat = k + 4 by omega, Int.toNat_natCast]
  have hP : rdP ⟨l, cap, bad, k⟩ = numB (sg l (k + 1) 2) := by
    unfold rdP
    rw [if_neg hf]
    simp only [dropk, sg, show ((k : Int) + 1).toNat = k + 1 by omega, show (2 : Int).toNat = 2 from rfl]
  have hZ : (if kind = 2 then big (rdZ ⟨l, cap, bad, k⟩ kind) 4 else []) = sg l (k + 36) w := by
    rcases hkw with ⟨rfl, rfl⟩ | ⟨rfl, rfl⟩
    · simp [sg]
    · rw [if_pos rfl]
      unfold rdZ
      rw [if_neg hf, if_pos rfl]
      simp only [dropk, show ((k : Int) + 36).toNat = k + 36 by omega, show (4 : Int).toNat = 4 from rfl]
      exact big_numB 4 _ (by simp; omega)
  have hK : rdK ⟨l, cap, bad, k⟩ kind = kind := by unfold rdK; rw [if_neg hf]
  have b1 : sg l k 36 = sg l k 1 ++ sg l (k + 1) 35 := sg_split l k 1 35
  have b2 : sg l (k + 1) 35 = sg l (k + 1) 2 ++ sg l (k + 3) 33 := sg_split l (k + 1) 2 33
  have b3 : sg l (k + 3) 33 = sg l (k + 3) 1 ++ sg l (k + 4) 32 := sg_split l (k + 3) 1 32
  have b4 : sg l (k + 4) 32 = sg l (k + 4) L ++ sg l (k + 4 + L) (32 - L) := by
    have := sg_split l (k + 4) L (32 - L)
    rwa [show L + (32 - L) = 32 by omega] at this
  have es : sg l k (36 + w) = sg l k 1 ++ (sg l (k + 1) 2 ++ (sg l (k + 3) 1 ++ (sg l (k + 4) L ++ sg l (k + 4 + L) (32 - L)))) ++ sg l (k + 36) w := by
    rw [sg_split l k 36 w, b1, b2, b3, b4]
  have er : rowS (nodR ⟨l, cap, bad, k⟩ kind num) = [1] ++ (big (numB (sg l (k + 1) 2)) 2 ++ (big (L : Int) 1 ++ (sg l (k + 4) L ++ zs (32 - L)))) ++ sg l (k + 36) w := by
    simp only [rowS, rowA, nodR, hname, hP, hK, hZ, sg_len (show k + 4 + L ≤ l.length by omega)]
    rfl
  rw [es, er, app_iff (by simp [big_length, sg_len (show k + 4 + L ≤ l.length by omega), sg_len (show k + 1 ≤ l.length by omega), sg_len (show k + 1 + 2 ≤ l.length by omega), sg_len (show k + 3 + 1 ≤ l.length by omega), sg_len (show k + 4 + L + (32 - L) ≤ l.length by omega), zs]; omega),
    app_iff (by simp [sg_len (show k + 1 ≤ l.length by omega)]), app_iff (by simp [big_length, sg_len (show k + 1 + 2 ≤ l.length by omega)]), app_iff (by simp [big_length, sg_len (show k + 3 + 1 ≤ l.length by omega)]), app_iff rfl,
    zs_iff (sg_len (show k + 4 + L + (32 - L) ≤ l.length by omega)), big_eq (sg_len (show k + 1 + 2 ≤ l.length by omega)) (numB_range 2 _ (sg_len (by omega))).1 (numB_range 2 _ (sg_len (by omega))).2,
    big_eq (sg_len (show k + 3 + 1 ≤ l.length by omega)) (by omega) (by omega)]
  have h1 : [1] = sg l k 1 ↔ fstB ⟨l, cap, bad, k⟩ = 1 := by
    rw [show ([1] : List UInt8) = big 1 1 by decide, big_eq (sg_len (by omega)) (by omega) (by omega), f0]
    exact ⟨fun h => h.symm, fun h => h.symm⟩
  rw [h1]
  unfold BadRow
  rw [if_neg hf]
  by_cases hg : 32 < lngB ⟨l, cap, bad, k⟩
  · rw [if_pos hg] at hL
    rw [fl] at hg
    refine ⟨fun ⟨⟨_, _, h, _⟩, _⟩ => absurd h (by omega), fun h => absurd (.inr (.inl (fl ▸ hg))) h⟩
  · have hC : lngC ⟨l, cap, bad, k⟩ = (L : Int) := by rw [← hL, if_neg hg, lngC, if_neg hg]
    rw [if_neg hg] at hL
    rw [hC]
    have hd : dropk l ((k : Int) + 4 + (L : Int)) (32 - (L : Int)) = sg l (k + 4 + L) (32 - L) := by
      simp only [dropk, sg, show ((k : Int) + 4 + (L : Int)).toNat = k + 4 + L by omega, show (32 - (L : Int)).toNat = 32 - L by omega]
    simp only [hd]
    rw [← fl, hL]
    constructor
    · rintro ⟨⟨g1, _, _, _, g2⟩, _⟩ (h | h | h)
      · exact h g1
      · omega
      · exact g2 h
    · intro h
      exact ⟨⟨Classical.byContradiction fun g => h (.inl g), by trivial, by trivial, by trivial, fun g => h (.inr (.inr g))⟩, by trivial⟩
end Go.PL

/- Index: what is read out of an image; when it is written just so. -/
namespace Go.PL
def offR (c : Cfg) (p : Nat) : Int := if (p : Int) < c.dirs then 36 * p else 36 * c.dirs + 40 * (p - c.dirs)
def kndR (c : Cfg) (p : Nat) : Int := if (p : Int) < c.dirs then 1 else 2
def nmbR (c : Cfg) (p : Nat) : Int := if (p : Int) < c.dirs then p + 1 else p - c.dirs
def imR (s : List UInt8) (c : Cfg) (p : Nat) : RImg := ⟨s, 0, False, offR c p⟩
def liveP (s : List UInt8) (c : Cfg) (p : Nat) : Bool := decide (¬ fstB (imR s c p) = 0)
def live (s : List UInt8) (c : Cfg) (n : Nat) : List Nat := (List.range n).filter (liveP s c)
def colK (s : List UInt8) (c : Cfg) (n : Nat) : List Int := (live s c n).map fun p => rdK (imR s c p) (kndR c p)
def colN (s : List UInt8) (c : Cfg) (n : Nat) : List Int := (live s c n).map fun p => rdN (imR s c p) (nmbR c p)
def colP (s : List UInt8) (c : Cfg) (n : Nat) : List Int := (live s c n).map fun p => rdP (imR s c p)
def colS (s : List UInt8) (c : Cfg) (n : Nat) : List (List UInt8) := (live s c n).map fun p => rdS (imR s c p)
def colR (s : List UInt8) (c : Cfg) (n : Nat) : List (List UInt8) := (live s c n).map fun p => rfN (imR s c p)
def colZ (s : List UInt8) (c : Cfg) (n : Nat) : List Int := (live s c n).map fun p => rdZ (imR s c p) (kndR c p)
def nLive (s : List UInt8) (c : Cfg) (n : Nat) : Int := (live s c n).length
def offO (c : Cfg) : Int := 36 * c.dirs + 40 * c.files
def rowsC (c : Cfg) : Int := c.files + c.slots
def offQ (c : Cfg) : Int := offO c + 40 * rowsC c
def oN (s : List UInt8) (c : Cfg) (n : Nat) : List (List UInt8) := (List.range n).map fun (j : Nat) => dropk s (offO c + 40 * (j : Int)) 16
def oT (s : List UInt8) (c : Cfg) (n : Nat) : List (List UInt8) := (List.range n).map fun (j : Nat) => dropk s (offO c + 40 * (j : Int) + 16) 16
def oB (s : List UInt8) (c : Cfg) (n : Nat) : List Int := (List.range n).map fun (j : Nat) => numB (dropk s (offO c + 40 * (j : Int) + 32) 4)
def oO (s : List UInt8) (c : Cfg) (n : Nat) : List Int := (List.range n).map fun (j : Nat) => numB (dropk s (offO c + 40 * (j : Int) + 36) 4) - 1
def cntQ (s : List UInt8) (c : Cfg) : Int := numB (dropk s (offQ c) 4)
def cntP (s : List UInt8) (c : Cfg) : Int := if rowsC c < cntQ s c then 0 else cntQ s c
def cntR (s : List UInt8) (c : Cfg) : Int := if rowsC c < cntQ s c then rowsC c else cntQ s c
def qL (s : List UInt8) (c : Cfg) (n : Nat) : List Int := (List.range n).map fun (j : Nat) => numB (dropk s (offQ c + 4 + 4 * (j : Int)) 4)
def nRows (c : Cfg) : Nat := (c.dirs + c.files).toNat
def nodsP (s : List UInt8) (c : Cfg) (n : Nat) (cap : Int) : Nods := ⟨colK s c n, colN s c n, colP s c n, colS s c n, colZ s c n, nLive s c n, cap⟩
def nodsR (s : List UInt8) (c : Cfg) (n : Nat) (cap : Int) : Nods := ⟨colK s c n, colN s c n, colP s c n, colR s c n, colZ s c n, nLive s c n, cap⟩
def treeP (s : List UInt8) (c : Cfg) (cap : Int) : Tree := ⟨c.files, c.dirs, nodsP s c (nRows c) cap⟩
def treeR (s : List UInt8) (c : Cfg) (cap : Int) : Tree := ⟨c.files, c.dirs, nodsR s c (nRows c) cap⟩
def objsX (s : List UInt8) (c : Cfg) (cap : Int) : Objs := ⟨oN s c (rowsC c).toNat, oT s c (rowsC c).toNat, oB s c (rowsC c).toNat, oO s c (rowsC c).toNat, rowsC c, cap⟩
def poolP (s : List UInt8) (c : Cfg) (cap qcap : Int) : Pool := ⟨objsX s c cap, qL s c (cntP s c).toNat, cntP s c, qcap⟩
def poolR (s : List UInt8) (c : Cfg) (cap qcap : Int) : Pool := ⟨objsX s c cap, qL s c (cntR s c).toNat, cntR s c, qcap⟩
/-- Nothing that is never written. -/
structure GoodS (s : List UInt8) (c : Cfg) : Prop where
  rows : ∀ p, p < nRows c → ¬ BadRow (imR s c p) (kndR c p)
  cnt : cntQ s c ≤ rowsC c
  rest : ¬ NZ (s.drop (offQ c + 4 + 4 * cntQ s c).toNat)
theorem live_hit {s : List UInt8} {c : Cfg} {n : Nat} (h : ¬ fstB (imR s c n) = 0) : live s c (n + 1) = live s c n ++ [n] := by
  have : liveP s c n = true := by simp [liveP, h]
  simp [live, List.range_succ, this]
theorem live_miss {s : List UInt8} {c : Cfg} {n : Nat} (h : fstB (imR s c n) = 0) : live s c (n + 1) = live s c n := by
  have : liveP s c n = false := by simp [liveP, h]
  simp [live, List.range_succ, this]
theorem live_le (s : List UInt8) (c : Cfg) (n : Nat) : (live s c n).length ≤ n := by
  have := List.length_filter_le (liveP s c) (List.range n)
  simpa [live] using this
theorem mem_live {s : List UInt8} {c : Cfg} {n p : Nat} : p ∈ live s c n ↔ p < n ∧ ¬ fstB (imR s c p) = 0 := by
  simp [live, liveP]
theorem getD_map {α β : Type} (f : α → β) {l : List α} {i : Nat} {d : β} (h : i < l.length) : (l.map f).getD i d = f l[i] := by
  rw [List.getD_eq_getElem?_getD, List.getElem?_eq_getElem (by simpa using h), List.getElem_map]; rfl
theorem getD_range {β : Type} (f : Nat → β) {n i : Nat} {d : β} (h : i < n) : ((List.range n).map f).getD i d = f i := by
  rw [getD_map f (by simpa using h), List.getElem_range]
theorem nodsR_at {s : List UInt8} {c : Cfg} {n : Nat} {cap : Int} {i : Nat} (h : i < (live s c n).length) :
    (nodsR s c n cap).at i = nodR (imR s c (live s c n)[i]) (kndR c (live s c n)[i]) (nmbR c (live s c n)[i]) := by
  simp only [Nods.at, nodsR, colK, colN, colP, colR, colZ, getD_map _ h, nodR]
def keyR (c : Cfg) (p : Nat) : Int := kndR c p * 1000000 + nmbR c p
theorem key_nodR {s : List UInt8} {c : Cfg} {p : Nat} (h : ¬ fstB (imR s c p) = 0) : key (nodR (imR s c p) (kndR c p) (nmbR c p)) = keyR c p := by
  simp only [key, nodR, keyR, rdK, rdN, if_neg h]
theorem keyR_inj {c : Cfg} (hc : CfgIn c) {p q : Nat} (_hp : p < nRows c) (_hq : q < nRows c) (h : keyR c p = keyR c q) : p = q := by
  obtain ⟨c1, c2, c3, c4, c5, c6⟩ := hc
  simp only [nRows] at _hp _hq
  simp only [keyR, kndR, nmbR] at h
  split at h <;> split at h <;> omega
theorem slot_row {s : List UInt8} {c : Cfg} {cap : Int} {w : Nat} (hc : CfgIn c) (hs : Sorted (nodsR s c (nRows c) cap)) {p : Nat} (hp : p < nRows c) :
    slot (nodsR s c (nRows c) cap) (keyR c p) w = if fstB (imR s c p) = 0 then zs w else rowS (nodR (imR s c p) (kndR c p) (nmbR c p)) := by
  have hlen : (nodsR s c (nRows c) cap).len.toNat = (live s c (nRows c)).length := by simp [nodsR, nLive]
  by_cases hf : fstB (imR s c p) = 0
  · rw [if_pos hf]
    refine slot_no fun i hi hk => ?_
    rw [hlen] at hi
    rw [nodsR_at hi] at hk
    have hm := mem_live.1 (List.getElem_mem hi)
    rw [key_nodR hm.2] at hk
    have := keyR_inj hc hm.1 hp hk
    rw [this] at hm
    exact hm.2 hf
  · rw [if_neg hf]
    obtain ⟨i, hi, he⟩ := List.getElem_of_mem (mem_live.2 ⟨hp, hf⟩)
    have := slot_at (w := w) hs (a := i) (by rw [hlen]; exact hi) (by rw [nodsR_at hi, he, key_nodR hf])
    rw [this, nodsR_at hi, he]
theorem slot_iff {s : List UInt8} {c : Cfg} {cap : Int} (hc : CfgIn c) (hs : Sorted (nodsR s c (nRows c) cap)) {p : Nat} (hp : p < nRows c) (hl : offR c p + rsz (kndR c p) ≤ s.length) :
    slot (nodsR s c (nRows c) cap) (keyR c p) (rsz (kndR c p)).toNat = sg s (offR c p).toNat (rsz (kndR c p)).toNat ↔ ¬ BadRow (imR s c p) (kndR c p) := by
  have hk : kndR c p = 1 ∨ kndR c p = 2 := by unfold kndR; split <;> simp
  have h0 : 0 ≤ offR c p := by
    obtain ⟨c1, c2, c3, c4, c5, c6⟩ := hc
    unfold offR; split <;> omega
  rw [slot_row hc hs hp]
  obtain ⟨k, hk'⟩ : ∃ k : Nat, offR c p = (k : Int) := ⟨(offR c p).toNat, by omega⟩
  rw [hk'] at hl
  simp only [imR, hk', Int.toNat_natCast]
  exact row_iff hk hl
theorem dirs_iff {s : List UInt8} {c : Cfg} {cap : Int} (hc : CfgIn c) (ht : TreeOK c (treeR s c cap)) (hl : lenI c ≤ s.length) :
    ∀ k : Nat, (k : Int) ≤ c.dirs → (dirsS (nodsR s c (nRows c) cap) k = sg s 0 (36 * k) ↔ ∀ p, p < k → ¬ BadRow (imR s c p) (kndR c p)) := by
  obtain ⟨c1, c2, c3, c4, c5, c6⟩ := id hc
  intro k
  induction k with
  | zero => intro _; simp [dirsS, sg]
  | succ k ih =>
    intro hk
    have e1 : offR c k = 36 * k := by unfold offR; rw [if_pos (by omega)]
    have e2 : kndR c k = 1 := by unfold kndR; rw [if_pos (by omega)]
    have e3 : keyR c k = 1000001 + (k : Int) := by unfold keyR nmbR; rw [e2, if_pos (by omega)]; omega
    have hi := slot_iff (s := s) (cap := cap) hc (tree_sorted hc ht) (p := k) (by simp only [nRows]; omega) (by rw [e1, e2]; simp only [lenI] at hl; simp only [rsz]; omega)
    rw [e1, e2, e3, show (rsz 1).toNat = 36 from rfl, show ((36 : Int) * (k : Int)).toNat = 36 * k by omega] at hi
    have hdl : (dirsS (nodsR s c (nRows c) cap) k).length = 36 * k := dirsS_len hc ht k (by omega)
    rw [dirsS, show 36 * (k + 1) = 36 * k + 36 by omega, sg_split, Nat.zero_add,
      app_iff (by rw [hdl, sg_len (by simp only [lenI] at hl; omega)]), ih (by omega), hi]
    constructor
    · rintro ⟨h1, h2⟩ p hp
      by_cases e : p = k
      · subst e; rw [e2]; exact h2
      · exact h1 p (by omega)
    · intro h
      exact ⟨fun p hp => h p (by omega), by have := h k (by omega); rwa [e2] at this⟩
theorem files_iff {s : List UInt8} {c : Cfg} {cap : Int} (hc : CfgIn c) (ht : TreeOK c (treeR s c cap)) (hl : lenI c ≤ s.length) :
    ∀ k : Nat, (k : Int) ≤ c.files → (filesS (nodsR s c (nRows c) cap) k = sg s (36 * c.dirs.toNat) (40 * k) ↔ ∀ p, c.dirs.toNat ≤ p → p < c.dirs.toNat + k → ¬ BadRow (imR s c p) (kndR c p)) := by
  obtain ⟨c1, c2, c3, c4, c5, c6⟩ := id hc
  intro k
  induction k with
  | zero =>
    intro _
    simp only [filesS, Nat.mul_zero, sg, List.take_zero, true_iff]
    intro p h1 h2; omega
  | succ k ih =>
    intro hk
    have hnl : ¬ ((c.dirs.toNat + k : Nat) : Int) < c.dirs := by omega
    have e1 : offR c (c.dirs.toNat + k) = 36 * c.dirs + 40 * k := by unfold offR; rw [if_neg hnl]; omega
    have e2 : kndR c (c.dirs.toNat + k) = 2 := by unfold kndR; rw [if_neg hnl]
    have e3 : keyR c (c.dirs.toNat + k) = 2000000 + (k : Int) := by unfold keyR nmbR; rw [e2, if_neg hnl]; omega
    have hi := slot_iff (s := s) (cap := cap) hc (tree_sorted hc ht) (p := c.dirs.toNat + k) (by simp only [nRows]; omega) (by rw [e1, e2]; simp only [lenI] at hl; simp only [rsz]; omega)
    rw [e1, e2, e3, show (rsz 2).toNat = 40 from rfl, show ((36 : Int) * c.dirs + 40 * (k : Int)).toNat = 36 * c.dirs.toNat + 40 * k by omega] at hi
    have hdl : (filesS (nodsR s c (nRows c) cap) k).length = 40 * k := filesS_len hc ht k (by omega)
    rw [filesS, show 40 * (k + 1) = 40 * k + 40 by omega, sg_split,
      app_iff (by rw [hdl, sg_len (by simp only [lenI] at hl; omega)]), ih (by omega), hi]
    constructor
    · rintro ⟨h1, h2⟩ p hp hp2
      by_cases e : p = c.dirs.toNat + k
      · subst e; rw [e2]; exact h2
      · exact h1 p hp (by omega)
    · intro h
      exact ⟨fun p hp hp2 => h p hp (by omega), by have := h (c.dirs.toNat + k) (Nat.le_add_right _ _) (by omega); rwa [e2] at this⟩
theorem objs_eq {s : List UInt8} {c : Cfg} {cap : Int} (hc : CfgIn c) (hl : lenI c ≤ s.length) :
    ∀ k : Nat, (k : Int) ≤ rowsC c → objsL (objsX s c cap) k = sg s (offO c).toNat (40 * k) := by
  obtain ⟨c1, c2, c3, c4, c5, c6⟩ := id hc
  intro k
  induction k with
  | zero => intro _; simp [objsL, sg]
  | succ k ih =>
    intro hk
    simp only [lenI] at hl
    simp only [rowsC] at hk
    have hO : (offO c).toNat = 36 * c.dirs.toNat + 40 * c.files.toNat := by unfold offO; omega
    have hk2 : k < (rowsC c).toNat := by simp only [rowsC]; omega
    have d : ∀ a n : Nat, dropk s (offO c + 40 * (k : Int) + (a : Int)) (n : Int) = sg s ((offO c).toNat + 40 * k + a) n := fun a n => by
      simp only [dropk, sg, Int.toNat_natCast, show (offO c + 40 * (k : Int) + (a : Int)).toNat = (offO c).toNat + 40 * k + a by unfold offO; omega]
    have d0 : dropk s (offO c + 40 * (k : Int)) 16 = sg s ((offO c).toNat + 40 * k) 16 := by have := d 0 16; simpa using this
    have d1 : dropk s (offO c + 40 * (k : Int) + 16) 16 = sg s ((offO c).toNat + 40 * k + 16) 16 := d 16 16
    have d2 : dropk s (offO c + 40 * (k : Int) + 32) 4 = sg s ((offO c).toNat + 40 * k + 32) 4 := d 32 4
    have d3 : dropk s (offO c + 40 * (k : Int) + 36) 4 = sg s ((offO c).toNat + 40 * k + 36) 4 := d 36 4
    rw [objsL, ih (by simp only [rowsC]; omega), show 40 * (k + 1) = 40 * k + 40 by omega, sg_split]
    congr 1
    simp only [objS, objsX, oN, oT, oB, oO, getD_range _ hk2, Int.sub_add_cancel]
    rw [d0, d1, d2, d3, big_numB 4 _ (sg_len (by omega)), big_numB 4 _ (sg_len (by omega)), ← sg_split s _ 4 4, ← sg_split s _ 16 8, ← sg_split s _ 16 24]
theorem q_eq {s : List UInt8} {c : Cfg} (hc : CfgIn c) (hl : lenI c ≤ s.length) {n : Nat} (hn : (n : Int) ≤ rowsC c) :
    ∀ k : Nat, k ≤ n → qS (qL s c n) k = sg s ((offQ c).toNat + 4) (4 * k) := by
  obtain ⟨c1, c2, c3, c4, c5, c6⟩ := id hc
  intro k
  induction k with
  | zero => intro _; simp [qS, sg]
  | succ k ih =>
    intro hk
    simp only [lenI] at hl
    simp only [rowsC] at hn
    have d : dropk s (offQ c + 4 + 4 * (k : Int)) 4 = sg s ((offQ c).toNat + 4 + 4 * k) 4 := by
      simp only [dropk, sg, show (4 : Int).toNat = 4 from rfl, show (offQ c + 4 + 4 * (k : Int)).toNat = (offQ c).toNat + 4 + 4 * k by unfold offQ offO rowsC; omega]
    rw [qS, ih (by omega), show 4 * (k + 1) = 4 * k + 4 by omega, sg_split]
    congr 1
    simp only [qL, getD_range _ (show k < n by omega)]
    rw [d, big_numB 4 _ (sg_len (by unfold offQ offO rowsC; omega))]
theorem q_rest (s : List UInt8) (c : Cfg) (n : Nat) : ∀ d : Nat, qS (qL s c n) (n + d) = qS (qL s c n) n ++ zs (4 * d)
  | 0 => by simp [zs]
  | d + 1 => by
    have : (qL s c n).getD (n + d) 0 = 0 := by rw [List.getD_eq_getElem?_getD, List.getElem?_eq_none (by simp [qL])]; rfl
    rw [← Nat.add_assoc, qS, q_rest s c n d, this, big_zs, List.append_assoc]
    congr 1
    rw [zs, zs, zs, List.replicate_append_replicate]
    rfl
theorem cntQ_range (s : List UInt8) (c : Cfg) : 0 ≤ cntQ s c ∧ cntQ s c < 4294967296 := by
  have := numB_lt (l := dropk s (offQ c) 4) (k := 4) (by simp [dropk]; omega)
  simpa [cntQ] using this
theorem cntR_range {s : List UInt8} {c : Cfg} (hc : CfgIn c) : 0 ≤ cntR s c ∧ cntR s c ≤ rowsC c ∧ (cntR s c = cntQ s c ↔ cntQ s c ≤ rowsC c) := by
  have := cntQ_range s c
  obtain ⟨c1, c2, c3, c4, c5, c6⟩ := id hc
  by_cases h : rowsC c < cntQ s c
  · have e : cntR s c = rowsC c := if_pos h
    simp only [rowsC] at h e ⊢
    omega
  · have e : cntR s c = cntQ s c := if_neg h
    simp only [rowsC] at h e ⊢
    omega
/-- What the reference reads is written just so where nothing is bad, and only there. -/
theorem full_iff {s : List UInt8} {c : Cfg} {cap ocap qcap : Int} (hc : CfgOK c) (hl : (s.length : Int) = pagesI c * (c.page - 5)) (ht : TreeOK c (treeR s c cap)) (hp : ImgIn (c, treeR s c cap, poolR s c ocap qcap)) :
    fullS c (treeR s c cap) (poolR s c ocap qcap) = s ↔ GoodS s c := by
  obtain ⟨f1, f2, f3⟩ := full_fits hc
  have hci := hc.ok
  obtain ⟨c1, c2, c3, c4, c5, c6⟩ := id hci
  have hlen := imgS_len hp
  simp only at hlen
  have hl2 : lenI c ≤ s.length := by omega
  obtain ⟨q0, q1, q2⟩ := cntR_range (s := s) hci
  obtain ⟨n, hn⟩ : ∃ n : Nat, cntR s c = (n : Int) := ⟨(cntR s c).toNat, by omega⟩
  have hq0 := cntQ_range s c
  have hO : (offO c).toNat = 36 * c.dirs.toNat + 40 * c.files.toNat := by unfold offO; omega
  have hQ : (offQ c).toNat = (offO c).toNat + 40 * (rowsC c).toNat := by unfold offQ offO rowsC; omega
  have hR : (rowsC c).toNat = c.files.toNat + c.slots.toNat := by unfold rowsC; omega
  have hL : lenI c = ((36 * c.dirs.toNat + 40 * c.files.toNat + 40 * (rowsC c).toNat + 4 + 4 * (rowsC c).toNat : Nat) : Int) := by simp only [lenI, rowsC]; omega
  have hRn : n ≤ (rowsC c).toNat := by omega
  have a1 := dirs_iff (cap := cap) hci ht hl2 c.dirs.toNat (by omega)
  have a2 := files_iff (cap := cap) hci ht hl2 c.files.toNat (by omega)
  have a3 := objs_eq (cap := ocap) hci hl2 (rowsC c).toNat (by omega)
  have a4 := q_eq hci hl2 (n := n) (by omega) n (Nat.le_refl _)
  have a5 := q_rest s c n ((rowsC c).toNat - n)
  rw [show n + ((rowsC c).toNat - n) = (rowsC c).toNat by omega, a4] at a5
  have l1 : (dirsS (nodsR s c (nRows c) cap) c.dirs.toNat).length = _ := dirsS_len hci ht c.dirs.toNat (by omega)
  have l2 : (filesS (nodsR s c (nRows c) cap) c.files.toNat).length = _ := filesS_len hci ht c.files.toNat (by omega)
  have es : s = sg s 0 (36 * c.dirs.toNat) ++ (sg s (36 * c.dirs.toNat) (40 * c.files.toNat) ++ (sg s (offO c).toNat (40 * (rowsC c).toNat) ++ (sg s (offQ c).toNat 4 ++ (sg s ((offQ c).toNat + 4) (4 * n) ++ s.drop ((offQ c).toNat + 4 + 4 * n))))) := by
    rw [← drop_sg, ← drop_sg, hQ, ← drop_sg, hO, ← drop_sg]
    have := drop_sg (l := s) (a := 0) (n := 36 * c.dirs.toNat)
    simpa using this
  have ef : fullS c (treeR s c cap) (poolR s c ocap qcap) = dirsS (nodsR s c (nRows c) cap) c.dirs.toNat ++ (filesS (nodsR s c (nRows c) cap) c.files.toNat ++ (sg s (offO c).toNat (40 * (rowsC c).toNat) ++ (big (cntR s c) 4 ++ (sg s ((offQ c).toNat + 4) (4 * n) ++ zs (s.length - ((offQ c).toNat + 4 + 4 * n)))))) := by
    have ez : zs (4 * ((rowsC c).toNat - n)) ++ zs (s.length - (lenI c).toNat) = zs (s.length - ((offQ c).toNat + 4 + 4 * n)) := by
      simp only [zs, List.replicate_append_replicate]
      congr 1
      omega
    have e0 : (pagesI c * (c.page - 5)).toNat - (imgS c (treeR s c cap) (poolR s c ocap qcap)).length = s.length - (lenI c).toNat := by omega
    rw [fullS, e0]
    simp only [imgS, treeR, poolR, objsX] at a3 ⊢
    rw [a3, hn, Int.toNat_natCast, a5, ← ez]
    simp only [List.append_assoc]
  have hbig : big (cntR s c) 4 = sg s (offQ c).toNat 4 ↔ cntQ s c ≤ rowsC c := by
    rw [big_eq (sg_len (by omega)) q0 (by simp only [rowsC] at q1; omega), ← q2]
    exact Iff.rfl
  have hG : GoodS s c ↔ ((∀ p, p < c.dirs.toNat → ¬ BadRow (imR s c p) (kndR c p)) ∧ (∀ p, c.dirs.toNat ≤ p → p < c.dirs.toNat + c.files.toNat → ¬ BadRow (imR s c p) (kndR c p)) ∧ cntQ s c ≤ rowsC c ∧ ¬ NZ (s.drop ((offQ c).toNat + 4 + 4 * n))) := by
    have hN : nRows c = c.dirs.toNat + c.files.toNat := by unfold nRows; omega
    constructor
    · rintro ⟨g1, g2, g3⟩
      refine ⟨fun p hp => g1 p (by omega), fun p _ hp => g1 p (by omega), g2, ?_⟩
      rwa [← q2.2 g2, hn, show (offQ c + 4 + 4 * (n : Int)).toNat = (offQ c).toNat + 4 + 4 * n by unfold offQ offO rowsC; omega] at g3
    · rintro ⟨g1, g2, g3, g4⟩
      refine ⟨fun p hp => ?_, g3, ?_⟩
      · by_cases h : p < c.dirs.toNat
        · exact g1 p h
        · exact g2 p (by omega) (by omega)
      · rwa [← q2.2 g3, hn, show (offQ c + 4 + 4 * (n : Int)).toNat = (offQ c).toNat + 4 + 4 * n by unfold offQ offO rowsC; omega]
  rw [hG, ← a1, ← a2, ← hbig, ← zs_iff (l := s.drop ((offQ c).toNat + 4 + 4 * n)) (n := s.length - ((offQ c).toNat + 4 + 4 * n)) (by simp), ef]
  conv => lhs; rhs; rw [es]
  rw [app_iff (by rw [l1, sg_len (by omega)]), app_iff (by rw [l2, sg_len (by omega)]), app_iff rfl, app_iff (by rw [big_length, sg_len (by omega)]), app_iff rfl]
  exact ⟨fun ⟨h1, h2, _, h3, _, h4⟩ => ⟨h1, h2, h3, h4⟩, fun ⟨h1, h2, h3, h4⟩ => ⟨h1, h2, rfl, h3, rfl, h4⟩⟩
/-- Where nothing is bad, both read the same. -/
theorem col_same {s : List UInt8} {c : Cfg} (h : GoodS s c) : colR s c (nRows c) = colS s c (nRows c) :=
  List.map_congr_left fun p hp => rfN_ok (h.rows p (mem_live.1 hp).1)
theorem tree_same {s : List UInt8} {c : Cfg} (h : GoodS s c) (cap : Int) : treeR s c cap = treeP s c cap := by
  simp only [treeR, treeP, nodsR, nodsP, col_same h]
theorem cnt_same {s : List UInt8} {c : Cfg} (h : GoodS s c) : cntR s c = cntQ s c ∧ cntP s c = cntQ s c := by
  have := h.cnt
  exact ⟨if_neg (by omega), if_neg (by omega)⟩
theorem pool_same {s : List UInt8} {c : Cfg} (h : GoodS s c) (cap qcap : Int) : poolR s c cap qcap = poolP s c cap qcap := by
  simp only [poolR, poolP, cnt_same h]
/-- Pages of one length are their text's pieces. -/
theorem pieces_flat : ∀ {l : List (List UInt8)} {n : Nat}, (∀ t ∈ l, t.length = n) → pieces l.flatten n l.length = l := by
  intro l n h
  apply List.ext_getElem
  · simp [pieces]
  intro i h1 h2
  have key : ∀ (l : List (List UInt8)) (i : Nat) (hi : i < l.length), (∀ t ∈ l, t.length = n) → (l.flatten.drop (i * n)).take n = l[i] := by
    intro l
    induction l with
    | nil => intro i hi; cases hi
    | cons a l ih =>
      intro i hi h
      have ha := h a (by simp)
      cases i with
      | zero => simp [← ha]
      | succ i =>
        have := ih i (by simpa using hi) (fun t ht => h t (by simp [ht]))
        rw [List.flatten_cons, show (i + 1) * n = a.length + i * n by rw [ha, Nat.succ_mul]; omega, List.drop_append, List.drop_eq_nil_of_le (by omega)]
        simpa using this
  simp only [pieces, List.getElem_map, List.getElem_range]
  exact key l i h2 h
theorem flat_pieces (s : List UInt8) (n : Nat) : ∀ k, (pieces s n k).flatten = s.take (k * n)
  | 0 => by simp [pieces]
  | k + 1 => by rw [pieces_succ, List.flatten_append, flat_pieces s n k, Nat.succ_mul, List.take_add]; simp
theorem pieces_iff {s : List UInt8} {l : List (List UInt8)} {n : Nat} (h : ∀ t ∈ l, t.length = n) (hs : s.length = l.length * n) : pieces s n l.length = l ↔ s = l.flatten := by
  constructor
  · intro e
    have := flat_pieces s n l.length
    rw [e, List.take_of_length_le (by omega)] at this
    exact this.symm
  · rintro rfl
    exact pieces_flat h
theorem flat_len {l : List (List UInt8)} {n : Nat} (h : ∀ t ∈ l, t.length = n) : l.flatten.length = l.length * n := by
  induction l with
  | nil => simp
  | cons a l ih => simp only [List.flatten_cons, List.length_append, List.length_cons, h a (by simp), ih (fun t ht => h t (by simp [ht])), Nat.succ_mul]; omega
end Go.PL

/- bytes.Trim of noughts. -/
namespace Go.PL
structure TrimNo (m : RImg) : Prop where
  no : ¬ NZ (dropk m.l m.k (m.l.length - m.k))
structure TrimYes (m : RImg) (y : Nat × Nat) : Prop where
  yes : NZ (dropk m.l m.k (m.l.length - m.k))
  lt : y.2 < y.1
end Go.PL
set_option linter.unusedSectionVars false
set_option linter.unusedSimpArgs false
set_option linter.unusedVariables false
namespace Go.Eng
variable [CW : CWorld]
open Go.Proofs Go.PL
set_option maxRecDepth 100000
def trimSpec : Spec where
  X := RImg
  A m := [.slc 0 (.x 0 1 m.k 0) (.x (m.l.length - m.k)) (.x (m.cap - m.k)), .str [0]]
  H m := [bytesB m.l m.cap]
  pre m := PL.TrimIn m
  outs := [{ Y _ := Unit, post m _ := PL.TrimNo m, R _ _ := .nslc, H' m _ := [bytesB m.l m.cap] },
    { Y _ := Nat × Nat, post m y := PL.TrimYes m y, R m y := .slc 0 (.x 0 1 (m.k + y.2) 0) (.x ((y.1 : Int) - y.2)) (.x (m.cap - (m.k + y.2))), H' m _ := [bytesB m.l m.cap] }]
/-- What is never called here. -/
def nevSpec : Spec where
  X := List UInt8
  A x := [.str x]
  H x := []
  pre _ := False
  outs := []
theorem nevSpec_ok : nevSpec.OK PP 63 := ⟨⟨Tryd.f63, by kernel_rfl, by kernel_rfl, by kernel_rfl⟩, fun x hx => hx.elim⟩
/-- trimLeftByte, where its argument comes up late. -/
def trimLfSpec : Spec := { trimLSpec with far := true }
theorem trimLfSpec_ok : trimLfSpec.OK PP 61 := trimLSpec_ok
noncomputable def trimSpecs : Specs := fun f xs hp => match f with
  | 63 => some nevSpec
  | 62 => some trimRSpec
  | 61 => some trimLfSpec
  | _ => noSpec f xs hp
theorem trimSpecs_ok : SpecsOK PP trimSpecs := by
  intro CW f xs hp S h
  unfold trimSpecs at h
  split at h
  · cases h; exact nevSpec_ok
  · cases h; exact trimRSpec_ok
  · cases h; exact trimLfSpec_ok
  · exact noSpec_ok CW f xs hp S h
def trim_vc (ar : AR) (x : trimSpec.X) : Prop :=
  (ar.eq ((↑x.l.length : Int).sub x.k) 0 → (∃ (y : Unit), TrimNo x ∧ x.cap = x.cap ∧ ints x.l = ints x.l ∧ True) ∨ ∃ (y : Nat × Nat), TrimYes x y ∧ 0 = (↑y.fst : Int).sub (↑y.snd :
  Int) ∧ 0 = x.cap.sub (x.k.add (↑y.snd : Int)) ∧ x.cap = x.cap ∧ ints x.l = ints x.l ∧ True) ∧ (¬ar.eq ((↑x.l.length : Int).sub x.k) 0 → (ar.seq [UInt8.ofNat 0] [] → (∃ (y :
  Unit), TrimNo x ∧ False) ∨ ∃ (y : Nat × Nat), TrimYes x y ∧ (Nat.add 0 (x.k.toNat.mul 1)).add 0 = (Nat.add 0 ((x.k.add (↑y.snd : Int)).toNat.mul 1)).add 0 ∧ (↑x.l.length :
  Int).sub x.k = (↑y.fst : Int).sub (↑y.snd : Int) ∧ x.cap.sub x.k = x.cap.sub (x.k.add (↑y.snd : Int)) ∧ x.cap = x.cap ∧ ints x.l = ints x.l ∧ True) ∧ (¬ar.seq [UInt8.ofNat 0] []
  → (ar.eq (ar.slen [UInt8.ofNat 0]) 1 → ar.lt 0 (ar.slen [UInt8.ofNat 0]) ∧ ∀ (z : Int), z = ar.sget [UInt8.ofNat 0] 0 → (ar.lt z 128 → ar.lt 0 (ar.slen [UInt8.ofNat 0]) ∧ ∀ (z :
  Int), z = ar.sget [UInt8.ofNat 0] 0 → ar.lt 0 (ar.slen [UInt8.ofNat 0]) ∧ ∀ (z_1 : Int), z_1 = ar.sget [UInt8.ofNat 0] 0 → ∃ (x_1 : RImg), (Nat.add 0 (x.k.toNat.mul 1)).add 0 =
  (Nat.add 0 (x_1.k.toNat.mul 1)).add 0 ∧ (↑x.l.length : Int).sub x.k = (↑x_1.l.length : Int).sub x_1.k ∧ x.cap.sub x.k = x_1.cap.sub x_1.k ∧ z = 0 ∧ x.cap = x_1.cap ∧ ints x.l =
  ints x_1.l ∧ TrimIn x_1 ∧ ∀ (y : Nat), TrimGo x_1 y → ∃ (x_2 : RImg × Int), (Nat.add 0 (x_1.k.toNat.mul 1)).add 0 = (Nat.add 0 (x_2.1.k.toNat.mul 1)).add 0 ∧ (↑y : Int) = x_2.snd
  ∧ x_1.cap.sub x_1.k = x_2.1.cap.sub x_2.1.k ∧ z_1 = 0 ∧ x_1.cap = x_2.1.cap ∧ ints x_1.l = ints x_2.1.l ∧ TrimLIn x_2 ∧ (∀ (y : Unit), (Int.lt 0 x_2.snd → False) → (∃ (y : Unit),
  TrimNo x ∧ x_2.1.cap = x.cap ∧ ints x_2.1.l = ints x.l ∧ True) ∨ ∃ (y : Nat × Nat), TrimYes x y ∧ 0 = (↑y.fst : Int).sub (↑y.snd : Int) ∧ 0 = x.cap.sub (x.k.add (↑y.snd : Int)) ∧
  x_2.1.cap = x.cap ∧ ints x_2.1.l = ints x.l ∧ True) ∧ ∀ (y : Nat), TrimLGo x_2 y → (∃ (y : Unit), TrimNo x ∧ False) ∨ ∃ (y_1 : Nat × Nat), TrimYes x y_1 ∧ (Nat.add 0
  ((x_2.1.k.add (↑y : Int)).toNat.mul 1)).add 0 = (Nat.add 0 ((x.k.add (↑y_1.snd : Int)).toNat.mul 1)).add 0 ∧ x_2.snd.sub (↑y : Int) = (↑y_1.fst : Int).sub (↑y_1.snd : Int) ∧
  x_2.1.cap.sub (x_2.1.k.add (↑y : Int)) = x.cap.sub (x.k.add (↑y_1.snd : Int)) ∧ x_2.1.cap = x.cap ∧ ints x_2.1.l = ints x.l ∧ True) ∧ (¬ar.lt z 128 → ∃ (x : List UInt8),
  [UInt8.ofNat 0] = x ∧ False ∧ True)) ∧ (¬ar.eq (ar.slen [UInt8.ofNat 0]) 1 → ∃ (x : List UInt8), [UInt8.ofNat 0] = x ∧ False ∧ True)))
theorem trim_eq (ar : AR) (x : trimSpec.X) : (run ar PP trimSpecs noInv 1000 34 (trimSpec.H x).length (Tryd.f34.body.getD .skip) (trimSpec.A x ++ List.replicate (Tryd.f34.ntmps - (trimSpec.A x).length) .any) (trimSpec.H x) (endCall ar PP Tryd.f34.results.toList (trimSpec.fin x))) = trim_vc ar x := by
  kernel_rfl
theorem trim_of (h : ∀ x, trimSpec.pre x → trim_vc ar0 x) : trimSpec.OK PP 34 :=
  Spec.ok_of_run (fn := Tryd.f34) (c := Tryd.f34.body.getD .skip) (by kernel_rfl) (by kernel_rfl) (by kernel_rfl) trimSpecs_ok (fun _ => noInv) 1000 (fun x hx => (trim_eq ar0 x).mpr (h x hx))
theorem trimSpec_ok : trimSpec.OK PP 34 := by
  refine trim_of fun (m : RImg) hx => ?_
  obtain ⟨h1, h2, h3, h4⟩ : PL.TrimIn m := id hx
  unfold trim_vc
  have z0 : ∀ z : Int, z = ar0.sget [UInt8.ofNat 0] 0 → z = 0 := fun z hz => by rw [hz]; rfl
  refine ⟨fun he => .inl ⟨(), ⟨?_⟩, rfl, rfl, trivial⟩, fun hne => ⟨fun e => (by cases e), fun _ => ⟨fun _ => ⟨show (0 : Int) < 1 by omega, fun z hz => ⟨fun _ => ⟨show (0 : Int) < 1 by omega, fun z hz => ⟨show (0 : Int) < 1 by omega, fun z1 hz1 =>
    ⟨m, rfl, rfl, rfl, z0 z hz, rfl, rfl, hx, fun y hy => ⟨(m, (y : Int)), rfl, rfl, rfl, z0 z1 hz1, rfl, rfl, ⟨h1, h2, Int.natCast_nonneg _, hy.le, h4, fun h => hy.last (Int.natCast_pos.1 h)⟩,
      fun _ hn => .inl ⟨(), ⟨fun h => hn (Int.natCast_pos.2 (hy.nz.1 h))⟩, rfl, rfl, trivial⟩, fun j hj => .inr ⟨(y, j), ⟨?_, ?_⟩, rfl, rfl, rfl, rfl, rfl, trivial⟩⟩⟩⟩⟩, fun hn => absurd (show z < 128 by rw [z0 z hz]; omega) hn⟩⟩, fun h => absurd rfl h⟩⟩⟩
  · have he' : (m.l.length : Int) - m.k = 0 := he
    rw [he']
    simpa [dropk] using nz_nil
  · have := hj.lt
    exact hy.nz.2 (by simp only at this; omega)
  · have := hj.lt
    simp only at this ⊢
    omega
end Go.Eng

namespace Go.PL
structure ReadIn (x : Cfg × List UInt8) : Prop where
  cfg : CfgIn x.1
  len : lenI x.1 ≤ x.2.length
  le : (x.2.length : Int) ≤ 140737488351232
structure ReadCap (x : Cfg × List UInt8) (y : Int × Int × Int) : Prop where
  a : nLive x.2 x.1 (nRows x.1) ≤ y.1
  b : rowsC x.1 ≤ y.2.1
  c : cntR x.2 x.1 ≤ y.2.2
structure Rd1 (x : Cfg × List UInt8) (i : Nat × Int) : Prop where
  le : (i.1 : Int) ≤ x.1.dirs
  cap : nLive x.2 x.1 i.1 ≤ i.2
structure Rd2 (x : Cfg × List UInt8) (i : Nat × Int) : Prop where
  le : (i.1 : Int) ≤ x.1.files
  cap : nLive x.2 x.1 (x.1.dirs.toNat + i.1) ≤ i.2
structure Rd3 (x : Cfg × List UInt8) (i : Nat × Int × Int) : Prop where
  le : (i.1 : Int) ≤ rowsC x.1
  cap : nLive x.2 x.1 (nRows x.1) ≤ i.2.1
  cap2 : (i.1 : Int) ≤ i.2.2
structure Rd4 (x : Cfg × List UInt8) (i : Nat × Int × Int × Int) : Prop where
  le : (i.1 : Int) ≤ cntR x.2 x.1
  cap : nLive x.2 x.1 (nRows x.1) ≤ i.2.1
  cap2 : rowsC x.1 ≤ i.2.2.1
  cap3 : (i.1 : Int) ≤ i.2.2.2
theorem dropk_dropk {s : List UInt8} {o w a n : Int} (h0 : 0 ≤ o) (ha : 0 ≤ a) (hn : 0 ≤ n) (h : a + n ≤ w) : dropk (dropk s o w) a n = dropk s (o + a) n := by
  simp only [dropk, List.drop_take, List.take_take, List.drop_drop]
  rw [show o.toNat + a.toNat = (o + a).toNat by omega, show min n.toNat (w.toNat - a.toNat) = n.toNat by omega]
/-- A row read out of its own bytes. -/
theorem row_sim {s t : List UInt8} {c : Cfg} {k : Nat} (h0 : 0 ≤ offR c k) (ht : t = dropk s (offR c k) (rsz (kndR c k))) (kind num : Int) (hk : kind = kndR c k) :
    fstB (sImg t) = fstB (imR s c k) ∧ rdK (sImg t) kind = rdK (imR s c k) kind ∧ rdN (sImg t) num = rdN (imR s c k) num ∧ rdP (sImg t) = rdP (imR s c k) ∧ refS t = rfN (imR s c k) ∧ rdZ (sImg t) kind = rdZ (imR s c k) kind := by
  have hw : 36 ≤ rsz (kndR c k) := by unfold rsz; split <;> omega
  have d : ∀ a n : Int, 0 ≤ a → 0 ≤ n → a + n ≤ 36 → dropk t a n = dropk s (offR c k + a) n := fun a n h1 h2 h3 => by rw [ht, dropk_dropk h0 h1 h2 (by omega)]
  have f : fstB (sImg t) = fstB (imR s c k) := by
    have := d 0 1 (by omega) (by omega) (by omega)
    simp only [Int.add_zero] at this
    simp only [fstB, sImg, imR, this]
  have g : lngB (sImg t) = lngB (imR s c k) := by
    have := d 3 1 (by omega) (by omega) (by omega)
    simp only [lngB, sImg, imR, Int.zero_add, this]
  have hg := lng_range (imR s c k)
  refine ⟨f, ?_, ?_, ?_, ?_, ?_⟩
  · simp only [rdK, f]
  · simp only [rdN, f]
  · have := d 1 2 (by omega) (by omega) (by omega)
    simp only [rdP, f]
    simp only [sImg, imR, Int.zero_add, this]
    try rfl
  · simp only [refS, rfN, f, g]
    by_cases h32 : 32 < lngB (imR s c k)
    · rw [if_pos h32, d 4 32 (by omega) (by omega) (by omega)]; rfl
    · rw [if_neg h32, d 4 (lngB (imR s c k)) (by omega) (by omega) (by omega)]; rfl
  · simp only [rdZ, f]
    by_cases h2 : kind = 2
    · have hw2 : rsz (kndR c k) = 40 := by rw [← hk, h2]; rfl
      rw [if_pos h2, if_pos h2]
      have : dropk t 36 4 = dropk s (offR c k + 36) 4 := by rw [ht, dropk_dropk h0 (by omega) (by omega) (by omega)]
      simp only [sImg, imR, Int.zero_add, this]
      try rfl
    · rw [if_neg h2, if_neg h2]
theorem col_step {α : Type} (f : Nat → α) {s : List UInt8} {c : Cfg} {k : Nat} {n : Int} {a : α} (hn : n = nLive s c k) (h : ¬ fstB (imR s c k) = 0) (ha : a = f k) :
    (((live s c k).map f).drop (Int.toNat 0)).take n.toNat ++ [a] = (live s c (k + 1)).map f := by
  subst hn ha
  rw [live_hit h, List.map_append, show Int.toNat 0 = 0 from rfl, List.drop_zero, List.take_of_length_le (by simp [nLive])]
  rfl
theorem rng_step {α : Type} (f : Nat → α) {k : Nat} {a : α} (ha : a = f k) :
    (((List.range k).map f).drop (Int.toNat 0)).take k ++ [a] = (List.range (k + 1)).map f := by
  subst ha
  rw [List.range_succ, List.map_append, show Int.toNat 0 = 0 from rfl, List.drop_zero, List.take_of_length_le (by simp)]
  rfl
theorem nLive_hit {s : List UInt8} {c : Cfg} {k : Nat} (h : ¬ fstB (imR s c k) = 0) : nLive s c (k + 1) = nLive s c k + 1 := by
  simp only [nLive, live_hit h, List.length_append, List.length_singleton]; omega
theorem nLive_range (s : List UInt8) (c : Cfg) (n : Nat) : 0 ≤ nLive s c n ∧ nLive s c n ≤ n := by
  have := live_le s c n
  simp only [nLive]; omega
end Go.PL
set_option linter.unusedSectionVars false
set_option linter.unusedSimpArgs false
set_option linter.unusedVariables false
namespace Go.Eng
variable [CW : CWorld]
open Go.Proofs Go.PL
set_option maxRecDepth 100000
attribute [local irreducible] run
def treeB (n : Nat) (c : Cfg) (len cap : Int) : Blk := .mk 28 [.one (.int .i64 (.x c.files)), .one (.int .i64 (.x c.dirs)), .one (.slc n (.l 0) (.x len) (.x cap))]
def objsB (x : Objs) : Blk := .mk 51 [.arr (.x x.cap) [.strs x.N, .strs x.T, .ints .i64 x.B, .ints .i64 x.O]]
def qB (l : List Int) (cap : Int) : Blk := .mk 3 [.arr (.x cap) [.ints .i64 l]]
def objsXn (s : List UInt8) (c : Cfg) (n : Nat) (cap : Int) : Objs := ⟨PL.oN s c n, PL.oT s c n, PL.oB s c n, PL.oO s c n, n, cap⟩
def poolB (n : SV) (q : SV) : Blk := .mk 32 [.one n, .one q]
noncomputable def rreadSpec : Spec where
  X := Cfg × List UInt8
  A x := [.agg (cfgL x.1), .str x.2]
  H x := []
  pre x := PL.ReadIn x
  outs := [{ Y _ := Int × Int × Int, post x y := PL.ReadCap x y, R x y := .tup [.agg [.int .i64 (.x x.1.files), .int .i64 (.x x.1.dirs), .slc 0 (.l 0) (.x (PL.nLive x.2 x.1 (PL.nRows x.1))) (.x y.1)], .agg [.slc 1 (.l 0) (.x (PL.rowsC x.1)) (.x y.2.1), .slc 2 (.l 0) (.x (PL.cntR x.2 x.1)) (.x y.2.2)]], H' x y := [nodsB (PL.nodsR x.2 x.1 (PL.nRows x.1) y.1), objsB (PL.objsX x.2 x.1 y.2.1), qB (PL.qL x.2 x.1 (PL.cntR x.2 x.1).toNat) y.2.2] }]
noncomputable def rr1 (x : Cfg × List UInt8) : Code → List SV → List Blk → List Inv := fun b fr hp => [
  { ι := Nat × Int, fr := fun i => only b fr 8 [] [(8, .int .i64 (.x (36 * i.1 : Int))), (9, .int .i64 (.x (i.1 + 1 : Int)))],
    hp := fun i => [hp.getD 0 .gone, hp.getD 1 .gone, hp.getD 2 .gone, treeB 5 x.1 (PL.nLive x.2 x.1 i.1) i.2, hp.getD 4 .gone, nodsB (PL.nodsR x.2 x.1 i.1 i.2)], μ := fun i => x.1.dirs.toNat - i.1, ok := fun i => PL.Rd1 x i }]
noncomputable def rr2 (x : Cfg × List UInt8) : Code → List SV → List Blk → List Inv := fun b fr hp => [
  { ι := Nat × Int, fr := fun i => only b fr 8 [] [(8, .int .i64 (.x (36 * x.1.dirs + 40 * i.1 : Int))), (12, .int .i64 (.x (i.1 : Int)))],
    hp := fun i => [hp.getD 0 .gone, hp.getD 1 .gone, hp.getD 2 .gone, treeB 5 x.1 (PL.nLive x.2 x.1 (x.1.dirs.toNat + i.1)) i.2, hp.getD 4 .gone, nodsB (PL.nodsR x.2 x.1 (x.1.dirs.toNat + i.1) i.2)], μ := fun i => x.1.files.toNat - i.1, ok := fun i => PL.Rd2 x i }]
noncomputable def rr3 (x : Cfg × List UInt8) : Code → List SV → List Blk → List Inv := fun b fr hp => [
  { ι := Nat × Int × Int, fr := fun i => only b fr 8 [] [(8, .int .i64 (.x (PL.offO x.1 + 40 * i.1 : Int))), (15, .int .i64 (.x (i.1 : Int)))],
    hp := fun i => [hp.getD 0 .gone, hp.getD 1 .gone, hp.getD 2 .gone, treeB 5 x.1 (PL.nLive x.2 x.1 (PL.nRows x.1)) i.2.1, poolB (.slc 6 (.l 0) (.x (i.1 : Int)) (.x i.2.2)) .nslc, nodsB (PL.nodsR x.2 x.1 (PL.nRows x.1) i.2.1), objsB (objsXn x.2 x.1 i.1 i.2.2)],
    μ := fun i => (PL.rowsC x.1).toNat - i.1, ok := fun i => PL.Rd3 x i }]
noncomputable def rr4 (x : Cfg × List UInt8) : Code → List SV → List Blk → List Inv := fun b fr hp => [
  { ι := Nat × Int × Int × Int, fr := fun i => only b fr 8 [] [(8, .int .i64 (.x (PL.offQ x.1 + 4 + 4 * i.1 : Int))), (16, .int .i64 (.x (PL.cntQ x.2 x.1))), (17, .int .i64 (.x (i.1 : Int)))],
    hp := fun i => [hp.getD 0 .gone, hp.getD 1 .gone, hp.getD 2 .gone, treeB 5 x.1 (PL.nLive x.2 x.1 (PL.nRows x.1)) i.2.1, poolB (.slc 6 (.l 0) (.x (PL.rowsC x.1)) (.x i.2.2.1)) (.slc 7 (.l 0) (.x (i.1 : Int)) (.x i.2.2.2)), nodsB (PL.nodsR x.2 x.1 (PL.nRows x.1) i.2.1), objsB (PL.objsX x.2 x.1 i.2.2.1), qB (PL.qL x.2 x.1 i.1) i.2.2.2],
    μ := fun i => (PL.cntR x.2 x.1).toNat - i.1, ok := fun i => PL.Rd4 x i }]
noncomputable def rreadInvs (x : Cfg × List UInt8) : Invs := fun f n => match f, n with
  | 41, 5 => some (rr1 x)
  | 41, 12 => some (rr2 x)
  | 41, 19 => some (rr3 x)
  | 41, 26 => some (rr4 x)
  | _, _ => none
noncomputable def rreadSpecs : Specs := fun f xs hp => match f with
  | 73 => some srowSpec
  | 74 => some snumSpec
  | _ => noSpec f xs hp
theorem rreadSpecs_ok : SpecsOK PP rreadSpecs := by
  intro CW f xs hp S h
  unfold rreadSpecs at h
  split at h
  · cases h; exact srowSpec_ok
  · cases h; exact snumSpec_ok
  · exact noSpec_ok CW f xs hp S h
def rread_vc (ar : AR) (x : rreadSpec.X) : Prop :=
  (∃ (i : Nat × Int), Rd1 x i ∧ x.fst.slots = x.fst.slots ∧ x.fst.files = x.fst.files ∧ x.fst.dirs = x.fst.dirs ∧ x.fst.most = x.fst.most ∧ x.fst.least = x.fst.least ∧ x.fst.page =
  x.fst.page ∧ x.snd = x.snd ∧ 0 = Int.mul 36 (↑i.fst : Int) ∧ 1 = (↑i.fst : Int).add 1 ∧ x.fst.slots = x.fst.slots ∧ x.fst.files = x.fst.files ∧ x.fst.dirs = x.fst.dirs ∧
  x.fst.most = x.fst.most ∧ x.fst.least = x.fst.least ∧ x.fst.page = x.fst.page ∧ x.fst.files = x.fst.files ∧ x.fst.dirs = x.fst.dirs ∧ 0 = nLive x.snd x.fst i.fst ∧ 0 = i.snd ∧
  i.snd = 0 ∧ colK x.snd x.fst i.fst = [] ∧ colN x.snd x.fst i.fst = [] ∧ colP x.snd x.fst i.fst = [] ∧ colR x.snd x.fst i.fst = [] ∧ colZ x.snd x.fst i.fst = [] ∧ True) ∧ ∀ (i :
  Nat × Int), Rd1 x i → (ar.le ((↑i.fst : Int).add 1) x.fst.dirs → ∀ (z : Int), z = ar.wrap IntKind.i64 (ar.add (Int.mul 36 (↑i.fst : Int)) 36) → ar.le 0 (Int.mul 36 (↑i.fst :
  Int)) ∧ ar.le (Int.mul 36 (↑i.fst : Int)) z ∧ ar.le z (ar.slen x.snd) ∧ ∀ (t : List UInt8), t = ar.sext x.snd (Int.mul 36 (↑i.fst : Int)) z → ∃ (x_1 : List UInt8 × Int × Int), t
  = x_1.fst ∧ 1 = x_1.2.fst ∧ (↑i.fst : Int).add 1 = x_1.2.snd ∧ SRowIn x_1 ∧ ∀ (y : Unit), True → (¬fstB (sImg x_1.fst) = 0 → ar.le (ar.add 0 (nLive x.snd x.fst i.fst)) (ar.ilen
  (colK x.snd x.fst i.fst)) ∧ ar.le (ar.add 0 (nLive x.snd x.fst i.fst)) (ar.ilen (colN x.snd x.fst i.fst)) ∧ ar.le (ar.add 0 (nLive x.snd x.fst i.fst)) (ar.ilen (colP x.snd x.fst
  i.fst)) ∧ ar.le (ar.add 0 (nLive x.snd x.fst i.fst)) (ar.tlen (colR x.snd x.fst i.fst)) ∧ ar.le (ar.add 0 (nLive x.snd x.fst i.fst)) (ar.ilen (colZ x.snd x.fst i.fst)) ∧ i.snd =
  i.snd ∧ ar.le (ar.mul (ar.add (nLive x.snd x.fst i.fst) 1) 48) 140737488355328 ∧ ∀ (c : Int), ar.le (ar.add (nLive x.snd x.fst i.fst) 1) c → ∀ (z : Int), z = ar.wrap IntKind.i64
  (ar.add (Int.mul 36 (↑i.fst : Int)) 36) → ∀ (z_1 : Int), z_1 = ar.wrap IntKind.i64 (ar.add ((↑i.fst : Int).add 1) 1) → ∃ (j : Nat × Int), Rd1 x j ∧ (x.fst.dirs.toNat.sub
  j.fst).lt (x.fst.dirs.toNat.sub i.fst) ∧ x.fst.slots = x.fst.slots ∧ x.fst.files = x.fst.files ∧ x.fst.dirs = x.fst.dirs ∧ x.fst.most = x.fst.most ∧ x.fst.least = x.fst.least ∧
  x.fst.page = x.fst.page ∧ x.snd = x.snd ∧ z = Int.mul 36 (↑j.fst : Int) ∧ z_1 = (↑j.fst : Int).add 1 ∧ x.fst.slots = x.fst.slots ∧ x.fst.files = x.fst.files ∧ x.fst.dirs =
  x.fst.dirs ∧ x.fst.most = x.fst.most ∧ x.fst.least = x.fst.least ∧ x.fst.page = x.fst.page ∧ x.fst.files = x.fst.files ∧ x.fst.dirs = x.fst.dirs ∧ ar.add (nLive x.snd x.fst
  i.fst) 1 = nLive x.snd x.fst j.fst ∧ c = j.snd ∧ c = j.snd ∧ ar.iapp (ar.isub (colK x.snd x.fst i.fst) 0 (nLive x.snd x.fst i.fst)) [rdK (sImg x_1.fst) x_1.2.fst] = colK x.snd
  x.fst j.fst ∧ ar.iapp (ar.isub (colN x.snd x.fst i.fst) 0 (nLive x.snd x.fst i.fst)) [rdN (sImg x_1.fst) x_1.2.snd] = colN x.snd x.fst j.fst ∧ ar.iapp (ar.isub (colP x.snd x.fst
  i.fst) 0 (nLive x.snd x.fst i.fst)) [rdP (sImg x_1.fst)] = colP x.snd x.fst j.fst ∧ ar.tapp (ar.tsub (colR x.snd x.fst i.fst) 0 (nLive x.snd x.fst i.fst)) [refS x_1.fst] = colR
  x.snd x.fst j.fst ∧ ar.iapp (ar.isub (colZ x.snd x.fst i.fst) 0 (nLive x.snd x.fst i.fst)) [rdZ (sImg x_1.fst) x_1.2.fst] = colZ x.snd x.fst j.fst ∧ True) ∧ (¬¬fstB (sImg
  x_1.fst) = 0 → ∀ (z : Int), z = ar.wrap IntKind.i64 (ar.add (Int.mul 36 (↑i.fst : Int)) 36) → ∀ (z_1 : Int), z_1 = ar.wrap IntKind.i64 (ar.add ((↑i.fst : Int).add 1) 1) → ∃ (j :
  Nat × Int), Rd1 x j ∧ (x.fst.dirs.toNat.sub j.fst).lt (x.fst.dirs.toNat.sub i.fst) ∧ x.fst.slots = x.fst.slots ∧ x.fst.files = x.fst.files ∧ x.fst.dirs = x.fst.dirs ∧ x.fst.most
  = x.fst.most ∧ x.fst.least = x.fst.least ∧ x.fst.page = x.fst.page ∧ x.snd = x.snd ∧ z = Int.mul 36 (↑j.fst : Int) ∧ z_1 = (↑j.fst : Int).add 1 ∧ x.fst.slots = x.fst.slots ∧
  x.fst.files = x.fst.files ∧ x.fst.dirs = x.fst.dirs ∧ x.fst.most = x.fst.most ∧ x.fst.least = x.fst.least ∧ x.fst.page = x.fst.page ∧ x.fst.files = x.fst.files ∧ x.fst.dirs =
  x.fst.dirs ∧ nLive x.snd x.fst i.fst = nLive x.snd x.fst j.fst ∧ i.snd = j.snd ∧ i.snd = j.snd ∧ colK x.snd x.fst i.fst = colK x.snd x.fst j.fst ∧ colN x.snd x.fst i.fst = colN
  x.snd x.fst j.fst ∧ colP x.snd x.fst i.fst = colP x.snd x.fst j.fst ∧ colR x.snd x.fst i.fst = colR x.snd x.fst j.fst ∧ colZ x.snd x.fst i.fst = colZ x.snd x.fst j.fst ∧ True)) ∧
  (¬ar.le ((↑i.fst : Int).add 1) x.fst.dirs → (∃ (i_1 : Nat × Int), Rd2 x i_1 ∧ x.fst.slots = x.fst.slots ∧ x.fst.files = x.fst.files ∧ x.fst.dirs = x.fst.dirs ∧ x.fst.most =
  x.fst.most ∧ x.fst.least = x.fst.least ∧ x.fst.page = x.fst.page ∧ x.snd = x.snd ∧ Int.mul 36 (↑i.fst : Int) = (Int.mul 36 x.fst.dirs).add (Int.mul 40 (↑i_1.fst : Int)) ∧ 0 =
  (↑i_1.fst : Int) ∧ x.fst.slots = x.fst.slots ∧ x.fst.files = x.fst.files ∧ x.fst.dirs = x.fst.dirs ∧ x.fst.most = x.fst.most ∧ x.fst.least = x.fst.least ∧ x.fst.page = x.fst.page
  ∧ x.fst.files = x.fst.files ∧ x.fst.dirs = x.fst.dirs ∧ nLive x.snd x.fst i.fst = nLive x.snd x.fst (x.fst.dirs.toNat.add i_1.fst) ∧ i.snd = i_1.snd ∧ i.snd = i_1.snd ∧ colK
  x.snd x.fst i.fst = colK x.snd x.fst (x.fst.dirs.toNat.add i_1.fst) ∧ colN x.snd x.fst i.fst = colN x.snd x.fst (x.fst.dirs.toNat.add i_1.fst) ∧ colP x.snd x.fst i.fst = colP
  x.snd x.fst (x.fst.dirs.toNat.add i_1.fst) ∧ colR x.snd x.fst i.fst = colR x.snd x.fst (x.fst.dirs.toNat.add i_1.fst) ∧ colZ x.snd x.fst i.fst = colZ x.snd x.fst
  (x.fst.dirs.toNat.add i_1.fst) ∧ True) ∧ ∀ (i : Nat × Int), Rd2 x i → (ar.lt (↑i.fst : Int) x.fst.files → ∀ (z : Int), z = ar.wrap IntKind.i64 (ar.add ((Int.mul 36
  x.fst.dirs).add (Int.mul 40 (↑i.fst : Int))) 40) → ar.le 0 ((Int.mul 36 x.fst.dirs).add (Int.mul 40 (↑i.fst : Int))) ∧ ar.le ((Int.mul 36 x.fst.dirs).add (Int.mul 40 (↑i.fst :
  Int))) z ∧ ar.le z (ar.slen x.snd) ∧ ∀ (t : List UInt8), t = ar.sext x.snd ((Int.mul 36 x.fst.dirs).add (Int.mul 40 (↑i.fst : Int))) z → ∃ (x_1 : List UInt8 × Int × Int), t =
  x_1.fst ∧ 2 = x_1.2.fst ∧ (↑i.fst : Int) = x_1.2.snd ∧ SRowIn x_1 ∧ ∀ (y : Unit), True → (¬fstB (sImg x_1.fst) = 0 → ar.le (ar.add 0 (nLive x.snd x.fst (x.fst.dirs.toNat.add
  i.fst))) (ar.ilen (colK x.snd x.fst (x.fst.dirs.toNat.add i.fst))) ∧ ar.le (ar.add 0 (nLive x.snd x.fst (x.fst.dirs.toNat.add i.fst))) (ar.ilen (colN x.snd x.fst
  (x.fst.dirs.toNat.add i.fst))) ∧ ar.le (ar.add 0 (nLive x.snd x.fst (x.fst.dirs.toNat.add i.fst))) (ar.ilen (colP x.snd x.fst (x.fst.dirs.toNat.add i.fst))) ∧ ar.le (ar.add 0
  (nLive x.snd x.fst (x.fst.dirs.toNat.add i.fst))) (ar.tlen (colR x.snd x.fst (x.fst.dirs.toNat.add i.fst))) ∧ ar.le (ar.add 0 (nLive x.snd x.fst (x.fst.dirs.toNat.add i.fst)))
  (ar.ilen (colZ x.snd x.fst (x.fst.dirs.toNat.add i.fst))) ∧ i.snd = i.snd ∧ ar.le (ar.mul (ar.add (nLive x.snd x.fst (x.fst.dirs.toNat.add i.fst)) 1) 48) 140737488355328 ∧ ∀ (c :
  Int), ar.le (ar.add (nLive x.snd x.fst (x.fst.dirs.toNat.add i.fst)) 1) c → ∀ (z : Int), z = ar.wrap IntKind.i64 (ar.add ((Int.mul 36 x.fst.dirs).add (Int.mul 40 (↑i.fst : Int)))
  40) → ∀ (z_1 : Int), z_1 = ar.wrap IntKind.i64 (ar.add (↑i.fst : Int) 1) → ∃ (j : Nat × Int), Rd2 x j ∧ (x.fst.files.toNat.sub j.fst).lt (x.fst.files.toNat.sub i.fst) ∧
  x.fst.slots = x.fst.slots ∧ x.fst.files = x.fst.files ∧ x.fst.dirs = x.fst.dirs ∧ x.fst.most = x.fst.most ∧ x.fst.least = x.fst.least ∧ x.fst.page = x.fst.page ∧ x.snd = x.snd ∧
  z = (Int.mul 36 x.fst.dirs).add (Int.mul 40 (↑j.fst : Int)) ∧ z_1 = (↑j.fst : Int) ∧ x.fst.slots = x.fst.slots ∧ x.fst.files = x.fst.files ∧ x.fst.dirs = x.fst.dirs ∧ x.fst.most
  = x.fst.most ∧ x.fst.least = x.fst.least ∧ x.fst.page = x.fst.page ∧ x.fst.files = x.fst.files ∧ x.fst.dirs = x.fst.dirs ∧ ar.add (nLive x.snd x.fst (x.fst.dirs.toNat.add i.fst))
  1 = nLive x.snd x.fst (x.fst.dirs.toNat.add j.fst) ∧ c = j.snd ∧ c = j.snd ∧ ar.iapp (ar.isub (colK x.snd x.fst (x.fst.dirs.toNat.add i.fst)) 0 (nLive x.snd x.fst
  (x.fst.dirs.toNat.add i.fst))) [rdK (sImg x_1.fst) x_1.2.fst] = colK x.snd x.fst (x.fst.dirs.toNat.add j.fst) ∧ ar.iapp (ar.isub (colN x.snd x.fst (x.fst.dirs.toNat.add i.fst)) 0
  (nLive x.snd x.fst (x.fst.dirs.toNat.add i.fst))) [rdN (sImg x_1.fst) x_1.2.snd] = colN x.snd x.fst (x.fst.dirs.toNat.add j.fst) ∧ ar.iapp (ar.isub (colP x.snd x.fst
  (x.fst.dirs.toNat.add i.fst)) 0 (nLive x.snd x.fst (x.fst.dirs.toNat.add i.fst))) [rdP (sImg x_1.fst)] = colP x.snd x.fst (x.fst.dirs.toNat.add j.fst) ∧ ar.tapp (ar.tsub (colR
  x.snd x.fst (x.fst.dirs.toNat.add i.fst)) 0 (nLive x.snd x.fst (x.fst.dirs.toNat.add i.fst))) [refS x_1.fst] = colR x.snd x.fst (x.fst.dirs.toNat.add j.fst) ∧ ar.iapp (ar.isub
  (colZ x.snd x.fst (x.fst.dirs.toNat.add i.fst)) 0 (nLive x.snd x.fst (x.fst.dirs.toNat.add i.fst))) [rdZ (sImg x_1.fst) x_1.2.fst] = colZ x.snd x.fst (x.fst.dirs.toNat.add j.fst)
  ∧ True) ∧ (¬¬fstB (sImg x_1.fst) = 0 → ∀ (z : Int), z = ar.wrap IntKind.i64 (ar.add ((Int.mul 36 x.fst.dirs).add (Int.mul 40 (↑i.fst : Int))) 40) → ∀ (z_1 : Int), z_1 = ar.wrap
  IntKind.i64 (ar.add (↑i.fst : Int) 1) → ∃ (j : Nat × Int), Rd2 x j ∧ (x.fst.files.toNat.sub j.fst).lt (x.fst.files.toNat.sub i.fst) ∧ x.fst.slots = x.fst.slots ∧ x.fst.files =
  x.fst.files ∧ x.fst.dirs = x.fst.dirs ∧ x.fst.most = x.fst.most ∧ x.fst.least = x.fst.least ∧ x.fst.page = x.fst.page ∧ x.snd = x.snd ∧ z = (Int.mul 36 x.fst.dirs).add (Int.mul
  40 (↑j.fst : Int)) ∧ z_1 = (↑j.fst : Int) ∧ x.fst.slots = x.fst.slots ∧ x.fst.files = x.fst.files ∧ x.fst.dirs = x.fst.dirs ∧ x.fst.most = x.fst.most ∧ x.fst.least = x.fst.least
  ∧ x.fst.page = x.fst.page ∧ x.fst.files = x.fst.files ∧ x.fst.dirs = x.fst.dirs ∧ nLive x.snd x.fst (x.fst.dirs.toNat.add i.fst) = nLive x.snd x.fst (x.fst.dirs.toNat.add j.fst)
  ∧ i.snd = j.snd ∧ i.snd = j.snd ∧ colK x.snd x.fst (x.fst.dirs.toNat.add i.fst) = colK x.snd x.fst (x.fst.dirs.toNat.add j.fst) ∧ colN x.snd x.fst (x.fst.dirs.toNat.add i.fst) =
  colN x.snd x.fst (x.fst.dirs.toNat.add j.fst) ∧ colP x.snd x.fst (x.fst.dirs.toNat.add i.fst) = colP x.snd x.fst (x.fst.dirs.toNat.add j.fst) ∧ colR x.snd x.fst
  (x.fst.dirs.toNat.add i.fst) = colR x.snd x.fst (x.fst.dirs.toNat.add j.fst) ∧ colZ x.snd x.fst (x.fst.dirs.toNat.add i.fst) = colZ x.snd x.fst (x.fst.dirs.toNat.add j.fst) ∧
  True)) ∧ (¬ar.lt (↑i.fst : Int) x.fst.files → (∃ (i_1 : Nat × Int × Int), Rd3 x i_1 ∧ x.fst.slots = x.fst.slots ∧ x.fst.files = x.fst.files ∧ x.fst.dirs = x.fst.dirs ∧ x.fst.most
  = x.fst.most ∧ x.fst.least = x.fst.least ∧ x.fst.page = x.fst.page ∧ x.snd = x.snd ∧ (Int.mul 36 x.fst.dirs).add (Int.mul 40 (↑i.fst : Int)) = (offO x.fst).add (Int.mul 40
  (↑i_1.fst : Int)) ∧ 0 = (↑i_1.fst : Int) ∧ x.fst.slots = x.fst.slots ∧ x.fst.files = x.fst.files ∧ x.fst.dirs = x.fst.dirs ∧ x.fst.most = x.fst.most ∧ x.fst.least = x.fst.least ∧
  x.fst.page = x.fst.page ∧ x.fst.files = x.fst.files ∧ x.fst.dirs = x.fst.dirs ∧ nLive x.snd x.fst (x.fst.dirs.toNat.add i.fst) = nLive x.snd x.fst (nRows x.fst) ∧ i.snd =
  i_1.2.fst ∧ 0 = (↑i_1.fst : Int) ∧ 0 = i_1.2.snd ∧ i.snd = i_1.2.fst ∧ colK x.snd x.fst (x.fst.dirs.toNat.add i.fst) = colK x.snd x.fst (nRows x.fst) ∧ colN x.snd x.fst
  (x.fst.dirs.toNat.add i.fst) = colN x.snd x.fst (nRows x.fst) ∧ colP x.snd x.fst (x.fst.dirs.toNat.add i.fst) = colP x.snd x.fst (nRows x.fst) ∧ colR x.snd x.fst
  (x.fst.dirs.toNat.add i.fst) = colR x.snd x.fst (nRows x.fst) ∧ colZ x.snd x.fst (x.fst.dirs.toNat.add i.fst) = colZ x.snd x.fst (nRows x.fst) ∧ i_1.2.snd = 0 ∧ oN x.snd x.fst
  i_1.fst = [] ∧ oT x.snd x.fst i_1.fst = [] ∧ oB x.snd x.fst i_1.fst = [] ∧ oO x.snd x.fst i_1.fst = [] ∧ True) ∧ ∀ (i : Nat × Int × Int), Rd3 x i → ∀ (z : Int), z = ar.wrap
  IntKind.i64 (ar.add x.fst.files x.fst.slots) → (ar.lt (↑i.fst : Int) z → ∀ (z : Int), z = ar.wrap IntKind.i64 (ar.add ((offO x.fst).add (Int.mul 40 (↑i.fst : Int))) 16) → ar.le 0
  ((offO x.fst).add (Int.mul 40 (↑i.fst : Int))) ∧ ar.le ((offO x.fst).add (Int.mul 40 (↑i.fst : Int))) z ∧ ar.le z (ar.slen x.snd) ∧ ∀ (t : List UInt8), t = ar.sext x.snd ((offO
  x.fst).add (Int.mul 40 (↑i.fst : Int))) z → ∀ (z : Int), z = ar.wrap IntKind.i64 (ar.add ((offO x.fst).add (Int.mul 40 (↑i.fst : Int))) 16) → ∀ (z_1 : Int), z_1 = ar.wrap
  IntKind.i64 (ar.add ((offO x.fst).add (Int.mul 40 (↑i.fst : Int))) 32) → ar.le 0 z ∧ ar.le z z_1 ∧ ar.le z_1 (ar.slen x.snd) ∧ ∀ (t_1 : List UInt8), t_1 = ar.sext x.snd z z_1 → ∀
  (z : Int), z = ar.wrap IntKind.i64 (ar.add ((offO x.fst).add (Int.mul 40 (↑i.fst : Int))) 32) → ∀ (z_2 : Int), z_2 = ar.wrap IntKind.i64 (ar.add ((offO x.fst).add (Int.mul 40
  (↑i.fst : Int))) 36) → ar.le 0 z ∧ ar.le z z_2 ∧ ar.le z_2 (ar.slen x.snd) ∧ ∀ (t_2 : List UInt8), t_2 = ar.sext x.snd z z_2 → ∀ (z : Int), z = ar.wrap IntKind.i64 (ar.add ((offO
  x.fst).add (Int.mul 40 (↑i.fst : Int))) 36) → ∀ (z_3 : Int), z_3 = ar.wrap IntKind.i64 (ar.add ((offO x.fst).add (Int.mul 40 (↑i.fst : Int))) 40) → ar.le 0 z ∧ ar.le z z_3 ∧
  ar.le z_3 (ar.slen x.snd) ∧ ∀ (t_3 : List UInt8), t_3 = ar.sext x.snd z z_3 → ∃ (x_1 : List UInt8), t_2 = x_1 ∧ SNumIn x_1 ∧ ∀ (y : Unit), True → ∃ (x_2 : List UInt8), t_3 = x_2
  ∧ SNumIn x_2 ∧ ∀ (y : Unit), True → ∀ (z : Int), z = ar.wrap IntKind.i64 (ar.sub (numB x_2) 1) → ar.le (ar.add 0 (↑i.fst : Int)) (ar.tlen (oN x.snd x.fst i.fst)) ∧ ar.le (ar.add
  0 (↑i.fst : Int)) (ar.tlen (oT x.snd x.fst i.fst)) ∧ ar.le (ar.add 0 (↑i.fst : Int)) (ar.ilen (oB x.snd x.fst i.fst)) ∧ ar.le (ar.add 0 (↑i.fst : Int)) (ar.ilen (oO x.snd x.fst
  i.fst)) ∧ i.2.snd = i.2.snd ∧ ar.le (ar.mul (ar.add (↑i.fst : Int) 1) 48) 140737488355328 ∧ ∀ (c : Int), ar.le (ar.add (↑i.fst : Int) 1) c → ∀ (z_4 : Int), z_4 = ar.wrap
  IntKind.i64 (ar.add ((offO x.fst).add (Int.mul 40 (↑i.fst : Int))) 40) → ∀ (z_5 : Int), z_5 = ar.wrap IntKind.i64 (ar.add (↑i.fst : Int) 1) → ∃ (j : Nat × Int × Int), Rd3 x j ∧
  ((rowsC x.fst).toNat.sub j.fst).lt ((rowsC x.fst).toNat.sub i.fst) ∧ x.fst.slots = x.fst.slots ∧ x.fst.files = x.fst.files ∧ x.fst.dirs = x.fst.dirs ∧ x.fst.most = x.fst.most ∧
  x.fst.least = x.fst.least ∧ x.fst.page = x.fst.page ∧ x.snd = x.snd ∧ z_4 = (offO x.fst).add (Int.mul 40 (↑j.fst : Int)) ∧ z_5 = (↑j.fst : Int) ∧ x.fst.slots = x.fst.slots ∧
  x.fst.files = x.fst.files ∧ x.fst.dirs = x.fst.dirs ∧ x.fst.most = x.fst.most ∧ x.fst.least = x.fst.least ∧ x.fst.page = x.fst.page ∧ x.fst.files = x.fst.files ∧ x.fst.dirs =
  x.fst.dirs ∧ nLive x.snd x.fst (nRows x.fst) = nLive x.snd x.fst (nRows x.fst) ∧ i.2.fst = j.2.fst ∧ ar.add (↑i.fst : Int) 1 = (↑j.fst : Int) ∧ c = j.2.snd ∧ i.2.fst = j.2.fst ∧
  colK x.snd x.fst (nRows x.fst) = colK x.snd x.fst (nRows x.fst) ∧ colN x.snd x.fst (nRows x.fst) = colN x.snd x.fst (nRows x.fst) ∧ colP x.snd x.fst (nRows x.fst) = colP x.snd
  x.fst (nRows x.fst) ∧ colR x.snd x.fst (nRows x.fst) = colR x.snd x.fst (nRows x.fst) ∧ colZ x.snd x.fst (nRows x.fst) = colZ x.snd x.fst (nRows x.fst) ∧ c = j.2.snd ∧ ar.tapp
  (ar.tsub (oN x.snd x.fst i.fst) 0 (↑i.fst : Int)) [t] = oN x.snd x.fst j.fst ∧ ar.tapp (ar.tsub (oT x.snd x.fst i.fst) 0 (↑i.fst : Int)) [t_1] = oT x.snd x.fst j.fst ∧ ar.iapp
  (ar.isub (oB x.snd x.fst i.fst) 0 (↑i.fst : Int)) [numB x_1] = oB x.snd x.fst j.fst ∧ ar.iapp (ar.isub (oO x.snd x.fst i.fst) 0 (↑i.fst : Int)) [z] = oO x.snd x.fst j.fst ∧ True)
  ∧ (¬ar.lt (↑i.fst : Int) z → ∀ (z : Int), z = ar.wrap IntKind.i64 (ar.add ((offO x.fst).add (Int.mul 40 (↑i.fst : Int))) 4) → ar.le 0 ((offO x.fst).add (Int.mul 40 (↑i.fst :
  Int))) ∧ ar.le ((offO x.fst).add (Int.mul 40 (↑i.fst : Int))) z ∧ ar.le z (ar.slen x.snd) ∧ ∀ (t : List UInt8), t = ar.sext x.snd ((offO x.fst).add (Int.mul 40 (↑i.fst : Int))) z
  → ∃ (x_1 : List UInt8), t = x_1 ∧ SNumIn x_1 ∧ ∀ (y : Unit), True → ∀ (z : Int), z = ar.wrap IntKind.i64 (ar.add ((offO x.fst).add (Int.mul 40 (↑i.fst : Int))) 4) → (∃ (i_1 : Nat
  × Int × Int × Int), Rd4 x i_1 ∧ x.fst.slots = x.fst.slots ∧ x.fst.files = x.fst.files ∧ x.fst.dirs = x.fst.dirs ∧ x.fst.most = x.fst.most ∧ x.fst.least = x.fst.least ∧ x.fst.page
  = x.fst.page ∧ x.snd = x.snd ∧ z = ((offQ x.fst).add 4).add (Int.mul 4 (↑i_1.fst : Int)) ∧ numB x_1 = cntQ x.snd x.fst ∧ 0 = (↑i_1.fst : Int) ∧ x.fst.slots = x.fst.slots ∧
  x.fst.files = x.fst.files ∧ x.fst.dirs = x.fst.dirs ∧ x.fst.most = x.fst.most ∧ x.fst.least = x.fst.least ∧ x.fst.page = x.fst.page ∧ x.fst.files = x.fst.files ∧ x.fst.dirs =
  x.fst.dirs ∧ nLive x.snd x.fst (nRows x.fst) = nLive x.snd x.fst (nRows x.fst) ∧ i.2.fst = i_1.2.fst ∧ (↑i.fst : Int) = rowsC x.fst ∧ i.2.snd = i_1.snd.snd.fst ∧ 0 = (↑i_1.fst :
  Int) ∧ 0 = i_1.snd.snd.snd ∧ i.2.fst = i_1.2.fst ∧ colK x.snd x.fst (nRows x.fst) = colK x.snd x.fst (nRows x.fst) ∧ colN x.snd x.fst (nRows x.fst) = colN x.snd x.fst (nRows
  x.fst) ∧ colP x.snd x.fst (nRows x.fst) = colP x.snd x.fst (nRows x.fst) ∧ colR x.snd x.fst (nRows x.fst) = colR x.snd x.fst (nRows x.fst) ∧ colZ x.snd x.fst (nRows x.fst) = colZ
  x.snd x.fst (nRows x.fst) ∧ i.2.snd = i_1.snd.snd.fst ∧ oN x.snd x.fst i.fst = oN x.snd x.fst (rowsC x.fst).toNat ∧ oT x.snd x.fst i.fst = oT x.snd x.fst (rowsC x.fst).toNat ∧ oB
  x.snd x.fst i.fst = oB x.snd x.fst (rowsC x.fst).toNat ∧ oO x.snd x.fst i.fst = oO x.snd x.fst (rowsC x.fst).toNat ∧ i_1.snd.snd.snd = 0 ∧ qL x.snd x.fst i_1.fst = [] ∧ True) ∧ ∀
  (i : Nat × Int × Int × Int), Rd4 x i → (ar.lt (↑i.fst : Int) (cntQ x.snd x.fst) → ∀ (z : Int), z = ar.wrap IntKind.i64 (ar.add x.fst.files x.fst.slots) → (ar.lt (↑i.fst : Int) z
  → ∀ (z : Int), z = ar.wrap IntKind.i64 (ar.add (((offQ x.fst).add 4).add (Int.mul 4 (↑i.fst : Int))) 4) → ar.le 0 (((offQ x.fst).add 4).add (Int.mul 4 (↑i.fst : Int))) ∧ ar.le
  (((offQ x.fst).add 4).add (Int.mul 4 (↑i.fst : Int))) z ∧ ar.le z (ar.slen x.snd) ∧ ∀ (t : List UInt8), t = ar.sext x.snd (((offQ x.fst).add 4).add (Int.mul 4 (↑i.fst : Int))) z
  → ∃ (x_2 : List UInt8), t = x_2 ∧ SNumIn x_2 ∧ ∀ (y : Unit), True → ar.le (ar.add 0 (↑i.fst : Int)) (ar.ilen (qL x.snd x.fst i.fst)) ∧ i.snd.snd.snd = i.snd.snd.snd ∧ ar.le
  (ar.mul (ar.add (↑i.fst : Int) 1) 8) 140737488355328 ∧ ∀ (c : Int), ar.le (ar.add (↑i.fst : Int) 1) c → ∀ (z : Int), z = ar.wrap IntKind.i64 (ar.add (((offQ x.fst).add 4).add
  (Int.mul 4 (↑i.fst : Int))) 4) → ∀ (z_1 : Int), z_1 = ar.wrap IntKind.i64 (ar.add (↑i.fst : Int) 1) → ∃ (j : Nat × Int × Int × Int), Rd4 x j ∧ ((cntR x.snd x.fst).toNat.sub
  j.fst).lt ((cntR x.snd x.fst).toNat.sub i.fst) ∧ x.fst.slots = x.fst.slots ∧ x.fst.files = x.fst.files ∧ x.fst.dirs = x.fst.dirs ∧ x.fst.most = x.fst.most ∧ x.fst.least =
  x.fst.least ∧ x.fst.page = x.fst.page ∧ x.snd = x.snd ∧ z = ((offQ x.fst).add 4).add (Int.mul 4 (↑j.fst : Int)) ∧ cntQ x.snd x.fst = cntQ x.snd x.fst ∧ z_1 = (↑j.fst : Int) ∧
  x.fst.slots = x.fst.slots ∧ x.fst.files = x.fst.files ∧ x.fst.dirs = x.fst.dirs ∧ x.fst.most = x.fst.most ∧ x.fst.least = x.fst.least ∧ x.fst.page = x.fst.page ∧ x.fst.files =
  x.fst.files ∧ x.fst.dirs = x.fst.dirs ∧ nLive x.snd x.fst (nRows x.fst) = nLive x.snd x.fst (nRows x.fst) ∧ i.2.fst = j.2.fst ∧ rowsC x.fst = rowsC x.fst ∧ i.snd.snd.fst =
  j.snd.snd.fst ∧ ar.add (↑i.fst : Int) 1 = (↑j.fst : Int) ∧ c = j.snd.snd.snd ∧ i.2.fst = j.2.fst ∧ colK x.snd x.fst (nRows x.fst) = colK x.snd x.fst (nRows x.fst) ∧ colN x.snd
  x.fst (nRows x.fst) = colN x.snd x.fst (nRows x.fst) ∧ colP x.snd x.fst (nRows x.fst) = colP x.snd x.fst (nRows x.fst) ∧ colR x.snd x.fst (nRows x.fst) = colR x.snd x.fst (nRows
  x.fst) ∧ colZ x.snd x.fst (nRows x.fst) = colZ x.snd x.fst (nRows x.fst) ∧ i.snd.snd.fst = j.snd.snd.fst ∧ oN x.snd x.fst (rowsC x.fst).toNat = oN x.snd x.fst (rowsC x.fst).toNat
  ∧ oT x.snd x.fst (rowsC x.fst).toNat = oT x.snd x.fst (rowsC x.fst).toNat ∧ oB x.snd x.fst (rowsC x.fst).toNat = oB x.snd x.fst (rowsC x.fst).toNat ∧ oO x.snd x.fst (rowsC
  x.fst).toNat = oO x.snd x.fst (rowsC x.fst).toNat ∧ c = j.snd.snd.snd ∧ ar.iapp (ar.isub (qL x.snd x.fst i.fst) 0 (↑i.fst : Int)) [numB x_2] = qL x.snd x.fst j.fst ∧ True) ∧
  (¬ar.lt (↑i.fst : Int) z → ∃ (y : Int × Int × Int), ReadCap x y ∧ x.fst.files = x.fst.files ∧ x.fst.dirs = x.fst.dirs ∧ nLive x.snd x.fst (nRows x.fst) = nLive x.snd x.fst (nRows
  x.fst) ∧ i.2.fst = y.fst ∧ rowsC x.fst = rowsC x.fst ∧ i.snd.snd.fst = y.2.fst ∧ (↑i.fst : Int) = cntR x.snd x.fst ∧ i.snd.snd.snd = y.2.snd ∧ i.2.fst = y.fst ∧ colK x.snd x.fst
  (nRows x.fst) = colK x.snd x.fst (nRows x.fst) ∧ colN x.snd x.fst (nRows x.fst) = colN x.snd x.fst (nRows x.fst) ∧ colP x.snd x.fst (nRows x.fst) = colP x.snd x.fst (nRows x.fst)
  ∧ colR x.snd x.fst (nRows x.fst) = colR x.snd x.fst (nRows x.fst) ∧ colZ x.snd x.fst (nRows x.fst) = colZ x.snd x.fst (nRows x.fst) ∧ i.snd.snd.fst = y.2.fst ∧ oN x.snd x.fst
  (rowsC x.fst).toNat = oN x.snd x.fst (rowsC x.fst).toNat ∧ oT x.snd x.fst (rowsC x.fst).toNat = oT x.snd x.fst (rowsC x.fst).toNat ∧ oB x.snd x.fst (rowsC x.fst).toNat = oB x.snd
  x.fst (rowsC x.fst).toNat ∧ oO x.snd x.fst (rowsC x.fst).toNat = oO x.snd x.fst (rowsC x.fst).toNat ∧ i.snd.snd.snd = y.2.snd ∧ qL x.snd x.fst i.fst = qL x.snd x.fst (cntR x.snd
  x.fst).toNat ∧ True)) ∧ (¬ar.lt (↑i.fst : Int) (cntQ x.snd x.fst) → ∃ (y : Int × Int × Int), ReadCap x y ∧ x.fst.files = x.fst.files ∧ x.fst.dirs = x.fst.dirs ∧ nLive x.snd x.fst
  (nRows x.fst) = nLive x.snd x.fst (nRows x.fst) ∧ i.2.fst = y.fst ∧ rowsC x.fst = rowsC x.fst ∧ i.snd.snd.fst = y.2.fst ∧ (↑i.fst : Int) = cntR x.snd x.fst ∧ i.snd.snd.snd =
  y.2.snd ∧ i.2.fst = y.fst ∧ colK x.snd x.fst (nRows x.fst) = colK x.snd x.fst (nRows x.fst) ∧ colN x.snd x.fst (nRows x.fst) = colN x.snd x.fst (nRows x.fst) ∧ colP x.snd x.fst
  (nRows x.fst) = colP x.snd x.fst (nRows x.fst) ∧ colR x.snd x.fst (nRows x.fst) = colR x.snd x.fst (nRows x.fst) ∧ colZ x.snd x.fst (nRows x.fst) = colZ x.snd x.fst (nRows x.fst)
  ∧ i.snd.snd.fst = y.2.fst ∧ oN x.snd x.fst (rowsC x.fst).toNat = oN x.snd x.fst (rowsC x.fst).toNat ∧ oT x.snd x.fst (rowsC x.fst).toNat = oT x.snd x.fst (rowsC x.fst).toNat ∧ oB
  x.snd x.fst (rowsC x.fst).toNat = oB x.snd x.fst (rowsC x.fst).toNat ∧ oO x.snd x.fst (rowsC x.fst).toNat = oO x.snd x.fst (rowsC x.fst).toNat ∧ i.snd.snd.snd = y.2.snd ∧ qL
  x.snd x.fst i.fst = qL x.snd x.fst (cntR x.snd x.fst).toNat ∧ True))))
theorem rread_eq (ar : AR) (x : rreadSpec.X) : (run ar PP rreadSpecs (rreadInvs x) 1000 41 (rreadSpec.H x).length (Tryd.f41.body.getD .skip) (rreadSpec.A x ++ List.replicate (Tryd.f41.ntmps - (rreadSpec.A x).length) .any) (rreadSpec.H x) (endCall ar PP Tryd.f41.results.toList (rreadSpec.fin x))) = rread_vc ar x := by
  kernel_rfl
theorem rread_of (h : ∀ x, rreadSpec.pre x → rread_vc ar0 x) : rreadSpec.OK PP 41 :=
  Spec.ok_of_run (fn := Tryd.f41) (c := Tryd.f41.body.getD .skip) (by kernel_rfl) (by kernel_rfl) (by kernel_rfl) rreadSpecs_ok rreadInvs 1000 (fun x hx => (rread_eq ar0 x).mpr (h x hx))
theorem col_lens (s : List UInt8) (c : Cfg) (k : Nat) : (((PL.colK s c k).length : Int) = PL.nLive s c k ∧ ((PL.colN s c k).length : Int) = PL.nLive s c k ∧ ((PL.colP s c k).length : Int) = PL.nLive s c k ∧ ((PL.colR s c k).length : Int) = PL.nLive s c k ∧ ((PL.colS s c k).length : Int) = PL.nLive s c k ∧ ((PL.colZ s c k).length : Int) = PL.nLive s c k) := by
  simp [PL.colK, PL.colN, PL.colP, PL.colR, PL.colS, PL.colZ, PL.nLive]
theorem obj_lens (s : List UInt8) (c : Cfg) (k : Nat) : (PL.oN s c k).length = k ∧ (PL.oT s c k).length = k ∧ (PL.oB s c k).length = k ∧ (PL.oO s c k).length = k ∧ (PL.qL s c k).length = k := by
  simp [PL.oN, PL.oT, PL.oB, PL.oO, PL.qL]
theorem ex_lst {t : List UInt8} {Q : List UInt8 → Prop} : (∃ x, t = x ∧ Q x) ↔ Q t := ⟨fun ⟨_, h, g⟩ => h ▸ g, fun h => ⟨t, rfl, h⟩⟩
theorem ex_si2 {a : List UInt8} {b d : Int} {Q : List UInt8 × Int × Int → Prop} : (∃ x : List UInt8 × Int × Int, a = x.1 ∧ b = x.2.1 ∧ d = x.2.2 ∧ Q x) ↔ Q (a, b, d) := by
  constructor
  · rintro ⟨⟨x, y, z⟩, rfl, rfl, rfl, h⟩; exact h
  · exact fun h => ⟨(a, b, d), rfl, rfl, rfl, h⟩
theorem rreadSpec_ok : rreadSpec.OK PP 41 := by
  refine rread_of fun x hx => ?_
  obtain ⟨c, s⟩ := x
  obtain ⟨hc, hl, hle⟩ : PL.ReadIn (c, s) := hx
  simp only at hc hl hle
  obtain ⟨c1, c2, c3, c4, c5, c6⟩ := id hc
  simp only [lenI] at hl
  have hq := cntR_range (s := s) hc
  have hq0 := cntQ_range s c
  have hrc : rowsC c = c.files + c.slots := rfl
  have hO : offO c = 36 * c.dirs + 40 * c.files := rfl
  have hQ : offQ c = offO c + 40 * rowsC c := rfl
  have hN : nRows c = c.dirs.toNat + c.files.toNat := by unfold nRows; omega
  unfold rread_vc
  simp only [ars, ars2, ex_si2, ex_lst, true_and, and_true, exists_const, forall_const, forall_eq, Int.toNat_natCast, Int.zero_add, Classical.not_not]
  have e0 : ∀ p : Nat, (p : Int) < c.dirs → offR c p = 36 * p ∧ kndR c p = 1 ∧ nmbR c p = p + 1 := fun p hp => by
    unfold offR kndR nmbR; rw [if_pos hp, if_pos hp, if_pos hp]; exact ⟨rfl, rfl, rfl⟩
  have e1 : ∀ p : Nat, offR c (c.dirs.toNat + p) = 36 * c.dirs + 40 * p ∧ kndR c (c.dirs.toNat + p) = 2 ∧ nmbR c (c.dirs.toNat + p) = p := fun p => by
    have hp : ¬ ((c.dirs.toNat + p : Nat) : Int) < c.dirs := by omega
    unfold offR kndR nmbR; rw [if_neg hp, if_neg hp, if_neg hp]; omega
  refine ⟨⟨(0, 0), ⟨by simp only; omega, by simp [nLive, live]⟩, by and_intros <;> first | rfl | simp [nLive, live]⟩, ?_⟩
  rintro ⟨k, cp⟩ ⟨hk, hcp⟩
  simp only at hk hcp
  obtain ⟨lK, lN, lP, lR, lS, lZ⟩ := col_lens s c k
  have nr := nLive_range s c k
  simp only [lK, lN, lP, lR, lZ]
  refine ⟨fun hlt => ?_, fun hge => ?_⟩
  · obtain ⟨o1, o2, o3⟩ := e0 k (by omega)
    have w1 : IntKind.i64.wrap (36 * (k : Int) + 36) = 36 * k + 36 := wrap_i64 (by omega) (by omega)
    have w2 : IntKind.i64.wrap ((k : Int) + 1 + 1) = k + 1 + 1 := wrap_i64 (by omega) (by omega)
    have ht : List.drop (36 * (k : Int)).toNat (List.take (36 * (k : Int) + 36).toNat s) = dropk s (offR c k) (rsz (kndR c k)) := by
      rw [ext_dropk s _ _ (by omega) (by omega), o1, o2, show 36 * (k : Int) + 36 - 36 * (k : Int) = rsz 1 by simp only [rsz]; omega]
    have hlen : ((dropk s (offR c k) (rsz (kndR c k))).length : Int) = 36 := by rw [dropk_length (by omega) (by rw [o2]; decide) (by rw [o1, o2]; simp only [rsz]; omega), o2]; rfl
    obtain ⟨s1, s2, s3, s4, s5, s6⟩ := row_sim (by omega) (t := dropk s (offR c k) (rsz (kndR c k))) rfl 1 ((k : Int) + 1) o2.symm
    simp only [w1, w2, ht, s1, s2, s3, s4, s5, s6]
    refine ⟨by omega, by omega, by omega, ⟨by simpa [rsz] using hlen, .inl rfl⟩, fun hf => ?_, fun hf => ?_⟩
    · refine ⟨by omega, by omega, by omega, by omega, by omega, by omega, fun c' hc' => ⟨(k + 1, c'), ⟨by simp only; omega, by rw [nLive_hit hf]; exact hc'⟩, by simp only; omega, by simp only; omega, by simp only; omega, (nLive_hit hf).symm, rfl, rfl, ?_⟩⟩
      refine ⟨col_step _ rfl hf (by rw [o2]), col_step _ rfl hf (by rw [o3]), col_step _ rfl hf rfl, col_step _ rfl hf rfl, col_step _ rfl hf (by rw [o2])⟩
    · have hm := live_miss hf
      refine ⟨(k + 1, cp), ⟨by simp only; omega, by simp only [nLive, hm]; exact hcp⟩, by simp only; omega, by simp only; omega, by simp only; omega, by simp only [nLive, hm], rfl, rfl, ?_⟩
      simp only [colK, colN, colP, colR, colZ, hm, and_self]
  obtain rfl : k = c.dirs.toNat := by omega
  refine ⟨⟨(0, cp), ⟨by simp only; omega, hcp⟩, by simp only; omega, by and_intros <;> first | rfl | trivial⟩, ?_⟩
  clear hk hcp lK lN lP lR lS lZ nr hge
  rintro ⟨k, cp⟩ ⟨hk, hcp⟩
  simp only at hk hcp
  obtain ⟨lK, lN, lP, lR, lS, lZ⟩ := col_lens s c (c.dirs.toNat + k)
  have nr := nLive_range s c (c.dirs.toNat + k)
  simp only [lK, lN, lP, lR, lZ]
  refine ⟨fun hlt => ?_, fun hge => ?_⟩
  · obtain ⟨o1, o2, o3⟩ := e1 k
    have w1 : IntKind.i64.wrap (36 * c.dirs + 40 * (k : Int) + 40) = 36 * c.dirs + 40 * k + 40 := wrap_i64 (by omega) (by omega)
    have w2 : IntKind.i64.wrap ((k : Int) + 1) = k + 1 := wrap_i64 (by omega) (by omega)
    have ht : List.drop (36 * c.dirs + 40 * (k : Int)).toNat (List.take (36 * c.dirs + 40 * (k : Int) + 40).toNat s) = dropk s (offR c (c.dirs.toNat + k)) (rsz (kndR c (c.dirs.toNat + k))) := by
      rw [ext_dropk s _ _ (by omega) (by omega), o1, o2, show 36 * c.dirs + 40 * (k : Int) + 40 - (36 * c.dirs + 40 * (k : Int)) = rsz 2 by have : rsz 2 = 40 := rfl; omega]
    have hlen : ((dropk s (offR c (c.dirs.toNat + k)) (rsz (kndR c (c.dirs.toNat + k)))).length : Int) = 40 := by rw [dropk_length (by omega) (by rw [o2]; decide) (by rw [o1, o2]; simp only [rsz]; omega), o2]; rfl
    obtain ⟨s1, s2, s3, s4, s5, s6⟩ := row_sim (by omega) (t := dropk s (offR c (c.dirs.toNat + k)) (rsz (kndR c (c.dirs.toNat + k)))) rfl 2 (k : Int) o2.symm
    simp only [w1, w2, ht, s1, s2, s3, s4, s5, s6]
    refine ⟨by omega, by omega, by omega, ⟨by simpa [rsz] using hlen, .inr rfl⟩, fun hf => ?_, fun hf => ?_⟩
    · refine ⟨by omega, by omega, by omega, by omega, by omega, by omega, fun c' hc' => ⟨(k + 1, c'), ⟨by simp only; omega, by rw [← Nat.add_assoc, nLive_hit hf]; exact hc'⟩, by simp only; omega, by simp only; omega, by simp only; omega, (nLive_hit hf).symm, rfl, rfl, ?_⟩⟩
      refine ⟨col_step _ rfl hf (by rw [o2]), col_step _ rfl hf (by rw [o3]), col_step _ rfl hf rfl, col_step _ rfl hf rfl, col_step _ rfl hf (by rw [o2])⟩
    · have hm : live s c (c.dirs.toNat + (k + 1)) = live s c (c.dirs.toNat + k) := live_miss hf
      refine ⟨(k + 1, cp), ⟨by simp only; omega, by simp only [nLive, hm]; exact hcp⟩, by simp only; omega, by simp only; omega, by simp only; omega, by simp only [nLive, hm], rfl, rfl, ?_⟩
      simp only [colK, colN, colP, colR, colZ, hm, and_self]
  obtain rfl : k = c.files.toNat := by omega
  simp only [← hN] at hcp ⊢
  refine ⟨⟨(0, cp, 0), ⟨by simp only; omega, hcp, by simp⟩, by simp only; omega, by and_intros <;> first | rfl | trivial⟩, ?_⟩
  clear hk hcp lK lN lP lR lS lZ nr hge
  have wr : IntKind.i64.wrap (c.files + c.slots) = rowsC c := wrap_i64 (by omega) (by omega)
  simp only [wr]
  rintro ⟨k, cp, cp2⟩ ⟨hk, hcp, hcp2⟩
  simp only at hk hcp hcp2
  obtain ⟨lN, lT, lB, lO, _⟩ := obj_lens s c k
  simp only [lN, lT, lB, lO]
  refine ⟨fun hlt => ?_, fun hge => ?_⟩
  · have w1 : IntKind.i64.wrap (offO c + 40 * (k : Int) + 16) = offO c + 40 * (k : Int) + 16 := wrap_i64 (by omega) (by omega)
    have w2 : IntKind.i64.wrap (offO c + 40 * (k : Int) + 32) = offO c + 40 * (k : Int) + 32 := wrap_i64 (by omega) (by omega)
    have w3 : IntKind.i64.wrap (offO c + 40 * (k : Int) + 36) = offO c + 40 * (k : Int) + 36 := wrap_i64 (by omega) (by omega)
    have w4 : IntKind.i64.wrap (offO c + 40 * (k : Int) + 40) = offO c + 40 * (k : Int) + 40 := wrap_i64 (by omega) (by omega)
    have w5 : IntKind.i64.wrap ((k : Int) + 1) = k + 1 := wrap_i64 (by omega) (by omega)
    have g1 : List.drop (offO c + 40 * (k : Int)).toNat (List.take (offO c + 40 * (k : Int) + 16).toNat s) = dropk s (offO c + 40 * (k : Int)) 16 := by rw [ext_dropk s _ _ (by omega) (by omega)]; congr 1; omega
    have g2 : List.drop (offO c + 40 * (k : Int) + 16).toNat (List.take (offO c + 40 * (k : Int) + 32).toNat s) = dropk s (offO c + 40 * (k : Int) + 16) 16 := by rw [ext_dropk s _ _ (by omega) (by omega)]; congr 1; omega
    have g3 : List.drop (offO c + 40 * (k : Int) + 32).toNat (List.take (offO c + 40 * (k : Int) + 36).toNat s) = dropk s (offO c + 40 * (k : Int) + 32) 4 := by rw [ext_dropk s _ _ (by omega) (by omega)]; congr 1; omega
    have g4 : List.drop (offO c + 40 * (k : Int) + 36).toNat (List.take (offO c + 40 * (k : Int) + 40).toNat s) = dropk s (offO c + 40 * (k : Int) + 36) 4 := by rw [ext_dropk s _ _ (by omega) (by omega)]; congr 1; omega
    have n4 := numB_lt (l := dropk s (offO c + 40 * (k : Int) + 36) 4) (k := 4) (by simp [dropk]; omega)
    have h4 : (256 : Int) ^ 4 = 4294967296 := by decide
    have w6 : IntKind.i64.wrap (numB (dropk s (offO c + 40 * (k : Int) + 36) 4) - 1) = numB (dropk s (offO c + 40 * (k : Int) + 36) 4) - 1 := wrap_i64 (by omega) (by omega)
    simp only [w1, w2, w3, w4, w5, g1, g2, g3, g4, w6]
    refine ⟨by omega, by omega, by omega, by omega, by omega, by omega, by omega, by omega, by omega, by omega, by omega, by omega, ⟨by simp [dropk]; omega⟩, ⟨by simp [dropk]; omega⟩, by omega, by omega, by omega, by omega, by omega, fun c' hc' => ⟨(k + 1, cp, c'), ⟨by simp only; omega, hcp, by simp only; omega⟩, by simp only; omega, by simp only; omega, by simp only; omega, rfl, by simp only; omega, rfl, rfl, rfl, ?_⟩⟩
    exact ⟨rng_step _ rfl, rng_step _ rfl, rng_step _ rfl, rng_step _ rfl⟩
  obtain rfl : k = (rowsC c).toNat := by omega
  have w1 : IntKind.i64.wrap (offO c + 40 * ((rowsC c).toNat : Int) + 4) = offQ c + 4 := by rw [wrap_i64 (by omega) (by omega)]; omega
  have g1 : List.drop (offO c + 40 * ((rowsC c).toNat : Int)).toNat (List.take (offQ c + 4).toNat s) = dropk s (offQ c) 4 := by rw [show offO c + 40 * ((rowsC c).toNat : Int) = offQ c by omega, ext_dropk s _ _ (by omega) (by omega)]; congr 1; omega
  simp only [w1, g1]
  refine ⟨by omega, by omega, by omega, ⟨by simp [dropk]; omega⟩, ⟨(0, cp, cp2, 0), ⟨by simp only; omega, hcp, by simp only; omega, by simp⟩, by simp only; omega, by and_intros <;> first | rfl | trivial | omega⟩, ?_⟩
  clear hk hcp hcp2 lN lT lB lO hge
  rintro ⟨k, cp, cp2, cp3⟩ ⟨hk, hcp, hcp2, hcp3⟩
  simp only at hk hcp hcp2 hcp3
  have lq : (qL s c k).length = k := by simp [qL]
  simp only [lq]
  have fin : ((k : Int) = cntR s c) → ∃ y : Int × Int × Int, PL.ReadCap (c, s) y ∧ cp = y.1 ∧ cp2 = y.2.1 ∧ (k : Int) = cntR s c ∧ cp3 = y.2.2 ∧ cp = y.1 ∧ cp2 = y.2.1 ∧ cp3 = y.2.2 ∧ qL s c k = qL s c (cntR s c).toNat := fun h =>
    ⟨(cp, cp2, cp3), ⟨hcp, hcp2, by simp only; omega⟩, rfl, rfl, h, rfl, rfl, rfl, rfl, by rw [← h, Int.toNat_natCast]⟩
  have hmin : cntR s c = if rowsC c < cntQ s c then rowsC c else cntQ s c := rfl
  refine ⟨fun h1 => ⟨fun h2 => ?_, fun h2 => ?_⟩, fun h1 => ?_⟩
  · have w1 : IntKind.i64.wrap (offQ c + 4 + 4 * (k : Int) + 4) = offQ c + 4 + 4 * (k : Int) + 4 := wrap_i64 (by omega) (by omega)
    have w5 : IntKind.i64.wrap ((k : Int) + 1) = k + 1 := wrap_i64 (by omega) (by omega)
    have g1 : List.drop (offQ c + 4 + 4 * (k : Int)).toNat (List.take (offQ c + 4 + 4 * (k : Int) + 4).toNat s) = dropk s (offQ c + 4 + 4 * (k : Int)) 4 := by rw [ext_dropk s _ _ (by omega) (by omega)]; congr 1; omega
    simp only [w1, w5, g1]
    have hlt : (k : Int) < cntR s c := by rw [hmin]; split <;> omega
    exact ⟨by omega, by omega, by omega, ⟨by simp [dropk]; omega⟩, by omega, by omega, fun c' hc' => ⟨(k + 1, cp, cp2, c'), ⟨by simp only; omega, hcp, hcp2, by simp only; omega⟩, by simp only; omega, by simp only; omega, by simp only; omega, rfl, rfl, by simp only; omega, rfl, rfl, rfl, rfl, rng_step _ rfl⟩⟩
  · exact fin (by rw [hmin] at hk ⊢; split at hk <;> split <;> omega)
  · exact fin (by rw [hmin] at hk ⊢; split at hk <;> split <;> omega)
end Go.Eng
