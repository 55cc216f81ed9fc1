/- Index: big, sameTexts, putQueued. -/
import Derived.Test.YtfcjboomlfjanaaDoorIxB
set_option linter.unusedVariables false
set_option linter.unusedSimpArgs false
/- Index, the reference: zeros, wide, row. -/
namespace Go.PL
def zs (n : Nat) : List UInt8 := List.replicate n 0
def rowA (n : Nod) : List UInt8 := 1 :: (big n.parent 2 ++ (big (n.name.length : Int) 1 ++ (n.name ++ zs (32 - n.name.length))))
def rowS (n : Nod) : List UInt8 := rowA n ++ (if n.kind = 2 then big n.size 4 else [])
structure ZIn (n : Int) : Prop where
  n : 0 ≤ n ∧ n ≤ 1000000000
structure WIn (x : List UInt8 × Int) : Prop where
  le : (x.1.length : Int) ≤ x.2
  n : x.2 ≤ 1000000000
structure RowIn (n : Nod) : Prop where
  parent : 0 ≤ n.parent ∧ n.parent < 65536
  name : n.name.length ≤ 32
  size : 0 ≤ n.size ∧ n.size < 4294967296
theorem rowA_length {n : Nod} (h : RowIn n) : (rowA n).length = 36 := by
  have := h.name
  simp [rowA, zs, big_length]
  omega
end Go.PL
set_option linter.unusedSectionVars false
set_option linter.unusedSimpArgs false
set_option linter.unusedVariables false
namespace Go.Eng
variable [CW : CWorld]
open Go.Proofs
open Go.PL (Cfg CfgIn CfgOK CfgBad Nod Nods Tree Objs Pool)
set_option maxRecDepth 100000
attribute [local irreducible] run
end Go.Eng
/- Index, the reference: the image. -/
namespace Go.PL
def key (n : Nod) : Int := n.kind * 1000000 + n.number
open Classical in
noncomputable def slot (x : Nods) (v : Int) (w : Nat) : List UInt8 := if h : ∃ i, i < x.len.toNat ∧ key (x.at i) = v then rowS (x.at (Classical.choose h)) else zs w
noncomputable def dirsS (x : Nods) : Nat → List UInt8
  | 0 => []
  | k + 1 => dirsS x k ++ slot x (1000001 + (k : Int)) 36
noncomputable def filesS (x : Nods) : Nat → List UInt8
  | 0 => []
  | k + 1 => filesS x k ++ slot x (2000000 + (k : Int)) 40
def objS (x : Objs) (i : Nat) : List UInt8 := x.N.getD i [] ++ (x.T.getD i [] ++ (big (x.B.getD i 0) 4 ++ big (x.O.getD i 0 + 1) 4))
def objsL (x : Objs) : Nat → List UInt8
  | 0 => []
  | k + 1 => objsL x k ++ objS x k
def qS (q : List Int) : Nat → List UInt8
  | 0 => []
  | k + 1 => qS q k ++ big (q.getD k 0) 4
noncomputable def imgS (c : Cfg) (t : Tree) (p : Pool) : List UInt8 :=
  dirsS t.nods c.dirs.toNat ++ (filesS t.nods c.files.toNat ++ (objsL p.objs p.objs.len.toNat ++ (big p.qlen 4 ++ qS p.q p.objs.len.toNat)))
structure Sorted (x : Nods) : Prop where
  lt : ∀ i j, i < j → j < x.len.toNat → key (x.at i) < key (x.at j)
structure KCut (x : Nods) (v : Int) (a : Nat) : Prop where
  le : a ≤ x.len.toNat
  lo : ∀ j, j < a → key (x.at j) < v
  hi : ∀ j, a ≤ j → j < x.len.toNat → v ≤ key (x.at j)
theorem slot_at {x : Nods} {v : Int} {w a : Nat} (h : Sorted x) (ha : a < x.len.toNat) (hk : key (x.at a) = v) : slot x v w = rowS (x.at a) := by
  have hex : ∃ i, i < x.len.toNat ∧ key (x.at i) = v := ⟨a, ha, hk⟩
  unfold slot
  rw [dif_pos hex]
  have hc := Classical.choose_spec hex
  have : Classical.choose hex = a := by
    rcases Nat.lt_trichotomy (Classical.choose hex) a with g | g | g
    · have := h.lt _ _ g ha; omega
    · exact g
    · have := h.lt _ _ g hc.1; omega
  rw [this]
theorem slot_no {x : Nods} {v : Int} {w : Nat} (h : ∀ i, i < x.len.toNat → key (x.at i) ≠ v) : slot x v w = zs w := by
  unfold slot
  rw [dif_neg fun ⟨i, hi, hk⟩ => h i hi hk]
theorem kcut_hit {x : Nods} {v : Int} {a : Nat} (s : Sorted x) (h : KCut x v a) (ha : a < x.len.toNat) (hk : key (x.at a) = v) : KCut x (v + 1) (a + 1) := by
  refine ⟨by omega, fun j hj => ?_, fun j hj hl => ?_⟩
  · by_cases e : j = a
    · subst e; omega
    · have := h.lo j (by omega); omega
  · have := s.lt a j (by omega) hl; omega
theorem kcut_miss {x : Nods} {v : Int} {a : Nat} (s : Sorted x) (h : KCut x v a) (hk : a < x.len.toNat → key (x.at a) ≠ v) : KCut x (v + 1) a ∧ ∀ i, i < x.len.toNat → key (x.at i) ≠ v := by
  have hne : ∀ i, i < x.len.toNat → key (x.at i) ≠ v := fun i hi e => by
    rcases Nat.lt_trichotomy i a with g | g | g
    · have := h.lo i g; omega
    · subst g; exact hk hi e
    · have h1 := s.lt a i g hi
      have h2 := h.hi a (Nat.le_refl a) (by omega)
      omega
  refine ⟨⟨h.le, fun j hj => by have := h.lo j hj; omega, fun j hj hl => ?_⟩, hne⟩
  have h1 := h.hi j hj hl
  have h2 := hne j hl
  omega
structure ImgIn (x : Cfg × Tree × Pool) : Prop where
  cfg : CfgIn x.1
  nods : NodsOK x.2.1.nods
  pool : PoolIn (x.1, x.2.2)
  tree : TreeOK x.1 x.2.1
  ok : PoolOK x.1 x.2.2
theorem node_key {c : Cfg} {n : Nod} (hc : CfgIn c) (h : NodeOK c n) : (n.kind = 1 ∧ 1 ≤ n.number ∧ n.number ≤ 4096 ∨ n.kind = 2 ∧ 0 ≤ n.number ∧ n.number < 65536) ∧ RowIn n := by
  obtain ⟨h1, h2, h3⟩ := h
  obtain ⟨c1, c2, c3, c4, c5, c6⟩ := hc
  refine ⟨by omega, ⟨by omega, by omega⟩, h2.len, by omega⟩
theorem tree_sorted {c : Cfg} {t : Tree} (hc : CfgIn c) (h : TreeOK c t) : Sorted t.nods := by
  have step : ∀ j, j + 1 < t.nods.len.toNat → key (t.nods.at j) < key (t.nods.at (j + 1)) := fun j hj => by
    have b := (h.up.up j hj).b
    have k1 := (node_key hc (h.up.all j (by omega))).1
    have k2 := (node_key hc (h.up.all (j + 1) hj)).1
    simp only [key]
    omega
  refine ⟨fun i j hij hj => ?_⟩
  obtain ⟨d, rfl⟩ : ∃ d, j = i + 1 + d := ⟨j - (i + 1), by omega⟩
  clear hij
  induction d with
  | zero => exact step i hj
  | succ d ih =>
    have h1 := ih (by omega)
    have h2 := step (i + 1 + d) (by omega)
    exact Int.lt_trans h1 h2
theorem rowS_len1 {n : Nod} (h : RowIn n) (hk : n.kind = 1) : (rowS n).length = 36 := by
  rw [rowS, if_neg (by omega), List.append_nil, rowA_length h]
theorem rowS_len2 {n : Nod} (h : RowIn n) (hk : n.kind = 2) : (rowS n).length = 40 := by
  rw [rowS, if_pos hk, List.length_append, rowA_length h, big_length]
theorem slot_len1 {c : Cfg} {t : Tree} {k : Nat} (hc : CfgIn c) (h : TreeOK c t) (hk : (k : Int) < 65536) : (slot t.nods (1000001 + (k : Int)) 36).length = 36 := by
  by_cases hex : ∃ i, i < t.nods.len.toNat ∧ key (t.nods.at i) = 1000001 + (k : Int)
  · obtain ⟨i, hi, he⟩ := hex
    rw [slot_at (tree_sorted hc h) hi he]
    obtain ⟨k1, k2⟩ := node_key hc (h.up.all i hi)
    simp only [key] at he
    exact rowS_len1 k2 (by omega)
  · rw [slot_no fun i hi he => hex ⟨i, hi, he⟩, zs, List.length_replicate]
theorem slot_len2 {c : Cfg} {t : Tree} {k : Nat} (hc : CfgIn c) (h : TreeOK c t) (hk : (k : Int) < 65536) : (slot t.nods (2000000 + (k : Int)) 40).length = 40 := by
  by_cases hex : ∃ i, i < t.nods.len.toNat ∧ key (t.nods.at i) = 2000000 + (k : Int)
  · obtain ⟨i, hi, he⟩ := hex
    rw [slot_at (tree_sorted hc h) hi he]
    obtain ⟨k1, k2⟩ := node_key hc (h.up.all i hi)
    simp only [key] at he
    exact rowS_len2 k2 (by omega)
  · rw [slot_no fun i hi he => hex ⟨i, hi, he⟩, zs, List.length_replicate]
theorem dirsS_len {c : Cfg} {t : Tree} (hc : CfgIn c) (h : TreeOK c t) (k : Nat) : (k : Int) ≤ 65536 → (dirsS t.nods k).length = 36 * k := by
  induction k with
  | zero => exact fun _ => rfl
  | succ k ih =>
    intro hk
    have h1 := ih (by omega)
    have h2 := slot_len1 hc h (k := k) (by omega)
    simp only [dirsS, List.length_append]
    omega
theorem filesS_len {c : Cfg} {t : Tree} (hc : CfgIn c) (h : TreeOK c t) (k : Nat) : (k : Int) ≤ 65536 → (filesS t.nods k).length = 40 * k := by
  induction k with
  | zero => exact fun _ => rfl
  | succ k ih =>
    intro hk
    have h1 := ih (by omega)
    have h2 := slot_len2 hc h (k := k) (by omega)
    simp only [filesS, List.length_append]
    omega
theorem objS_len {c : Cfg} {x : Objs} {i : Nat} (h : ObjOK c x i) : (objS x i).length = 40 := by
  simp only [objS, List.length_append, h.n, h.t, big_length]
theorem objsL_len {c : Cfg} {x : Objs} : ∀ {k : Nat}, ObjsTo c x k → (objsL x k).length = 40 * k
  | 0, _ => rfl
  | k + 1, h => by
    rw [objsL, List.length_append, objsL_len (k := k) ⟨by have := h.le; omega, fun j hj => h.all j (by omega)⟩, objS_len (h.all k (by omega))]
    omega
theorem qS_len {q : List Int} : ∀ k : Nat, (qS q k).length = 4 * k
  | 0 => rfl
  | k + 1 => by
    rw [qS, List.length_append, qS_len k, big_length]
    omega
structure Im1 (x : Cfg × Tree × Pool) (i : Nat × Nat × Int) : Prop where
  le : (i.1 : Int) ≤ x.1.dirs
  cut : KCut x.2.1.nods (1000001 + (i.1 : Int)) i.2.1
  cap : (36 * i.1 : Int) ≤ i.2.2
structure Im2 (x : Cfg × Tree × Pool) (i : Nat × Nat × Int) : Prop where
  le : (i.1 : Int) ≤ x.1.files
  cut : KCut x.2.1.nods (2000000 + (i.1 : Int)) i.2.1
  cap : (36 * x.1.dirs + 40 * i.1 : Int) ≤ i.2.2
structure Im3 (x : Cfg × Tree × Pool) (i : Nat × Int) : Prop where
  le : (i.1 : Int) ≤ x.2.2.objs.len
  cap : (36 * x.1.dirs + 40 * x.1.files + 40 * i.1 : Int) ≤ i.2
structure Im4 (x : Cfg × Tree × Pool) (i : Nat × Int) : Prop where
  le : (i.1 : Int) ≤ x.2.2.objs.len
  cap : (36 * x.1.dirs + 40 * x.1.files + 40 * x.2.2.objs.len + 4 + 4 * i.1 : Int) ≤ i.2
end Go.PL
set_option linter.unusedSectionVars false
set_option linter.unusedSimpArgs false
set_option linter.unusedVariables false
namespace Go.Eng
variable [CW : CWorld]
open Go.Proofs
open Go.PL (Cfg CfgIn CfgOK CfgBad Nod Nods Tree Objs Pool)
set_option maxRecDepth 100000
attribute [local irreducible] run
theorem app_ints {L s L' : List UInt8} {e : Int} (he : (L.length : Int) = e) (hL : L' = L ++ s) :
    List.take e.toNat (List.drop (Int.toNat 0) (PL.ints L)) ++ List.take s.length (List.drop (Int.toNat 0) (PL.ints s)) = PL.ints L' := by
  subst hL
  rw [show Int.toNat 0 = 0 from rfl, List.drop_zero, List.drop_zero, List.take_of_length_le (by rw [PL.ints_length]; omega), List.take_of_length_le (by rw [PL.ints_length]; omega), PL.ints_append]
theorem zs_len (n : Nat) : (PL.zs n).length = n := List.length_replicate
end Go.Eng
/- Index, the reference: Encode. -/
namespace Go.PL
structure EIn (x : Cfg × Tree × Pool) : Prop where
  nods : NodsOK x.2.1.nods
  pool : CfgIn x.1 → PoolIn (x.1, x.2.2)
structure EOK (x : Cfg × Tree × Pool) : Prop where
  cfg : CfgOK x.1
  tree : TreeOK x.1 x.2.1
  pool : PoolOK x.1 x.2.2
def pieces (s : List UInt8) (n : Nat) (k : Nat) : List (List UInt8) := (List.range k).map fun i => (s.drop (i * n)).take n
noncomputable def fullS (c : Cfg) (t : Tree) (p : Pool) : List UInt8 := imgS c t p ++ zs ((pagesI c * (c.page - 5)).toNat - (imgS c t p).length)
open Classical in
noncomputable def encL (x : Cfg × Tree × Pool) : List (List UInt8) := if EOK x then pieces (fullS x.1 x.2.1 x.2.2) (x.1.page - 5).toNat (pagesI x.1).toNat else []
open Classical in
noncomputable def encErr (x : Cfg × Tree × Pool) : Int := if CfgOK x.1 then (if TreeOK x.1 x.2.1 then (if PoolOK x.1 x.2.2 then 0 else 130) else 128) else 140
theorem encL_no {x : Cfg × Tree × Pool} (h : ¬ EOK x) : encL x = [] := if_neg h
theorem encL_ok {x : Cfg × Tree × Pool} (h : EOK x) : encL x = pieces (fullS x.1 x.2.1 x.2.2) (x.1.page - 5).toNat (pagesI x.1).toNat := if_pos h
theorem encErr_c {x : Cfg × Tree × Pool} (h : ¬ CfgOK x.1) : encErr x = 140 := if_neg h
theorem encErr_t {x : Cfg × Tree × Pool} (h : CfgOK x.1) (h2 : ¬ TreeOK x.1 x.2.1) : encErr x = 128 := by rw [encErr, if_pos h, if_neg h2]
theorem encErr_p {x : Cfg × Tree × Pool} (h : CfgOK x.1) (h2 : TreeOK x.1 x.2.1) (h3 : ¬ PoolOK x.1 x.2.2) : encErr x = 130 := by rw [encErr, if_pos h, if_pos h2, if_neg h3]
theorem encErr_ok {x : Cfg × Tree × Pool} (h : EOK x) : encErr x = 0 := by rw [encErr, if_pos h.cfg, if_pos h.tree, if_pos h.pool]
structure Enc4At (x : Cfg × Tree × Pool) (i : Nat × Int) : Prop where
  le : (i.1 : Int) ≤ pagesI x.1
  cap : (i.1 : Int) ≤ i.2
structure Enc4Post (x : Cfg × Tree × Pool) (cap : Int) : Prop where
  le : ((encL x).length : Int) ≤ cap
theorem pieces_len (s : List UInt8) (n k : Nat) : (pieces s n k).length = k := by simp [pieces]
theorem pieces_succ (s : List UInt8) (n k : Nat) : pieces s n (k + 1) = pieces s n k ++ [(s.drop (k * n)).take n] := by simp [pieces, List.range_succ]
theorem imgS_len {x : Cfg × Tree × Pool} (hi : ImgIn x) : ((imgS x.1 x.2.1 x.2.2).length : Int) = lenI x.1 := by
  obtain ⟨c, t, p⟩ := x
  obtain ⟨hc, hn, hpi, ht, hp⟩ := hi
  simp only at hc hn hpi ht hp ⊢
  obtain ⟨c1, c2, c3, c4, c5, c6⟩ := id hc
  have hol := hp.len
  have a1 := dirsS_len hc ht c.dirs.toNat (by omega)
  have a2 := filesS_len hc ht c.files.toNat (by omega)
  have a3 := objsL_len hp.objs
  have a4 := qS_len (q := p.q) p.objs.len.toNat
  simp only [imgS, List.length_append, a1, a2, a3, a4, big_length, lenI]
  omega
theorem full_fits {c : Cfg} (hc : CfgOK c) : lenI c ≤ pagesI c * (c.page - 5) ∧ pagesI c * (c.page - 5) ≤ 100000000 ∧ 0 ≤ pagesI c * (c.page - 5) := by
  obtain ⟨c1, c2, c3, c4, c5, c6⟩ := hc.ok
  have hp := hc.pages
  have hr := pages_range hc
  have hd : 0 < c.page - 5 := by omega
  have h1 := Int.lt_ediv_add_one_mul_self (lenI c + (c.page - 5) - 1) hd
  rw [show (lenI c + (c.page - 5) - 1) / (c.page - 5) = pagesI c from rfl, Int.add_mul, Int.one_mul] at h1
  have h2 : pagesI c * (c.page - 5) ≤ 1024 * (c.page - 5) := Int.mul_le_mul_of_nonneg_right hp (by omega)
  have h3 : 0 ≤ pagesI c * (c.page - 5) := Int.mul_nonneg (by omega) (by omega)
  omega
end Go.PL
set_option linter.unusedSectionVars false
set_option linter.unusedSimpArgs false
set_option linter.unusedVariables false
namespace Go.Eng
variable [CW : CWorld]
open Go.Proofs
open Go.PL (Cfg CfgIn CfgOK CfgBad Nod Nods Tree Objs Pool)
set_option maxRecDepth 100000
attribute [local irreducible] run
theorem ex_tree {c : Cfg} {t : Tree} {Q : Cfg × Tree → Prop} :
    (∃ y : Cfg × Tree, c.slots = y.1.slots ∧ c.files = y.1.files ∧ c.dirs = y.1.dirs ∧ c.most = y.1.most ∧ c.least = y.1.least ∧ c.page = y.1.page ∧ t.files = y.2.files ∧ t.dirs = y.2.dirs ∧
      t.nods.K = y.2.nods.K ∧ t.nods.N = y.2.nods.N ∧ t.nods.P = y.2.nods.P ∧ t.nods.S = y.2.nods.S ∧ t.nods.Z = y.2.nods.Z ∧ t.nods.len = y.2.nods.len ∧ t.nods.cap = y.2.nods.cap ∧ Q y) ↔ Q (c, t) := by
  constructor
  · rintro ⟨⟨⟨c1, c2, c3, c4, c5, c6⟩, ⟨t1, t2, ⟨n1, n2, n3, n4, n5, n6, n7⟩⟩⟩, h1, h2, h3, h4, h5, h6, g1, g2, g3, g4, g5, g6, g7, g8, g9, h⟩
    obtain ⟨d1, d2, d3, d4, d5, d6⟩ := c
    obtain ⟨s1, s2, ⟨m1, m2, m3, m4, m5, m6, m7⟩⟩ := t
    simp only at h1 h2 h3 h4 h5 h6 g1 g2 g3 g4 g5 g6 g7 g8 g9
    subst h1 h2 h3 h4 h5 h6 g1 g2 g3 g4 g5 g6 g7 g8 g9
    exact h
  · exact fun h => ⟨_, rfl, rfl, rfl, rfl, rfl, rfl, rfl, rfl, rfl, rfl, rfl, rfl, rfl, rfl, rfl, h⟩
theorem ex_pool {c : Cfg} {p : Pool} {Q : Cfg × Pool → Prop} :
    (∃ y : Cfg × Pool, c.slots = y.1.slots ∧ c.files = y.1.files ∧ c.dirs = y.1.dirs ∧ c.most = y.1.most ∧ c.least = y.1.least ∧ c.page = y.1.page ∧
      p.objs.N = y.2.objs.N ∧ p.objs.T = y.2.objs.T ∧ p.objs.B = y.2.objs.B ∧ p.objs.O = y.2.objs.O ∧ p.objs.len = y.2.objs.len ∧ p.objs.cap = y.2.objs.cap ∧ p.q = y.2.q ∧ p.qlen = y.2.qlen ∧ p.qcap = y.2.qcap ∧ Q y) ↔ Q (c, p) := by
  constructor
  · rintro ⟨⟨⟨c1, c2, c3, c4, c5, c6⟩, ⟨⟨o1, o2, o3, o4, o5, o6⟩, q1, q2, q3⟩⟩, h1, h2, h3, h4, h5, h6, g1, g2, g3, g4, g5, g6, g7, g8, g9, h⟩
    obtain ⟨d1, d2, d3, d4, d5, d6⟩ := c
    obtain ⟨⟨m1, m2, m3, m4, m5, m6⟩, s1, s2, s3⟩ := p
    simp only at h1 h2 h3 h4 h5 h6 g1 g2 g3 g4 g5 g6 g7 g8 g9
    subst h1 h2 h3 h4 h5 h6 g1 g2 g3 g4 g5 g6 g7 g8 g9
    exact h
  · exact fun h => ⟨_, rfl, rfl, rfl, rfl, rfl, rfl, rfl, rfl, rfl, rfl, rfl, rfl, rfl, rfl, rfl, h⟩
def strsB (l : List (List UInt8)) (cap : Int) : Blk := .mk 9 [.arr (.x cap) [.strs l]]
end Go.Eng
/- Index: the image's writers: zeros, putNode, putObject, putQueued. -/
namespace Go.PL
structure ZerosIn (x : Img × Int) : Prop where
  img : ImgOK x.1 x.2
  n : 0 ≤ x.2 ∧ x.2 ≤ 1000000000
def nodeS (n : Nod) : List UInt8 := if n.kind = 0 then zs n.size.toNat else rowS n
structure PNodeIn (x : Img × Nod) : Prop where
  img : ImgOK x.1 100000
  row : x.2.kind ≠ 0 → RowIn x.2
  size : x.2.kind = 0 → 0 ≤ x.2.size ∧ x.2.size ≤ 1000
structure PObjIn (x : Img × List UInt8 × List UInt8 × Int × Int) : Prop where
  img : ImgOK x.1 100000
  n : x.2.1.length ≤ 16
  t : x.2.2.1.length ≤ 16
  b : 0 ≤ x.2.2.2.1 ∧ x.2.2.2.1 ≤ 1048576
  o : -1 ≤ x.2.2.2.2 ∧ x.2.2.2.2 ≤ 1000000
end Go.PL
set_option linter.unusedSectionVars false
set_option linter.unusedSimpArgs false
set_option linter.unusedVariables false
namespace Go.Eng
variable [CW : CWorld]
open Go.Proofs
open Go.PL (Cfg CfgIn CfgOK CfgBad Img RImg Refs Nod Nods Tree Objs Pool)
set_option maxRecDepth 100000
attribute [local irreducible] run
def zerosSpec : Spec where
  X := Img × Int
  A x := [.ptr 0 (.l 0), .int .i64 (.x x.2)]
  H x := imgH x.1
  pre x := PL.ZerosIn x
  outs := [{ Y _ := Int, post x c := PL.CapOK (x.1.l.length + x.2) c, R _ _ := .tup [], H' x c := imgH' x.1 (x.1.l ++ PL.zs x.2.toNat) c }]
def zeros_vc (ar : AR) (x : zerosSpec.X) : Prop :=
  ar.le 0 x.snd ∧ ar.le x.snd 1000000000000 ∧ ar.le (ar.add 0 (↑x.fst.l.length : Int)) (ar.ilen (PL.ints x.fst.l)) ∧ x.fst.cap = x.fst.cap ∧ ar.le (ar.mul (ar.add (↑x.fst.l.length
  : Int) (ar.slen (List.map (fun (m : Int) => UInt8.ofNat m.toNat) (ar.irep 0 x.snd)))) 1) 140737488355328 ∧ ∀ (c : Int), ar.le (ar.add (↑x.fst.l.length : Int) (ar.slen (List.map
  (fun (m : Int) => UInt8.ofNat m.toNat) (ar.irep 0 x.snd)))) c → ∃ (y : Int), PL.CapOK ((↑x.fst.l.length : Int).add x.snd) y ∧ ar.add (↑x.fst.l.length : Int) (ar.slen (List.map
  (fun (m : Int) => UInt8.ofNat m.toNat) (ar.irep 0 x.snd))) = (↑(x.fst.l.append (PL.zs x.snd.toNat)).length : Int) ∧ c = y ∧ (x.fst.bad ↔ x.fst.bad) ∧ c = y ∧ ar.iapp (ar.isub
  (PL.ints x.fst.l) 0 (↑x.fst.l.length : Int)) (ar.isub (ar.ints (List.map (fun (m : Int) => UInt8.ofNat m.toNat) (ar.irep 0 x.snd))) 0 (ar.slen (List.map (fun (m : Int) =>
  UInt8.ofNat m.toNat) (ar.irep 0 x.snd)))) = PL.ints (x.fst.l.append (PL.zs x.snd.toNat)) ∧ True
theorem zeros_eq (ar : AR) (x : zerosSpec.X) : (run ar PP noSpec noInv 1000 54 (zerosSpec.H x).length (Tryd.f54.body.getD .skip) (zerosSpec.A x ++ List.replicate (Tryd.f54.ntmps - (zerosSpec.A x).length) .any) (zerosSpec.H x) (endCall ar PP Tryd.f54.results.toList (zerosSpec.fin x))) = zeros_vc ar x := by
  kernel_rfl
theorem zeros_of (h : ∀ x, zerosSpec.pre x → zeros_vc ar0 x) : zerosSpec.OK PP 54 :=
  Spec.ok_of_run (fn := Tryd.f54) (c := Tryd.f54.body.getD .skip) (by kernel_rfl) (by kernel_rfl) (by kernel_rfl) noSpec_ok (fun _ => noInv) 1000 (fun x hx => (zeros_eq ar0 x).mpr (h x hx))
theorem zerosSpec_ok : zerosSpec.OK PP 54 := by
  refine zeros_of fun x hx => ?_
  obtain ⟨m, n⟩ := x
  obtain ⟨⟨hc, hr⟩, hn, hn2⟩ : PL.ZerosIn (m, n) := hx
  simp only at hc hr hn hn2
  unfold zeros_vc
  simp only [ars, ars2, true_and, and_true]
  have ez : List.map (fun m : Int => UInt8.ofNat m.toNat) (ar0.irep 0 n) = PL.zs n.toNat := by
    show List.map _ (List.replicate n.toNat 0) = _
    simp [PL.zs]
  simp only [ez, PL.ints_length, zs_len, Int.toNat_natCast, List.length_append]
  refine ⟨hn, by omega, by omega, by omega, fun c h => ⟨c, ⟨by omega⟩, by omega, rfl, rfl, ?_⟩⟩
  have := app_ints (L := m.l) (s := PL.zs n.toNat) (e := m.l.length) rfl rfl
  rwa [Int.toNat_natCast, zs_len] at this
theorem ex_img1 {n y : Int} {L : List UInt8} {b : Prop} {Q : Img × Int → Prop} :
    (∃ x : Img × Int, n = x.2 ∧ (L.length : Int) = (x.1.l.length : Int) ∧ y = x.1.cap ∧ (b ↔ x.1.bad) ∧ y = x.1.cap ∧ PL.ints L = PL.ints x.1.l ∧ Q x) ↔ Q (⟨L, y, b⟩, n) := by
  constructor
  · rintro ⟨⟨⟨l, c, d⟩, e⟩, h1, h3, h4, h5, h6, h7, h⟩
    simp only at h1 h3 h4 h5 h6 h7
    have := PL.ints_inj h7
    have h5 := propext h5
    subst h1 h4 this h5
    exact h
  · exact fun h => ⟨_, rfl, rfl, rfl, Iff.rfl, rfl, rfl, h⟩
noncomputable def pnSpecs : Specs := fun f xs hp => match f with
  | 51 => some putSpec
  | 54 => some zerosSpec
  | _ => noSpec f xs hp
theorem pnSpecs_ok : SpecsOK PP pnSpecs := by
  intro CW f xs hp S h
  unfold pnSpecs at h
  split at h
  · cases h; exact putSpec_ok
  · cases h; exact zerosSpec_ok
  · exact noSpec_ok CW f xs hp S h
def pnodeSpec : Spec where
  X := Img × Nod
  A x := [.ptr 0 (.l 0), .agg (nodeL x.2)]
  H x := imgH x.1
  pre x := PL.PNodeIn x
  outs := [{ Y _ := Int, post x c := PL.CapOK (x.1.l.length + (PL.nodeS x.2).length) c, R _ _ := .tup [], H' x c := imgH' x.1 (x.1.l ++ PL.nodeS x.2) c }]
def pnode_vc (ar : AR) (x : pnodeSpec.X) : Prop :=
  (ar.eq x.snd.kind 0 → ∃ (x_1 : Img × Int), x.snd.size = x_1.snd ∧ (↑x.fst.l.length : Int) = (↑x_1.1.l.length : Int) ∧ x.fst.cap = x_1.1.cap ∧ (x.fst.bad ↔ x_1.1.3) ∧ x.fst.cap =
  x_1.1.cap ∧ PL.ints x.fst.l = PL.ints x_1.1.l ∧ PL.ZerosIn x_1 ∧ ∀ (y : Int), PL.CapOK ((↑x_1.1.l.length : Int).add x_1.snd) y → ∃ (y_1 : Int), PL.CapOK ((↑x.fst.l.length :
  Int).add (↑(PL.nodeS x.snd).length : Int)) y_1 ∧ (↑(x_1.1.l.append (PL.zs x_1.snd.toNat)).length : Int) = (↑(x.fst.l.append (PL.nodeS x.snd)).length : Int) ∧ y = y_1 ∧ (x_1.1.3 ↔
  x.fst.bad) ∧ y = y_1 ∧ PL.ints (x_1.1.l.append (PL.zs x_1.snd.toNat)) = PL.ints (x.fst.l.append (PL.nodeS x.snd)) ∧ True) ∧ (¬ar.eq x.snd.kind 0 → ∃ (x_1 : Img × Int × Int), 1 =
  x_1.2.fst ∧ 1 = x_1.2.snd ∧ (↑x.fst.l.length : Int) = (↑x_1.1.l.length : Int) ∧ x.fst.cap = x_1.1.cap ∧ (x.fst.bad ↔ x_1.1.3) ∧ x.fst.cap = x_1.1.cap ∧ PL.ints x.fst.l = PL.ints
  x_1.1.l ∧ PL.PutIn x_1 ∧ ∀ (y : Int), PL.CapOK ((↑x_1.1.l.length : Int).add x_1.2.snd) y → ∃ (x_2 : Img × Int × Int), x.snd.parent = x_2.2.fst ∧ 2 = x_2.2.snd ∧ (↑(x_1.1.l.append
  (PL.big x_1.2.fst x_1.2.snd.toNat)).length : Int) = (↑x_2.1.l.length : Int) ∧ y = x_2.1.cap ∧ (x_1.1.3 ↔ x_2.1.3) ∧ y = x_2.1.cap ∧ PL.ints (x_1.1.l.append (PL.big x_1.2.fst
  x_1.2.snd.toNat)) = PL.ints x_2.1.l ∧ PL.PutIn x_2 ∧ ∀ (y : Int), PL.CapOK ((↑x_2.1.l.length : Int).add x_2.2.snd) y → ∃ (x_3 : Img × Int × Int), ar.slen x.snd.name = x_3.2.fst ∧
  1 = x_3.2.snd ∧ (↑(x_2.1.l.append (PL.big x_2.2.fst x_2.2.snd.toNat)).length : Int) = (↑x_3.1.l.length : Int) ∧ y = x_3.1.cap ∧ (x_2.1.3 ↔ x_3.1.3) ∧ y = x_3.1.cap ∧ PL.ints
  (x_2.1.l.append (PL.big x_2.2.fst x_2.2.snd.toNat)) = PL.ints x_3.1.l ∧ PL.PutIn x_3 ∧ ∀ (y : Int), PL.CapOK ((↑x_3.1.l.length : Int).add x_3.2.snd) y → ar.le (ar.add 0
  (↑(x_3.1.l.append (PL.big x_3.2.fst x_3.2.snd.toNat)).length : Int)) (ar.ilen (PL.ints (x_3.1.l.append (PL.big x_3.2.fst x_3.2.snd.toNat)))) ∧ y = y ∧ ar.le (ar.mul (ar.add
  (↑(x_3.1.l.append (PL.big x_3.2.fst x_3.2.snd.toNat)).length : Int) (ar.slen x.snd.name)) 1) 140737488355328 ∧ ∀ (c : Int), ar.le (ar.add (↑(x_3.1.l.append (PL.big x_3.2.fst
  x_3.2.snd.toNat)).length : Int) (ar.slen x.snd.name)) c → ∀ (z : Int), z = ar.wrap IntKind.i64 (ar.sub 32 (ar.slen x.snd.name)) → ∃ (x_4 : Img × Int), z = x_4.snd ∧ ar.add
  (↑(x_3.1.l.append (PL.big x_3.2.fst x_3.2.snd.toNat)).length : Int) (ar.slen x.snd.name) = (↑x_4.1.l.length : Int) ∧ c = x_4.1.cap ∧ (x_3.1.3 ↔ x_4.1.3) ∧ c = x_4.1.cap ∧ ar.iapp
  (ar.isub (PL.ints (x_3.1.l.append (PL.big x_3.2.fst x_3.2.snd.toNat))) 0 (↑(x_3.1.l.append (PL.big x_3.2.fst x_3.2.snd.toNat)).length : Int)) (ar.isub (ar.ints x.snd.name) 0
  (ar.slen x.snd.name)) = PL.ints x_4.1.l ∧ PL.ZerosIn x_4 ∧ ∀ (y : Int), PL.CapOK ((↑x_4.1.l.length : Int).add x_4.snd) y → (ar.eq x.snd.kind 2 → ∃ (x_5 : Img × Int × Int),
  x.snd.size = x_5.2.fst ∧ 4 = x_5.2.snd ∧ (↑(x_4.1.l.append (PL.zs x_4.snd.toNat)).length : Int) = (↑x_5.1.l.length : Int) ∧ y = x_5.1.cap ∧ (x_4.1.3 ↔ x_5.1.3) ∧ y = x_5.1.cap ∧
  PL.ints (x_4.1.l.append (PL.zs x_4.snd.toNat)) = PL.ints x_5.1.l ∧ PL.PutIn x_5 ∧ ∀ (y : Int), PL.CapOK ((↑x_5.1.l.length : Int).add x_5.2.snd) y → ∃ (y_1 : Int), PL.CapOK
  ((↑x.fst.l.length : Int).add (↑(PL.nodeS x.snd).length : Int)) y_1 ∧ (↑(x_5.1.l.append (PL.big x_5.2.fst x_5.2.snd.toNat)).length : Int) = (↑(x.fst.l.append (PL.nodeS
  x.snd)).length : Int) ∧ y = y_1 ∧ (x_5.1.3 ↔ x.fst.bad) ∧ y = y_1 ∧ PL.ints (x_5.1.l.append (PL.big x_5.2.fst x_5.2.snd.toNat)) = PL.ints (x.fst.l.append (PL.nodeS x.snd)) ∧
  True) ∧ (¬ar.eq x.snd.kind 2 → ∃ (y_1 : Int), PL.CapOK ((↑x.fst.l.length : Int).add (↑(PL.nodeS x.snd).length : Int)) y_1 ∧ (↑(x_4.1.l.append (PL.zs x_4.snd.toNat)).length : Int)
  = (↑(x.fst.l.append (PL.nodeS x.snd)).length : Int) ∧ y = y_1 ∧ (x_4.1.3 ↔ x.fst.bad) ∧ y = y_1 ∧ PL.ints (x_4.1.l.append (PL.zs x_4.snd.toNat)) = PL.ints (x.fst.l.append
  (PL.nodeS x.snd)) ∧ True))
theorem pnode_eq (ar : AR) (x : pnodeSpec.X) : (run ar PP pnSpecs noInv 1000 48 (pnodeSpec.H x).length (Tryd.f48.body.getD .skip) (pnodeSpec.A x ++ List.replicate (Tryd.f48.ntmps - (pnodeSpec.A x).length) .any) (pnodeSpec.H x) (endCall ar PP Tryd.f48.results.toList (pnodeSpec.fin x))) = pnode_vc ar x := by
  kernel_rfl
theorem pnode_of (h : ∀ x, pnodeSpec.pre x → pnode_vc ar0 x) : pnodeSpec.OK PP 48 :=
  Spec.ok_of_run (fn := Tryd.f48) (c := Tryd.f48.body.getD .skip) (by kernel_rfl) (by kernel_rfl) (by kernel_rfl) pnSpecs_ok (fun _ => noInv) 1000 (fun x hx => (pnode_eq ar0 x).mpr (h x hx))
theorem pnodeSpec_ok : pnodeSpec.OK PP 48 := by
  refine pnode_of fun x hx => ?_
  obtain ⟨m, n⟩ := x
  obtain ⟨⟨hc, hr⟩, hrow, hsz⟩ : PL.PNodeIn (m, n) := hx
  simp only at hc hr hrow hsz
  unfold pnode_vc
  simp only [ars, ars2, ex_img, ex_img1, true_and, and_true, exists_const]
  simp only [show Int.toNat 1 = 1 from rfl, show Int.toNat 2 = 2 from rfl, show Int.toNat 4 = 4 from rfl, List.length_append, PL.big_length, PL.ints_length, Int.toNat_natCast]
  refine ⟨fun h0 => ?_, fun h0 => ?_⟩
  · have hs := hsz h0
    have hN : PL.nodeS n = PL.zs n.size.toNat := if_pos h0
    rw [hN]
    exact ⟨⟨⟨hc, by simp only; omega⟩, by simp only; omega⟩, fun y hy => ⟨y, ⟨by have := hy.le; rw [zs_len]; omega⟩, rfl, rfl, rfl, rfl⟩⟩
  · obtain ⟨r1, r2, r3⟩ := hrow h0
    have hN : PL.nodeS n = PL.rowS n := if_neg h0
    have hA : PL.rowA n = PL.big 1 1 ++ (PL.big n.parent 2 ++ (PL.big (n.name.length : Int) 1 ++ (n.name ++ PL.zs (32 - n.name.length)))) := rfl
    rw [hN]
    refine ⟨⟨⟨hc, by simp only; omega⟩, by simp⟩, fun y1 h1 => ⟨⟨⟨by have := h1.le; simp only [List.length_append, PL.big_length]; omega, by simp only [List.length_append, PL.big_length]; omega⟩, by simp⟩, fun y2 h2 => ⟨⟨⟨by have := h2.le; simp only [List.length_append, PL.big_length]; omega, by simp only [List.length_append, PL.big_length]; omega⟩, by simp⟩, fun y3 h3 => ⟨by omega, by omega, fun c h4 z hz => ?_⟩⟩⟩⟩
    rw [wrap_i64 (by omega) (by omega)] at hz
    refine ⟨(⟨m.l ++ PL.big 1 1 ++ PL.big n.parent 2 ++ PL.big (n.name.length : Int) 1 ++ n.name, c, m.bad⟩, z), rfl, by simp only [List.length_append, PL.big_length]; omega, rfl, Iff.rfl, rfl, ?_, ?_⟩
    · have := app_ints (L := m.l ++ PL.big 1 1 ++ PL.big n.parent 2 ++ PL.big (n.name.length : Int) 1) (s := n.name) rfl rfl
      simpa only [List.length_append, PL.big_length, Int.toNat_natCast] using this
    have hzn : z.toNat = 32 - n.name.length := by omega
    simp only [hzn]
    refine ⟨⟨⟨by simp only [List.length_append, PL.big_length]; omega, by simp only [List.length_append, PL.big_length]; omega⟩, by simp only; omega⟩, fun y5 h5 => ?_⟩
    have hAL : m.l ++ PL.big 1 1 ++ PL.big n.parent 2 ++ PL.big (n.name.length : Int) 1 ++ n.name ++ PL.zs (32 - n.name.length) = m.l ++ PL.rowA n := by rw [hA]; simp only [List.append_assoc]
    have hl36 := PL.rowA_length (n := n) ⟨r1, r2, r3⟩
    have h5' := h5.le
    simp only [List.length_append, PL.big_length, zs_len] at h5'
    simp only [hAL, PL.rowS]
    refine ⟨fun h2 => ⟨⟨⟨by simp only [List.length_append]; omega, by simp only [List.length_append]; omega⟩, by simp⟩, fun y6 h6 => ?_⟩, fun h2 => ?_⟩
    · have h6' := h6.le
      simp only [List.length_append, PL.big_length, zs_len] at h6'
      rw [if_pos h2]
      refine ⟨y6, ⟨by simp only [List.length_append, PL.big_length]; omega⟩, ?_⟩
      and_intros <;> first | (simp only [List.append_assoc]; done) | (simp only [List.length_append, PL.big_length, zs_len]; omega) | exact Iff.rfl | rfl
    · rw [if_neg h2]
      refine ⟨y5, ⟨by simp only [List.append_nil]; omega⟩, ?_⟩
      and_intros <;> first | (simp only [List.append_nil]; done) | (simp only [List.append_nil, List.length_append, PL.big_length, zs_len]; omega) | exact Iff.rfl | rfl
def pobjSpec : Spec where
  X := Img × List UInt8 × List UInt8 × Int × Int
  A x := [.ptr 0 (.l 0), .agg [.str x.2.1, .str x.2.2.1, .int .i64 (.x x.2.2.2.1), .int .i64 (.x x.2.2.2.2)]]
  H x := imgH x.1
  pre x := PL.PObjIn x
  outs := [{ Y _ := Int, post x c := PL.CapOK (x.1.l.length + (x.2.1.length + x.2.2.1.length + 8)) c, R _ _ := .tup [], H' x c := imgH' x.1 (x.1.l ++ (x.2.1 ++ (x.2.2.1 ++ (PL.big x.2.2.2.1 4 ++ PL.big (x.2.2.2.2 + 1) 4)))) c }]
def pobj_vc (ar : AR) (x : pobjSpec.X) : Prop :=
  ar.le (ar.add 0 (↑x.fst.l.length : Int)) (ar.ilen (PL.ints x.fst.l)) ∧ x.fst.cap = x.fst.cap ∧ ar.le (ar.mul (ar.add (↑x.fst.l.length : Int) (ar.slen x.snd.fst)) 1)
  140737488355328 ∧ ∀ (c : Int), ar.le (ar.add (↑x.fst.l.length : Int) (ar.slen x.snd.fst)) c → ar.le (ar.add 0 (ar.add (↑x.fst.l.length : Int) (ar.slen x.snd.fst))) (ar.ilen
  (ar.iapp (ar.isub (PL.ints x.fst.l) 0 (↑x.fst.l.length : Int)) (ar.isub (ar.ints x.snd.fst) 0 (ar.slen x.snd.fst)))) ∧ c = c ∧ ar.le (ar.mul (ar.add (ar.add (↑x.fst.l.length :
  Int) (ar.slen x.snd.fst)) (ar.slen x.snd.snd.fst)) 1) 140737488355328 ∧ ∀ (c : Int), ar.le (ar.add (ar.add (↑x.fst.l.length : Int) (ar.slen x.snd.fst)) (ar.slen x.snd.snd.fst)) c
  → ∃ (x_1 : Img × Int × Int), x.snd.snd.snd.fst = x_1.2.fst ∧ 4 = x_1.2.snd ∧ ar.add (ar.add (↑x.fst.l.length : Int) (ar.slen x.snd.fst)) (ar.slen x.snd.snd.fst) =
  (↑x_1.1.l.length : Int) ∧ c = x_1.1.cap ∧ (x.fst.bad ↔ x_1.1.3) ∧ c = x_1.1.cap ∧ ar.iapp (ar.isub (ar.iapp (ar.isub (PL.ints x.fst.l) 0 (↑x.fst.l.length : Int)) (ar.isub
  (ar.ints x.snd.fst) 0 (ar.slen x.snd.fst))) 0 (ar.add (↑x.fst.l.length : Int) (ar.slen x.snd.fst))) (ar.isub (ar.ints x.snd.snd.fst) 0 (ar.slen x.snd.snd.fst)) = PL.ints x_1.1.l
  ∧ PL.PutIn x_1 ∧ ∀ (y : Int), PL.CapOK ((↑x_1.1.l.length : Int).add x_1.2.snd) y → ∀ (z : Int), z = ar.wrap IntKind.i64 (ar.add x.snd.snd.snd.snd 1) → ∃ (x_2 : Img × Int × Int),
  z = x_2.2.fst ∧ 4 = x_2.2.snd ∧ (↑(x_1.1.l.append (PL.big x_1.2.fst x_1.2.snd.toNat)).length : Int) = (↑x_2.1.l.length : Int) ∧ y = x_2.1.cap ∧ (x_1.1.3 ↔ x_2.1.3) ∧ y =
  x_2.1.cap ∧ PL.ints (x_1.1.l.append (PL.big x_1.2.fst x_1.2.snd.toNat)) = PL.ints x_2.1.l ∧ PL.PutIn x_2 ∧ ∀ (y : Int), PL.CapOK ((↑x_2.1.l.length : Int).add x_2.2.snd) y → ∃
  (y_1 : Int), PL.CapOK ((↑x.fst.l.length : Int).add (((↑x.snd.fst.length : Int).add (↑x.snd.snd.fst.length : Int)).add 8)) y_1 ∧ (↑(x_2.1.l.append (PL.big x_2.2.fst
  x_2.2.snd.toNat)).length : Int) = (↑(x.fst.l.append (x.snd.fst.append (x.snd.snd.fst.append ((PL.big x.snd.snd.snd.fst 4).append (PL.big (x.snd.snd.snd.snd.add 1) 4))))).length :
  Int) ∧ y = y_1 ∧ (x_2.1.3 ↔ x.fst.bad) ∧ y = y_1 ∧ PL.ints (x_2.1.l.append (PL.big x_2.2.fst x_2.2.snd.toNat)) = PL.ints (x.fst.l.append (x.snd.fst.append (x.snd.snd.fst.append
  ((PL.big x.snd.snd.snd.fst 4).append (PL.big (x.snd.snd.snd.snd.add 1) 4))))) ∧ True
theorem pobj_eq (ar : AR) (x : pobjSpec.X) : (run ar PP pnSpecs noInv 1000 50 (pobjSpec.H x).length (Tryd.f50.body.getD .skip) (pobjSpec.A x ++ List.replicate (Tryd.f50.ntmps - (pobjSpec.A x).length) .any) (pobjSpec.H x) (endCall ar PP Tryd.f50.results.toList (pobjSpec.fin x))) = pobj_vc ar x := by
  kernel_rfl
theorem pobj_of (h : ∀ x, pobjSpec.pre x → pobj_vc ar0 x) : pobjSpec.OK PP 50 :=
  Spec.ok_of_run (fn := Tryd.f50) (c := Tryd.f50.body.getD .skip) (by kernel_rfl) (by kernel_rfl) (by kernel_rfl) pnSpecs_ok (fun _ => noInv) 1000 (fun x hx => (pobj_eq ar0 x).mpr (h x hx))
theorem pobjSpec_ok : pobjSpec.OK PP 50 := by
  refine pobj_of fun x hx => ?_
  obtain ⟨m, a, b, c, d⟩ := x
  have hp : PL.PObjIn (m, a, b, c, d) := hx
  unfold pobj_vc
  simp only [ars, ars2, ex_img, ex_img1, true_and, and_true, exists_const]
  obtain ⟨⟨hc, hr⟩, hn, ht, hb, ho⟩ := hp
  simp only at hc hr hn ht hb ho
  have e1 := app_ints (L := m.l) (s := a) (e := m.l.length) rfl rfl
  simp only [show Int.toNat 4 = 4 from rfl, Int.toNat_natCast, PL.ints_length] at e1 ⊢
  simp only [e1, PL.ints_length, List.length_append]
  refine ⟨by omega, by omega, fun c1 h1 => ⟨by omega, by omega, fun c2 h2 => ?_⟩⟩
  refine ⟨(⟨m.l ++ a ++ b, c2, m.bad⟩, c, 4), rfl, rfl, by simp only [List.length_append]; omega, rfl, Iff.rfl, rfl, ?_, ⟨⟨by simp only [List.length_append]; omega, by simp only [List.length_append]; omega⟩, by simp⟩, fun y1 h3 z hz => ?_⟩
  · have := app_ints (L := m.l ++ a) (s := b) (e := (m.l.length : Int) + a.length) (by rw [List.length_append]; omega) rfl
    exact this
  have h3' := h3.le
  rw [wrap_i64 (by omega) (by omega)] at hz
  subst hz
  simp only [show Int.toNat 4 = 4 from rfl, List.length_append, PL.big_length] at h3' ⊢
  refine ⟨⟨⟨by simp only [List.length_append, PL.big_length]; omega, by simp only [List.length_append, PL.big_length]; omega⟩, by simp⟩, fun y2 h4 => ?_⟩
  have h4' := h4.le
  refine ⟨y2, ⟨by omega⟩, ?_⟩
  and_intros <;> first | (simp only [List.append_assoc]; done) | omega | exact Iff.rfl | rfl
end Go.Eng
namespace Go.PL
structure Txts where
  l : List (List UInt8)
  len : Int
  cap : Int
structure TxtsIn (x : Txts × Txts) : Prop where
  a : (x.1.l.length : Int) = x.1.len
  b : (x.2.l.length : Int) = x.2.len
  le : x.1.len ≤ 140737488351232
structure TxtsAt (x : Txts × Txts) (i : Nat) : Prop where
  le : i ≤ x.1.l.length
  eq : x.1.l.take i = x.2.l.take i
structure PQIn (x : Img × Int) : Prop where
  img : ImgOK x.1 100000
end Go.PL
set_option linter.unusedSectionVars false
set_option linter.unusedSimpArgs false
set_option linter.unusedVariables false
namespace Go.Eng
variable [CW : CWorld]
open Go.Proofs
open Go.PL (Cfg CfgIn CfgOK CfgBad Img RImg Refs Nod Nods Tree Objs Pool Txts)
set_option maxRecDepth 100000
attribute [local irreducible] run
def pqSpec : Spec where
  X := Img × Int
  A x := [.ptr 0 (.l 0), .int .i64 (.x x.2)]
  H x := imgH x.1
  pre x := PL.PQIn x
  outs := [{ Y _ := Int, post x c := PL.CapOK (x.1.l.length + 4) c, R _ _ := .tup [], H' x c := imgH' x.1 (x.1.l ++ PL.big x.2 4) c }]
def pq_vc (ar : AR) (x : pqSpec.X) : Prop :=
  ∃ (x_1 : Img × Int × Int), x.snd = x_1.2.fst ∧ 4 = x_1.2.snd ∧ (↑x.fst.l.length : Int) = (↑x_1.1.l.length : Int) ∧ x.fst.cap = x_1.1.cap ∧ (x.fst.bad ↔ x_1.1.3) ∧ x.fst.cap =
  x_1.1.cap ∧ PL.ints x.fst.l = PL.ints x_1.1.l ∧ PL.PutIn x_1 ∧ ∀ (y : Int), PL.CapOK ((↑x_1.1.l.length : Int).add x_1.2.snd) y → ∃ (y_1 : Int), PL.CapOK ((↑x.fst.l.length :
  Int).add 4) y_1 ∧ (↑(x_1.1.l.append (PL.big x_1.2.fst x_1.2.snd.toNat)).length : Int) = (↑(x.fst.l.append (PL.big x.snd 4)).length : Int) ∧ y = y_1 ∧ (x_1.1.3 ↔ x.fst.bad) ∧ y =
  y_1 ∧ PL.ints (x_1.1.l.append (PL.big x_1.2.fst x_1.2.snd.toNat)) = PL.ints (x.fst.l.append (PL.big x.snd 4)) ∧ True
theorem pq_eq (ar : AR) (x : pqSpec.X) : (run ar PP pnSpecs noInv 1000 53 (pqSpec.H x).length (Tryd.f53.body.getD .skip) (pqSpec.A x ++ List.replicate (Tryd.f53.ntmps - (pqSpec.A x).length) .any) (pqSpec.H x) (endCall ar PP Tryd.f53.results.toList (pqSpec.fin x))) = pq_vc ar x := by
  kernel_rfl
theorem pq_of (h : ∀ x, pqSpec.pre x → pq_vc ar0 x) : pqSpec.OK PP 53 :=
  Spec.ok_of_run (fn := Tryd.f53) (c := Tryd.f53.body.getD .skip) (by kernel_rfl) (by kernel_rfl) (by kernel_rfl) pnSpecs_ok (fun _ => noInv) 1000 (fun x hx => (pq_eq ar0 x).mpr (h x hx))
theorem pqSpec_ok : pqSpec.OK PP 53 := by
  refine pq_of fun x hx => ?_
  obtain ⟨m, n⟩ := x
  obtain ⟨⟨hc, hr⟩⟩ : PL.PQIn (m, n) := hx
  simp only at hc hr
  unfold pq_vc
  simp only [ars, ars2, ex_img, true_and, and_true, exists_const]
  refine ⟨⟨⟨hc, by simp only; omega⟩, by simp⟩, fun y hy => ⟨y, ⟨hy.le⟩, ?_⟩⟩
  simp only [show Int.toNat 4 = 4 from rfl, and_self]
def stSpec : Spec where
  X := Txts × Txts
  A x := [.cs [.strs x.1.l] (.x x.1.len) (.x x.1.cap), .cs [.strs x.2.l] (.x x.2.len) (.x x.2.cap)]
  H x := []
  pre x := PL.TxtsIn x
  outs := [{ Y _ := Unit, post _ _ := True, R x _ := .bool (.x (x.1.l = x.2.l)), H' x _ := [] }]
  frz := true
def stInv (x : Txts × Txts) : Code → List SV → List Blk → List Inv := fun b fr hp => [
  { ι := Nat, fr := fun i => only b fr 5 [] [(5, .int .i64 (.x (i : Int)))], hp := fun i => hp, μ := fun i => x.1.l.length - i, ok := fun i => PL.TxtsAt x i }]
def stInvs (x : Txts × Txts) : Invs := fun f n => match f, n with
  | 15, 4 => some (stInv x)
  | _, _ => none
def st_vc (ar : AR) (x : stSpec.X) : Prop :=
  (¬ar.eq x.fst.len x.snd.len → ∃ (y : Unit), True ∧ (false = true ↔ x.fst.l = x.snd.l) ∧ True) ∧ (¬¬ar.eq x.fst.len x.snd.len → (∃ (i : Nat), PL.TxtsAt x i ∧ x.fst.l = x.fst.l ∧
  x.fst.len = x.fst.len ∧ x.fst.cap = x.fst.cap ∧ x.snd.l = x.snd.l ∧ x.snd.len = x.snd.len ∧ x.snd.cap = x.snd.cap ∧ 0 = (↑i : Int) ∧ True) ∧ ∀ (i : Nat), PL.TxtsAt x i → (ar.lt
  (↑i : Int) x.fst.len → ar.le 0 (↑i : Int) ∧ ar.lt (↑i : Int) x.fst.len ∧ ar.le 0 (↑i : Int) ∧ ar.lt (↑i : Int) x.snd.len ∧ (¬ar.seq (ar.tget x.fst.l (↑i : Int)) (ar.tget x.snd.l
  (↑i : Int)) → ∃ (y : Unit), True ∧ (false = true ↔ x.fst.l = x.snd.l) ∧ True) ∧ (¬¬ar.seq (ar.tget x.fst.l (↑i : Int)) (ar.tget x.snd.l (↑i : Int)) → ∀ (z : Int), z = ar.wrap
  IntKind.i64 (ar.add (↑i : Int) 1) → ∃ (j : Nat), PL.TxtsAt x j ∧ (x.fst.l.length.sub j).lt (x.fst.l.length.sub i) ∧ x.fst.l = x.fst.l ∧ x.fst.len = x.fst.len ∧ x.fst.cap =
  x.fst.cap ∧ x.snd.l = x.snd.l ∧ x.snd.len = x.snd.len ∧ x.snd.cap = x.snd.cap ∧ z = (↑j : Int) ∧ True)) ∧ (¬ar.lt (↑i : Int) x.fst.len → ∃ (y : Unit), True ∧ (true = true ↔
  x.fst.l = x.snd.l) ∧ True))
theorem st_eq (ar : AR) (x : stSpec.X) : (run ar PP noSpec (stInvs x) 1000 15 (stSpec.H x).length (Tryd.f15.body.getD .skip) (stSpec.A x ++ List.replicate (Tryd.f15.ntmps - (stSpec.A x).length) .any) (stSpec.H x) (endCall ar PP Tryd.f15.results.toList (stSpec.fin x))) = st_vc ar x := by
  kernel_rfl
theorem st_of (h : ∀ x, stSpec.pre x → st_vc ar0 x) : stSpec.OK PP 15 :=
  Spec.ok_of_run (fn := Tryd.f15) (c := Tryd.f15.body.getD .skip) (by kernel_rfl) (by kernel_rfl) (by kernel_rfl) noSpec_ok stInvs 1000 (fun x hx => (st_eq ar0 x).mpr (h x hx))
theorem stSpec_ok : stSpec.OK PP 15 := by
  refine st_of fun x hx => ?_
  obtain ⟨a, b⟩ := x
  obtain ⟨ha, hb, hle⟩ : PL.TxtsIn (a, b) := hx
  simp only at ha hb hle
  unfold st_vc
  simp only [ars, ars2, true_and, and_true, exists_const, Classical.not_not]
  simp only [Int.toNat_natCast, Bool.false_eq_true]
  have no : (a.l = b.l → False) → (False ↔ a.l = b.l) := fun h => ⟨False.elim, h⟩
  refine ⟨fun hl => no fun h => hl (by rw [← ha, ← hb, h]), fun hl => ⟨⟨0, ⟨Nat.zero_le _, rfl⟩, rfl⟩, fun i hi => ⟨fun hlt => ⟨by omega, hlt, by omega, by omega, fun hne => no fun h => hne (by rw [h]), fun he z hz => ?_⟩, fun hge => ⟨fun _ => ?_, fun _ => trivial⟩⟩⟩⟩
  · rw [wrap_i64 (by omega) (by omega)] at hz
    have h1 : i < a.l.length := by omega
    have h2 : i < b.l.length := by omega
    have heq := hi.eq
    simp only at heq
    rw [List.getD_eq_getElem?_getD, List.getD_eq_getElem?_getD, List.getElem?_eq_getElem h1, List.getElem?_eq_getElem h2] at he
    simp only [Option.getD_some] at he
    refine ⟨i + 1, ⟨by simp only; omega, ?_⟩, by omega, by omega⟩
    simp only [List.take_add_one, List.getElem?_eq_getElem h1, List.getElem?_eq_getElem h2, heq, he]
  · have heq := hi.eq
    simp only at heq
    rwa [List.take_of_length_le (by omega), List.take_of_length_le (by omega)] at heq
end Go.Eng

