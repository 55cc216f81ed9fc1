/- Index: Encode. -/
import Derived.Test.YtfcjboomlfjanaaDoorIxD
import Derived.RangeFuncBox
import Derived.RangeFuncLeaves
import Derived.Shelf.Abstract
import Derived.WalkKit
import Derived.OwnWalkIn
import Derived.TacticsInMore
import Derived.LoopNIn
import Derived.LoopIn
import Derived.Sort.QuietTacIn
import Derived.Lib.Hide
import Derived.Test.YtfcjboomlfjanaaDoorEngC
set_option linter.unusedVariables false
set_option linter.unusedSimpArgs false
/- Index: what is handed in. -/
/- Index: the pieces of a text: the iterator of slices.Chunk, walked by hand. -/
set_option linter.unusedVariables false
set_option linter.unusedSimpArgs false
namespace Go.Eng
open Go.Proofs Go.RowKit Go.Shelf
attribute [local go_sem] Oper.semAt_some
def KeepC (Bs Bn : Nat) (A B : World) : Prop := B.cell? ⟨Bs, 0, none⟩ = A.cell? ⟨Bs, 0, none⟩ ∧ B.cell? ⟨Bn, 0, none⟩ = A.cell? ⟨Bn, 0, none⟩
set_option maxRecDepth 100000 in
set_option maxHeartbeats 2000000 in
theorem chunk_in (n : Nat) (hn : 1 ≤ n) (l Bs Bn b K β T cap : Nat) (h1 : 1 ≤ β) (hTe : T = K * β) (hT : T ≤ 100000000) (hcap : T ≤ cap) (J Jx : List Nat → World → Prop)
    (hY : ∀ pre x W, J pre W → pre.length < K → YieldAt Fence.wide (n - 1) Tryd.prog l #[.slice (some ⟨b, (x % K) * β, none⟩) β β] W fun e W' =>
      (e = .returned (.bool true) ∧ J (pre ++ [x]) W' ∧ KeepC Bs Bn W W') ∨ (e = .returned (.bool false) ∧ Jx (pre ++ [x]) W'))
    (W : World) (hBs : W.cell? ⟨Bs, 0, none⟩ = some (.slice (some ⟨b, 0, none⟩) T cap)) (hBn : W.cell? ⟨Bn, 0, none⟩ = some (.int .i64 β)) (h0 : J [] W) (hd : ∀ s W' m, J s W' → J s (W'.drewN m)) :
    CallsIn Fence.wide n Tryd.prog 79 #[.func (.yield l) #[] #[], .pointer (some ⟨Bs, 0, none⟩), .pointer (some ⟨Bn, 0, none⟩)] W fun e W' => (∃ v, e = .returned v) ∧ ((∃ xs, xs = List.range K ∧ J xs W') ∨ (∃ pre, True ∧ Jx pre W')) := by
  refine callsIn_of_wp Tryd.func79 rfl trivial ?_ rfl
  simp only [Tryd.ntmps79, List.size_toArray, List.length_cons, List.length_nil, Nat.reduceAdd, Nat.reduceSub, Array.replicate_succ, Array.replicate_zero, List.push_toArray, List.append_toArray, List.nil_append, List.cons_append]
  have HT := Lib.hid hTe
  have HD := Lib.hid hd
  have HY := Lib.hid hY
  clear hTe hd hY
  gi_wp2
  gi_loopw [4] (fun i wr => ∃ k m : Nat, Hid (m = k * β) ∧ k ≤ K ∧ i = .int .i64 (m : Int) ∧ J (List.range k) wr ∧ Hid (KeepC Bs Bn W wr))
    (fun i _ => T - (intOf i).toNat)
  case atStart => exact ⟨0, 0, Lib.hid (by simp), Nat.zero_le _, rfl, h0, Lib.hid ⟨rfl, rfl⟩⟩
  case round =>
    obtain ⟨k, m, hm, hk, rfl, hJs, hkc⟩ := hrel
    have c1 : wr.cell? ⟨Bs, 0, none⟩ = some (.slice (some ⟨b, 0, none⟩) T cap) := hkc.out.1.trans hBs
    have c2 : wr.cell? ⟨Bn, 0, none⟩ = some (.int .i64 β) := hkc.out.2.trans hBn
    by_cases hlt : k < K
    · have hle : m + β ≤ T := by
        have := Nat.mul_le_mul_right β hlt
        rw [Nat.succ_mul] at this
        rw [HT.out, hm.out]
        exact this
      have l1 : (m : Int) < (T : Int) := by omega
      have l3 : (β : Int) ≤ (T : Int) - (m : Int) := by omega
      have l4 : m + β ≤ cap := by omega
      have l5 : (m : Int) ≤ (T : Int) := by omega
      have l6 : (0 : Int) ≤ (m : Int) := by omega
      have l7 : ¬ cap = m := by omega
      have l8 : ¬ cap - m = 0 := by omega
      have l9 : ¬ m = cap := by omega
      gi_wp2
      gi_quiet_th (fail)
      obtain ⟨fn, tmps, assign, body, hy, hR⟩ := HY.out _ k _ (HD.out _ wr nq hJs) (by rw [List.length_range]; exact hlt)
      rw [Nat.mod_eq_of_lt hlt, ← hm.out] at hy
      gi_wp2
      refine hR.mono ?_
      rintro e W3 (⟨rfl, hJ3, hk3⟩ | ⟨rfl, hJx3⟩)
      · have c3 : W3.cell? ⟨Bn, 0, none⟩ = some (.int .i64 β) := hk3.2.trans c2
        have hw : IntKind.i64.wrap ((m : Int) + (β : Int)) = (m : Int) + (β : Int) := IntWalk.i64_in _ (by omega)
        gi_wp2
        go_roundw
        case rel => exact ⟨k + 1, m + β, Lib.hid (by rw [hm.out, Nat.succ_mul]), hlt, by simp, by rw [List.range_succ]; exact hJ3, Lib.hid ⟨hk3.1.trans hkc.out.1, hk3.2.trans hkc.out.2⟩⟩
        case measure => simp [intOf]; omega
      · gi_wp2
        refine bodyPost_ret (results_none rfl _ _ _) rfl ?_
        first | exact ⟨⟨_, rfl⟩, .inr ⟨_, hJx3⟩⟩ | exact ⟨⟨_, rfl⟩, .inr ⟨_, trivial, hJx3⟩⟩
    · obtain rfl : k = K := by omega
      have l1 : ¬ (m : Int) < (T : Int) := by have := hm.out; have := HT.out; omega
      gi_wp2
      go_end0
      first | exact ⟨⟨_, rfl⟩, .inl hJs⟩ | exact ⟨⟨_, rfl⟩, .inl ⟨_, rfl, hJs⟩⟩
theorem abides_drewN {J : List Nat → World → Prop} {B : Nat} (h : AbidesFrom B J) (s : List Nat) (W : World) (m : Nat) (hs : J s W) : J s (W.drewN m) :=
  h s W _ none hs ⟨rfl, rfl, rfl, Nat.le_refl _, fun _ _ _ => rfl⟩ (fun _ h => by cases h)
theorem chunk_stops (n : Nat) (hn : 1 ≤ n) (Bs Bn b K β T cap : Nat) (h1 : 1 ≤ β) (hTe : T = K * β) (hT : T ≤ 100000000) (hcap : T ≤ cap) (w : World) (hs : Bs < w.heap.size) (hn' : Bn < w.heap.size)
    (hBs : w.cell? ⟨Bs, 0, none⟩ = some (.slice (some ⟨b, 0, none⟩) T cap)) (hBn : w.cell? ⟨Bn, 0, none⟩ = some (.int .i64 β)) :
    SeqStopsK Fence.wide n Tryd.prog 79 #[.pointer (some ⟨Bs, 0, none⟩), .pointer (some ⟨Bn, 0, none⟩)] (fun x : Nat => #[Value.slice (some ⟨b, (x % K) * β, none⟩) β β]) (KeepC Bs Bn)
      (fun xs => xs = List.range K) (fun _ => True) K w := by
  intro l J Jx W hW hJ hJx hY h0
  exact chunk_in n hn l Bs Bn b K β T cap h1 hTe hT hcap J Jx hY W ((hW.cell (p := ⟨Bs, 0, none⟩) hs).trans hBs) ((hW.cell (p := ⟨Bn, 0, none⟩) hn').trans hBn) h0 (fun s W' m => abides_drewN hJ s W' m)
end Go.Eng
namespace Go.PL
structure EncCap (x : Cfg × Tree × Pool) (c : Int) (L : List (List UInt8)) (d : Int) : Prop where
  le : ((fullS x.1 x.2.1 x.2.2).length : Int) ≤ c
  ok : EOK x
  k0 : L = []
  d0 : d = 0
theorem sprV_at (x : Nods × Int × Int × Int × Int) (i k : Nat) : (sprV x i).at k = (sprU x i).at k := rfl
theorem sprV_rows (x : Nods × Int × Int × Int × Int) (h : 0 ≤ x.2.2.2.1) (i : Nat) : NRows (sprV x i) x.2.2.2.1.toNat := by
  obtain ⟨h1, h2, h3, h4, h5, _, _⟩ := sprU_rows x i
  exact ⟨h1, h2, h3, h4, h5, (Int.toNat_of_nonneg h).symm, (Int.toNat_of_nonneg h).symm⟩
theorem sp_dirs {c : Cfg} {t : Tree} (hc : CfgIn c) (hn : NodsOK t.nods) (h : TreeOK c t) : SpIn (t.nods, 1, 1, c.dirs, 36) := by
  obtain ⟨c1, c2, c3, c4, c5, c6⟩ := hc
  refine ⟨hn, hn.cap, by simp only; omega, by simp only; omega, fun i hi hk => ?_⟩
  simp only at hi hk ⊢
  obtain ⟨_, _, hr⟩ := h.up.all i hi
  simp only [Nods.at] at hr
  omega
theorem sp_files {c : Cfg} {t : Tree} (hc : CfgIn c) (hn : NodsOK t.nods) (h : TreeOK c t) : SpIn (t.nods, 2, 0, c.files, 40) := by
  obtain ⟨c1, c2, c3, c4, c5, c6⟩ := hc
  refine ⟨hn, hn.cap, by simp only; omega, by simp only; omega, fun i hi hk => ?_⟩
  simp only at hi hk ⊢
  obtain ⟨_, _, hr⟩ := h.up.all i hi
  simp only [Nods.at] at hr
  omega
theorem row_dirs {c : Cfg} {t : Tree} (hc : CfgIn c) (hn : NodsOK t.nods) (h : TreeOK c t) {k : Nat} (hk : k < c.dirs.toNat) :
    nodeS ((sprV (t.nods, 1, 1, c.dirs, 36) t.nods.len.toNat).at k) = slot t.nods (1000001 + (k : Int)) 36 ∧ NodeRow ((sprV (t.nods, 1, 1, c.dirs, 36) t.nods.len.toNat).at k) := by
  have hsp := sp_dirs hc hn h
  have hs := tree_sorted hc h
  obtain ⟨c1, c2, c3, c4, c5, c6⟩ := id hc
  rcases sprU_at _ hsp k hk t.nods.len.toNat (Nat.le_refl _) with ⟨j, hj, e1, e2, e3⟩ | ⟨e1, e2⟩
  · rw [sprV_at, e3]
    simp only at e1 e2
    have hkind : (t.nods.at j).kind = 1 := e1
    have hnum : (t.nods.at j).number = (k : Int) + 1 := by have : (t.nods.at j).number = t.nods.N.getD j 0 := rfl; omega
    have hrow := (node_key hc (h.up.all j hj)).2
    have hS : nodeS (t.nods.at j) = rowS (t.nods.at j) := if_neg (by omega)
    refine ⟨by rw [hS, slot_at hs hj (by simp only [key]; omega)], fun _ => hrow, fun h0 => absurd ((hkind.symm.trans h0 : (1 : Int) = 0)) (by decide), ?_⟩
    rw [hS, rowS_len1 hrow hkind]
    omega
  · rw [sprV_at, e2]
    have hS : nodeS ⟨0, 0, 0, [], 36⟩ = zs 36 := rfl
    refine ⟨?_, fun h0 => absurd rfl h0, fun _ => by simp only; omega, by simp only [hS, zs, List.length_replicate]; omega⟩
    show nodeS ⟨0, 0, 0, [], 36⟩ = _
    rw [hS, slot_no fun i hi he => ?_]
    refine e1 i hi ?_
    obtain ⟨k1, _⟩ := node_key hc (h.up.all i hi)
    simp only [key] at he
    have a1 : (t.nods.at i).kind = t.nods.K.getD i 0 := rfl
    have a2 : (t.nods.at i).number = t.nods.N.getD i 0 := rfl
    simp only
    omega
theorem row_files {c : Cfg} {t : Tree} (hc : CfgIn c) (hn : NodsOK t.nods) (h : TreeOK c t) {k : Nat} (hk : k < c.files.toNat) :
    nodeS ((sprV (t.nods, 2, 0, c.files, 40) t.nods.len.toNat).at k) = slot t.nods (2000000 + (k : Int)) 40 ∧ NodeRow ((sprV (t.nods, 2, 0, c.files, 40) t.nods.len.toNat).at k) := by
  have hsp := sp_files hc hn h
  have hs := tree_sorted hc h
  obtain ⟨c1, c2, c3, c4, c5, c6⟩ := id hc
  rcases sprU_at _ hsp k hk t.nods.len.toNat (Nat.le_refl _) with ⟨j, hj, e1, e2, e3⟩ | ⟨e1, e2⟩
  · rw [sprV_at, e3]
    simp only at e1 e2
    have hkind : (t.nods.at j).kind = 2 := e1
    have hnum : (t.nods.at j).number = (k : Int) := by have : (t.nods.at j).number = t.nods.N.getD j 0 := rfl; omega
    have hrow := (node_key hc (h.up.all j hj)).2
    have hS : nodeS (t.nods.at j) = rowS (t.nods.at j) := if_neg (by omega)
    refine ⟨by rw [hS, slot_at hs hj (by simp only [key]; omega)], fun _ => hrow, fun h0 => absurd ((hkind.symm.trans h0 : (2 : Int) = 0)) (by decide), ?_⟩
    rw [hS, rowS_len2 hrow hkind]
    omega
  · rw [sprV_at, e2]
    have hS : nodeS ⟨0, 0, 0, [], 40⟩ = zs 40 := rfl
    refine ⟨?_, fun h0 => absurd rfl h0, fun _ => by simp only; omega, by simp only [hS, zs, List.length_replicate]; omega⟩
    show nodeS ⟨0, 0, 0, [], 40⟩ = _
    rw [hS, slot_no fun i hi he => ?_]
    refine e1 i hi ?_
    obtain ⟨k1, _⟩ := node_key hc (h.up.all i hi)
    simp only [key] at he
    have a1 : (t.nods.at i).kind = t.nods.K.getD i 0 := rfl
    have a2 : (t.nods.at i).number = t.nods.N.getD i 0 := rfl
    simp only
    omega
theorem nods_dirs {c : Cfg} {t : Tree} (hc : CfgIn c) (hn : NodsOK t.nods) (h : TreeOK c t) : ∀ k, k ≤ c.dirs.toNat → nodsL (sprV (t.nods, 1, 1, c.dirs, 36) t.nods.len.toNat) k = dirsS t.nods k
  | 0, _ => rfl
  | k + 1, hk => by rw [nodsL, dirsS, nods_dirs hc hn h k (by omega), (row_dirs hc hn h (k := k) (by omega)).1]
theorem nods_files {c : Cfg} {t : Tree} (hc : CfgIn c) (hn : NodsOK t.nods) (h : TreeOK c t) : ∀ k, k ≤ c.files.toNat → nodsL (sprV (t.nods, 2, 0, c.files, 40) t.nods.len.toNat) k = filesS t.nods k
  | 0, _ => rfl
  | k + 1, hk => by rw [nodsL, filesS, nods_files hc hn h k (by omega), (row_files hc hn h (k := k) (by omega)).1]
theorem big0 : ∀ k, big 0 k = zs k
  | 0 => rfl
  | k + 1 => by
    rw [big, show (0 : Int) / 256 = 0 from rfl, big0 k, show b8 0 = 0 from rfl, zs, zs, ← List.replicate_succ']
theorem zs_add (a b : Nat) : zs a ++ zs b = zs (a + b) := by simp [zs]
theorem qS_more (q : List Int) : ∀ d, qS q (q.length + d) = qS q q.length ++ zs (4 * d)
  | 0 => by simp [zs]
  | d + 1 => by
    rw [show q.length + (d + 1) = (q.length + d) + 1 by omega, qS, qS_more q d, List.append_assoc]
    have : q.getD (q.length + d) 0 = 0 := by simp [List.getD]
    rw [this, big0, zs_add, show 4 * d + 4 = 4 * (d + 1) by omega]
end Go.PL
set_option linter.unusedSectionVars false
set_option linter.unusedSimpArgs false
set_option linter.unusedVariables false
namespace Go.Eng
variable [CW : CWorld]
open Go.Proofs
open Go.PL (Cfg CfgIn CfgOK CfgBad Img RImg Refs Nod Nods Tree Objs Pool Txts)
set_option maxRecDepth 100000
attribute [local irreducible] run
noncomputable def xSpecs : Specs := fun f a h => match f with
  | 35 => some treeSpec
  | 36 => some poolSpec
  | 47 => some spSpec
  | 46 => some enodeSpec
  | 49 => some eobjSpec
  | 52 => some equeSpec
  | 51 => some putSpec
  | 54 => some zerosSpec
  | _ => eSpecs f a h
theorem xSpecs_ok : SpecsOK PP xSpecs := by
  intro CW f xs _ S h
  unfold xSpecs at h
  split at h
  · cases h; exact itree_ok
  · cases h; exact ipool_ok
  · cases h; exact spSpec_ok
  · cases h; exact enodeSpec_ok
  · cases h; exact eobjSpec_ok
  · cases h; exact equeSpec_ok
  · cases h; exact putSpec_ok
  · cases h; exact zerosSpec_ok
  · exact eSpecs_ok CW _ _ _ _ h
noncomputable def encI : Spec where
  X := Cfg × Tree × Pool
  A x := [.agg (cfgL x.1), .agg (treeL x.2.1), .agg (poolL x.2.2)]
  H x := []
  pre x := PL.EIn x
  outs := [{ Y _ := Int, post x c := PL.Enc4Post x c, R x c := .tup [.slc 0 (.l 0) (.x ((PL.encL x).length : Int)) (.x ((PL.encL x).length : Int)), .int .i64 (.x (PL.encErr x))], H' x c := [strsB (PL.encL x) c] }]
  frz := true
noncomputable def encFr (x : Cfg × Tree × Pool) (c : Int) : List SV := frame 89 [(11, .ptr 0 (.l 0)), (78, .slc 3 (.l 0) (.x ((PL.fullS x.1 x.2.1 x.2.2).length : Int)) (.x c)), (80, .fn 79 [.ptr 1 (.l 0), .ptr 2 (.l 0)])]
noncomputable def encHp (x : Cfg × Tree × Pool) (c : Int) (L : List (List UInt8)) (d : Int) : List Blk :=
  [.mk 24 [.one (.slc 4 (.l 0) (.x (L.length : Int)) (.x d))], .mk 56 [.one (.slc 3 (.l 0) (.x ((PL.fullS x.1 x.2.1 x.2.2).length : Int)) (.x c))], .mk 3 [.one (.int .i64 (.x (x.1.page - 5)))],
    bytesB (PL.fullS x.1 x.2.1 x.2.2) c, strsB L d]
def encKt (x : Cfg × Tree × Pool) (fr : List SV) (hp : List Blk) : Prop := ∃ (c : Int) (L : List (List UInt8)) (d : Int), PL.EncCap x c L d ∧ entails 0 fr hp (encFr x c) (encHp x c L d)
def enct_vc (ar : AR) (x : encI.X) : Prop :=
  ∃ (x_1 : Cfg), x.fst.slots = x_1.slots ∧ x.fst.files = x_1.files ∧ x.fst.dirs = x_1.dirs ∧ x.fst.most = x_1.most ∧ x.fst.least = x_1.least ∧ x.fst.page = x_1.page ∧ PL.CfgAny x_1
  ∧ ∀ (y : Unit), True → (¬ar.eq (PL.chk x_1) 0 → ∃ (y : Int), PL.Enc4Post x y ∧ 0 = (↑(PL.encL x).length : Int) ∧ 0 = (↑(PL.encL x).length : Int) ∧ PL.chk x_1 = PL.encErr x ∧ y =
  0 ∧ PL.encL x = [] ∧ True) ∧ (¬¬ar.eq (PL.chk x_1) 0 → ∃ (x_2 : Cfg × Tree), x.fst.slots = x_2.1.slots ∧ x.fst.files = x_2.1.files ∧ x.fst.dirs = x_2.1.dirs ∧ x.fst.most =
  x_2.1.most ∧ x.fst.least = x_2.1.least ∧ x.fst.page = x_2.1.page ∧ x.snd.fst.files = x_2.2.files ∧ x.snd.fst.dirs = x_2.2.dirs ∧ x.snd.fst.nods.K = x_2.snd.nods.K ∧
  x.snd.fst.nods.N = x_2.snd.nods.N ∧ x.snd.fst.nods.P = x_2.snd.nods.P ∧ x.snd.fst.nods.S = x_2.snd.nods.S ∧ x.snd.fst.nods.Z = x_2.snd.nods.Z ∧ x.snd.fst.nods.len =
  x_2.snd.nods.len ∧ x.snd.fst.nods.cap = x_2.snd.nods.cap ∧ PL.TreeIn x_2 ∧ ∀ (y : Unit), True → (¬PL.TreeOK x_2.fst x_2.snd → ∃ (y : Int), PL.Enc4Post x y ∧ 0 = (↑(PL.encL
  x).length : Int) ∧ 0 = (↑(PL.encL x).length : Int) ∧ 128 = PL.encErr x ∧ y = 0 ∧ PL.encL x = [] ∧ True) ∧ (¬¬PL.TreeOK x_2.fst x_2.snd → ∃ (x_3 : Cfg × Pool), x.fst.slots =
  x_3.1.slots ∧ x.fst.files = x_3.1.files ∧ x.fst.dirs = x_3.1.dirs ∧ x.fst.most = x_3.1.most ∧ x.fst.least = x_3.1.least ∧ x.fst.page = x_3.1.page ∧ x.snd.snd.objs.N =
  x_3.snd.objs.N ∧ x.snd.snd.objs.T = x_3.snd.objs.T ∧ x.snd.snd.objs.B = x_3.snd.objs.B ∧ x.snd.snd.objs.O = x_3.snd.objs.O ∧ x.snd.snd.objs.len = x_3.snd.objs.len ∧
  x.snd.snd.objs.cap = x_3.snd.objs.cap ∧ x.snd.snd.q = x_3.2.q ∧ x.snd.snd.qlen = x_3.2.qlen ∧ x.snd.snd.qcap = x_3.2.qcap ∧ PL.PoolIn x_3 ∧ ∀ (y : Unit), True → (¬PL.PoolOK
  x_3.fst x_3.snd → ∃ (y : Int), PL.Enc4Post x y ∧ 0 = (↑(PL.encL x).length : Int) ∧ 0 = (↑(PL.encL x).length : Int) ∧ 130 = PL.encErr x ∧ y = 0 ∧ PL.encL x = [] ∧ True) ∧
  (¬¬PL.PoolOK x_3.fst x_3.snd → ∀ (z : Int), z = ar.wrap IntKind.i64 (ar.sub x.fst.page 5) → ∃ (x_4 : Cfg), x.fst.slots = x_4.slots ∧ x.fst.files = x_4.files ∧ x.fst.dirs =
  x_4.dirs ∧ x.fst.most = x_4.most ∧ x.fst.least = x_4.least ∧ x.fst.page = x_4.page ∧ CfgIn x_4 ∧ ∀ (y : Unit), True → ∀ (z_1 : Int), z_1 = ar.wrap IntKind.i64 (ar.mul (PL.pagesI
  x_4) z) → ar.le 0 z_1 ∧ ar.le (ar.mul z_1 1) 140737488355328 ∧ ∃ (x_5 : Nods × Int × Int × Int × Int), x.snd.fst.nods.K = x_5.1.K ∧ x.snd.fst.nods.N = x_5.1.N ∧ x.snd.fst.nods.P
  = x_5.1.P ∧ x.snd.fst.nods.S = x_5.1.S ∧ x.snd.fst.nods.Z = x_5.1.Z ∧ x.snd.fst.nods.len = x_5.1.len ∧ x.snd.fst.nods.cap = x_5.1.cap ∧ 1 = x_5.2.fst ∧ 1 = x_5.snd.snd.fst ∧
  x.fst.dirs = x_5.snd.snd.snd.fst ∧ 36 = x_5.snd.snd.snd.snd ∧ PL.SpIn x_5 ∧ ∀ (y : Unit), True → ∃ (x_6 : Img × Nods), x_5.snd.snd.snd.fst = x_6.2.len ∧ x_5.snd.snd.snd.fst =
  x_6.2.cap ∧ 0 = (↑x_6.1.l.length : Int) ∧ z_1 = x_6.1.cap ∧ (false = true ↔ x_6.1.3) ∧ z_1 = x_6.1.cap ∧ [] = PL.ints x_6.1.l ∧ x_5.snd.snd.snd.fst = x_6.2.cap ∧ PL.sprK x_5
  x_5.1.len.toNat = x_6.2.K ∧ PL.sprN x_5 x_5.1.len.toNat = x_6.2.N ∧ PL.sprP x_5 x_5.1.len.toNat = x_6.2.P ∧ PL.sprS x_5 x_5.1.len.toNat = x_6.2.S ∧ PL.sprZ x_5 x_5.1.len.toNat =
  x_6.2.Z ∧ PL.ENIn x_6 ∧ ∀ (y : Int), PL.CapOK ((↑x_6.1.l.length : Int).add (↑(PL.nodsL x_6.snd x_6.2.len.toNat).length : Int)) y → ∃ (x_7 : Nods × Int × Int × Int × Int),
  x.snd.fst.nods.K = x_7.1.K ∧ x.snd.fst.nods.N = x_7.1.N ∧ x.snd.fst.nods.P = x_7.1.P ∧ x.snd.fst.nods.S = x_7.1.S ∧ x.snd.fst.nods.Z = x_7.1.Z ∧ x.snd.fst.nods.len = x_7.1.len ∧
  x.snd.fst.nods.cap = x_7.1.cap ∧ 2 = x_7.2.fst ∧ 0 = x_7.snd.snd.fst ∧ x.fst.files = x_7.snd.snd.snd.fst ∧ 40 = x_7.snd.snd.snd.snd ∧ PL.SpIn x_7 ∧ ∀ (y_1 : Unit), True → ∃ (x_8
  : Img × Nods), x_7.snd.snd.snd.fst = x_8.2.len ∧ x_7.snd.snd.snd.fst = x_8.2.cap ∧ (↑(x_6.1.l.append (PL.nodsL x_6.snd x_6.2.len.toNat)).length : Int) = (↑x_8.1.l.length : Int) ∧
  y = x_8.1.cap ∧ (x_6.1.3 ↔ x_8.1.3) ∧ y = x_8.1.cap ∧ PL.ints (x_6.1.l.append (PL.nodsL x_6.snd x_6.2.len.toNat)) = PL.ints x_8.1.l ∧ x_7.snd.snd.snd.fst = x_8.2.cap ∧ PL.sprK
  x_7 x_7.1.len.toNat = x_8.2.K ∧ PL.sprN x_7 x_7.1.len.toNat = x_8.2.N ∧ PL.sprP x_7 x_7.1.len.toNat = x_8.2.P ∧ PL.sprS x_7 x_7.1.len.toNat = x_8.2.S ∧ PL.sprZ x_7
  x_7.1.len.toNat = x_8.2.Z ∧ PL.ENIn x_8 ∧ ∀ (y : Int), PL.CapOK ((↑x_8.1.l.length : Int).add (↑(PL.nodsL x_8.snd x_8.2.len.toNat).length : Int)) y → ∃ (x_9 : Img × Objs),
  x.snd.snd.objs.N = x_9.2.N ∧ x.snd.snd.objs.T = x_9.2.T ∧ x.snd.snd.objs.B = x_9.2.B ∧ x.snd.snd.objs.O = x_9.2.O ∧ x.snd.snd.objs.len = x_9.2.len ∧ x.snd.snd.objs.cap =
  x_9.2.cap ∧ (↑(x_8.1.l.append (PL.nodsL x_8.snd x_8.2.len.toNat)).length : Int) = (↑x_9.1.l.length : Int) ∧ y = x_9.1.cap ∧ (x_8.1.3 ↔ x_9.1.3) ∧ y = x_9.1.cap ∧ PL.ints
  (x_8.1.l.append (PL.nodsL x_8.snd x_8.2.len.toNat)) = PL.ints x_9.1.l ∧ PL.EOIn x_9 ∧ ∀ (y : Int), PL.CapOK ((↑x_9.1.l.length : Int).add (Int.mul 40 x_9.2.len)) y → ∃ (x_10 : Img
  × Int × Int), x.snd.snd.qlen = x_10.2.fst ∧ 4 = x_10.2.snd ∧ (↑(x_9.1.l.append (PL.objsL x_9.snd x_9.2.len.toNat)).length : Int) = (↑x_10.1.l.length : Int) ∧ y = x_10.1.cap ∧
  (x_9.1.3 ↔ x_10.1.3) ∧ y = x_10.1.cap ∧ PL.ints (x_9.1.l.append (PL.objsL x_9.snd x_9.2.len.toNat)) = PL.ints x_10.1.l ∧ PL.PutIn x_10 ∧ ∀ (y : Int), PL.CapOK ((↑x_10.1.l.length
  : Int).add x_10.2.snd) y → ∃ (x_11 : Img × List Int × Int × Int), x.snd.snd.q = x_11.2.fst ∧ x.snd.snd.qlen = x_11.snd.snd.fst ∧ x.snd.snd.qcap = x_11.snd.snd.snd ∧
  (↑(x_10.1.l.append (PL.big x_10.2.fst x_10.2.snd.toNat)).length : Int) = (↑x_11.1.l.length : Int) ∧ y = x_11.1.cap ∧ (x_10.1.3 ↔ x_11.1.3) ∧ y = x_11.1.cap ∧ PL.ints
  (x_10.1.l.append (PL.big x_10.2.fst x_10.2.snd.toNat)) = PL.ints x_11.1.l ∧ PL.EQIn x_11 ∧ ∀ (y : Int), PL.CapOK ((↑x_11.1.l.length : Int).add (Int.mul 4 x_11.snd.snd.fst)) y → ∃
  (x_12 : Cfg), x.fst.slots = x_12.slots ∧ x.fst.files = x_12.files ∧ x.fst.dirs = x_12.dirs ∧ x.fst.most = x_12.most ∧ x.fst.least = x_12.least ∧ x.fst.page = x_12.page ∧ CfgIn
  x_12 ∧ ∀ (y_2 : Unit), True → ∀ (z_2 : Int), z_2 = ar.wrap IntKind.i64 (ar.mul (PL.pagesI x_12) z) → ∀ (z_3 : Int), z_3 = ar.wrap IntKind.i64 (ar.sub z_2 (↑(x_11.1.l.append
  (PL.qS x_11.2.fst x_11.snd.snd.fst.toNat)).length : Int)) → ∃ (x_13 : Img × Int), z_3 = x_13.snd ∧ (↑(x_11.1.l.append (PL.qS x_11.2.fst x_11.snd.snd.fst.toNat)).length : Int) =
  (↑x_13.1.l.length : Int) ∧ y = x_13.1.cap ∧ (x_11.1.3 ↔ x_13.1.3) ∧ y = x_13.1.cap ∧ PL.ints (x_11.1.l.append (PL.qS x_11.2.fst x_11.snd.snd.fst.toNat)) = PL.ints x_13.1.l ∧
  PL.ZerosIn x_13 ∧ ∀ (y : Int), PL.CapOK ((↑x_13.1.l.length : Int).add x_13.snd) y → (ar.lt z 1 → False) ∧ (¬ar.lt z 1 → ∃ (c : Int), ∃ (L : List (List UInt8)), ∃ (d : Int),
  PL.EncCap x c L d ∧ (↑(x_13.1.l.append (PL.zs x_13.snd.toNat)).length : Int) = (↑(PL.fullS x.fst x.snd.fst x.snd.snd).length : Int) ∧ y = c ∧ 0 = (↑L.length : Int) ∧ 0 = d ∧
  (↑(x_13.1.l.append (PL.zs x_13.snd.toNat)).length : Int) = (↑(PL.fullS x.fst x.snd.fst x.snd.snd).length : Int) ∧ y = c ∧ z = x.fst.page.sub 5 ∧ y = c ∧ PL.ints (x_13.1.l.append
  (PL.zs x_13.snd.toNat)) = PL.ints (PL.fullS x.fst x.snd.fst x.snd.snd) ∧ d = 0 ∧ L = [] ∧ True))))
theorem enct_eq (ar : AR) (x : encI.X) : (runTo ar PP xSpecs noInv 1000 19 0 (encKt x) (endCall ar PP Tryd.f19.results.toList (encI.fin x)) 13 (Tryd.f19.body.getD .skip) (encI.A x ++ List.replicate (Tryd.f19.ntmps - (encI.A x).length) .any) (encI.H x)) = enct_vc ar x := by
  kernel_rfl
theorem enct_holds (x : Cfg × Tree × Pool) (hx : PL.EIn x) : enct_vc ar0 x := by
  obtain ⟨c, t, p⟩ := x
  obtain ⟨hn, hpi⟩ : PL.EIn (c, t, p) := hx
  simp only at hn hpi
  unfold enct_vc
  simp only [ars, ars2, ex_cfg, ex_tree, ex_pool, cfgAny, true_and, and_true, exists_const, forall_const, imp_false, Classical.not_not]
  have bad : ∀ (e : Int), ¬ PL.EOK (c, t, p) → PL.encErr (c, t, p) = e → ∃ y, PL.Enc4Post (c, t, p) y ∧ 0 = ((PL.encL (c, t, p)).length : Int) ∧ 0 = ((PL.encL (c, t, p)).length : Int) ∧ e = PL.encErr (c, t, p) ∧ y = 0 ∧ PL.encL (c, t, p) = [] := fun e h he => by
    have h0 := PL.encL_no h
    exact ⟨0, ⟨by rw [h0]; simp⟩, by rw [h0]; rfl, by rw [h0]; rfl, he.symm, rfl, h0⟩
  refine ⟨fun hc => by rw [PL.chk_bad fun h => hc (PL.chk_ok h)]; exact bad 140 (fun h => hc (PL.chk_ok h.cfg)) (PL.encErr_c fun h => hc (PL.chk_ok h)), fun hc => ?_⟩
  have hc := PL.chk_zero.1 hc
  refine ⟨⟨hc.ok, hn⟩, fun ht => bad 128 (fun h => ht h.tree) (PL.encErr_t hc ht), fun ht => ⟨hpi hc.ok, fun hp => bad 130 (fun h => hp h.pool) (PL.encErr_p hc ht hp), fun hp z hz => ?_⟩⟩
  obtain ⟨c1, c2, c3, c4, c5, c6⟩ := id hc.ok
  obtain ⟨f1, f2, f3⟩ := PL.full_fits hc
  have hr := PL.pages_range hc
  rw [wrap_i64 (by omega) (by omega)] at hz
  subst hz
  refine ⟨hc.ok, fun z1 hz1 => ?_⟩
  rw [wrap_i64 (by omega) (by omega)] at hz1
  subst hz1
  have hI : PL.ImgIn (c, t, p) := ⟨hc.ok, hn, hpi hc.ok, ht, hp⟩
  have hE : PL.EOK (c, t, p) := ⟨hc, ht, hp⟩
  have hil := PL.imgS_len hI
  simp only at hil
  have ld := PL.dirsS_len hc.ok ht c.dirs.toNat (by omega)
  have lf := PL.filesS_len hc.ok ht c.files.toNat (by omega)
  have lo := PL.objsL_len hp.objs
  obtain ⟨pc, pn, pt, pb, po, pq, pcap, pqcap⟩ := hpi hc.ok
  simp only at pn pt pb po pq pcap pqcap
  have hol := hp.len
  have hql := hp.qlen
  obtain ⟨N, hN⟩ : ∃ N, PL.pagesI c * (c.page - 5) = N := ⟨_, rfl⟩
  simp only [hN] at f1 f2 f3 ⊢
  have eA : PL.nodsL (PL.sprV (t.nods, 1, 1, c.dirs, 36) t.nods.len.toNat) c.dirs.toNat = PL.dirsS t.nods c.dirs.toNat := PL.nods_dirs hc.ok hn ht _ (Nat.le_refl _)
  have eB : PL.nodsL (PL.sprV (t.nods, 2, 0, c.files, 40) t.nods.len.toNat) c.files.toNat = PL.filesS t.nods c.files.toNat := PL.nods_files hc.ok hn ht _ (Nat.le_refl _)
  refine ⟨by omega, by omega, (t.nods, 1, 1, c.dirs, 36), rfl, rfl, rfl, rfl, rfl, rfl, rfl, rfl, rfl, rfl, rfl, PL.sp_dirs hc.ok hn ht, ?_⟩
  refine ⟨(⟨[], N, False⟩, PL.sprV (t.nods, 1, 1, c.dirs, 36) t.nods.len.toNat), rfl, rfl, rfl, rfl, by simp, rfl, rfl, rfl, rfl, rfl, rfl, rfl, rfl, ?_, fun y1 h1 => ?_⟩
  · exact ⟨PL.sprV_rows _ (by simp only; omega) _, by simp only [PL.sprV]; omega, fun j hj => (PL.row_dirs hc.ok hn ht (by simpa [PL.sprV] using hj)).2, ⟨by simp only [List.length_nil]; omega, by simp⟩⟩
  have h1' : ((([] : List UInt8).length : Int)) + ((PL.nodsL (PL.sprV (t.nods, 1, 1, c.dirs, 36) t.nods.len.toNat) c.dirs.toNat).length : Int) ≤ y1 := h1.le
  rw [eA, List.length_nil, ld] at h1'
  refine ⟨(t.nods, 2, 0, c.files, 40), rfl, rfl, rfl, rfl, rfl, rfl, rfl, rfl, rfl, rfl, rfl, PL.sp_files hc.ok hn ht, ?_⟩
  have eA' : ([] : List UInt8).append (PL.nodsL (PL.sprV (t.nods, 1, 1, c.dirs, 36) t.nods.len.toNat) c.dirs.toNat) = PL.dirsS t.nods c.dirs.toNat := by rw [eA]; rfl
  refine ⟨(⟨PL.dirsS t.nods c.dirs.toNat, y1, False⟩, PL.sprV (t.nods, 2, 0, c.files, 40) t.nods.len.toNat), rfl, rfl, by rw [← eA']; rfl, rfl, Iff.rfl, rfl, by rw [← eA']; rfl, rfl, rfl, rfl, rfl, rfl, rfl, ?_, fun y2 h2 => ?_⟩
  · exact ⟨PL.sprV_rows _ (by simp only; omega) _, by simp only [PL.sprV]; omega, fun j hj => (PL.row_files hc.ok hn ht (by simpa [PL.sprV] using hj)).2, ⟨by simp only [ld]; omega, by simp only [ld]; omega⟩⟩
  have h2' : ((PL.dirsS t.nods c.dirs.toNat).length : Int) + ((PL.nodsL (PL.sprV (t.nods, 2, 0, c.files, 40) t.nods.len.toNat) c.files.toNat).length : Int) ≤ y2 := h2.le
  rw [eB, ld, lf] at h2'
  have eB' : (PL.dirsS t.nods c.dirs.toNat).append (PL.nodsL (PL.sprV (t.nods, 2, 0, c.files, 40) t.nods.len.toNat) c.files.toNat) = PL.dirsS t.nods c.dirs.toNat ++ PL.filesS t.nods c.files.toNat := by rw [eB]; rfl
  refine ⟨(⟨PL.dirsS t.nods c.dirs.toNat ++ PL.filesS t.nods c.files.toNat, y2, False⟩, p.objs), rfl, rfl, rfl, rfl, rfl, rfl, by rw [← eB']; rfl, rfl, Iff.rfl, rfl, by rw [← eB']; rfl, ?_, fun y3 h3 => ?_⟩
  · refine ⟨pn, pt, pb, po, by simp only; omega, fun j hj => ?_, ⟨by simp only [List.length_append, ld, lf]; omega, by simp only [List.length_append, ld, lf]; omega⟩⟩
    have := hp.objs.all j hj
    exact ⟨this.n, this.t, this.b, ⟨this.o.1, by have := this.o.2; simp only; omega⟩⟩
  have h3' : ((PL.dirsS t.nods c.dirs.toNat ++ PL.filesS t.nods c.files.toNat).length : Int) + 40 * p.objs.len ≤ y3 := h3.le
  rw [List.length_append, ld, lf] at h3'
  refine ⟨(⟨PL.dirsS t.nods c.dirs.toNat ++ PL.filesS t.nods c.files.toNat ++ PL.objsL p.objs p.objs.len.toNat, y3, False⟩, p.qlen, 4), rfl, rfl, rfl, rfl, Iff.rfl, rfl, rfl, ?_, fun y4 h4 => ?_⟩
  · exact ⟨⟨by simp only [List.length_append, ld, lf, lo]; omega, by simp only [List.length_append, ld, lf, lo]; omega⟩, by simp⟩
  have h4' : ((PL.dirsS t.nods c.dirs.toNat ++ PL.filesS t.nods c.files.toNat ++ PL.objsL p.objs p.objs.len.toNat).length : Int) + 4 ≤ y4 := h4.le
  simp only [List.length_append, ld, lf, lo] at h4'
  refine ⟨(⟨PL.dirsS t.nods c.dirs.toNat ++ PL.filesS t.nods c.files.toNat ++ PL.objsL p.objs p.objs.len.toNat ++ PL.big p.qlen 4, y4, False⟩, p.q, p.qlen, p.qcap), rfl, rfl, rfl, rfl, rfl, Iff.rfl, rfl, rfl, ?_, fun y5 h5 => ?_⟩
  · exact ⟨pq, by simp only; omega, ⟨by simp only [List.length_append, ld, lf, lo, PL.big_length]; omega, by simp only [List.length_append, ld, lf, lo, PL.big_length]; omega⟩⟩
  have h5' : ((PL.dirsS t.nods c.dirs.toNat ++ PL.filesS t.nods c.files.toNat ++ PL.objsL p.objs p.objs.len.toNat ++ PL.big p.qlen 4).length : Int) + 4 * p.qlen ≤ y5 := h5.le
  simp only [List.length_append, ld, lf, lo, PL.big_length] at h5'
  refine ⟨hc.ok, fun z2 hz2 z3 hz3 => ?_⟩
  rw [wrap_i64 (by omega) (by omega)] at hz2
  obtain ⟨L, hL⟩ : ∃ L, PL.dirsS t.nods c.dirs.toNat ++ PL.filesS t.nods c.files.toNat ++ PL.objsL p.objs p.objs.len.toNat ++ PL.big p.qlen 4 = L := ⟨_, rfl⟩
  have lL : (L.length : Int) = 36 * c.dirs + 40 * c.files + 40 * p.objs.len + 4 := by
    rw [← hL]
    simp only [List.length_append, ld, lf, lo, PL.big_length]
    omega
  have lq := PL.qS_len (q := p.q) p.qlen.toNat
  have hz3' : z3 = IntKind.i64.wrap (z2 - ((L ++ PL.qS p.q p.qlen.toNat).length : Int)) := by rw [← hL]; exact hz3
  rw [hz2, List.length_append, lq, wrap_i64 (by omega) (by omega)] at hz3'
  simp only [hL]
  have hlen : ((L ++ PL.qS p.q p.qlen.toNat).length : Int) = 36 * c.dirs + 40 * c.files + 40 * p.objs.len + 4 + 4 * p.qlen := by
    rw [List.length_append, lq]
    omega
  have hlenI : PL.lenI c = 36 * c.dirs + 40 * c.files + 44 * (c.files + c.slots) + 4 := rfl
  have h5'' : ((L ++ PL.qS p.q p.qlen.toNat).length : Int) ≤ y5 := by omega
  refine ⟨(⟨L ++ PL.qS p.q p.qlen.toNat, y5, False⟩, z3), rfl, rfl, rfl, Iff.rfl, rfl, rfl, ?_, fun y6 h6 => ⟨fun h => by omega, fun _ => ?_⟩⟩
  · exact ⟨⟨h5'', by simp only; omega⟩, by simp only; omega⟩
  have h6' : ((L ++ PL.qS p.q p.qlen.toNat).length : Int) + z3 ≤ y6 := h6.le
  have hfull : PL.fullS c t p = (L ++ PL.qS p.q p.qlen.toNat) ++ PL.zs z3.toNat := by
    have hm := PL.qS_more p.q (p.objs.len.toNat - p.q.length)
    rw [show p.q.length + (p.objs.len.toNat - p.q.length) = p.objs.len.toNat by omega, show p.q.length = p.qlen.toNat by omega] at hm
    have himg : PL.imgS c t p = (L ++ PL.qS p.q p.qlen.toNat) ++ PL.zs (4 * (p.objs.len.toNat - p.qlen.toNat)) := by
      rw [PL.imgS, hm, ← hL]
      simp only [List.append_assoc]
    rw [PL.fullS, hN, himg, List.append_assoc, PL.zs_add]
    congr 2
    rw [List.length_append, PL.zs, List.length_replicate]
    omega
  refine ⟨y6, [], 0, ⟨?_, hE, rfl, rfl⟩, ?_⟩
  · simp only [hfull, List.length_append, PL.zs, List.length_replicate] at h6' ⊢
    omega
  rw [hfull]
  and_intros <;> first | rfl | trivial
end Go.Eng

