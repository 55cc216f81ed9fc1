/- Index: Encode, all of it. -/
import Derived.Test.YtfcjboomlfjanaaDoorIxK
set_option linter.unusedVariables false
set_option linter.unusedSimpArgs false
/- Index: Encode, its pieces and its end. -/
namespace Go.PL
structure EncAt4 (x : Cfg × Tree × Pool) (L : List (List UInt8)) (d : Int) : Prop where
  le : (L.length : Int) ≤ d
noncomputable def pieceS (x : Cfg × Tree × Pool) (k : Nat) : List UInt8 := ((fullS x.1 x.2.1 x.2.2).drop (k * (x.1.page - 5).toNat)).take (x.1.page - 5).toNat
end Go.PL
set_option linter.unusedSectionVars false
set_option linter.unusedSimpArgs false
set_option linter.unusedVariables false
namespace Go.Eng
variable [CW : CWorld]
open Go.Proofs Go.RowKit
open Go.PL (Cfg CfgIn CfgOK CfgBad Img RImg Refs Nod Nods Tree Objs Pool Txts)
set_option maxRecDepth 100000
attribute [local irreducible] run
def blkBody : Code → Code
  | .block _ c => c
  | _ => .skip
def rfAsg : Code → Code
  | .rangeFunc _ _ a _ => a
  | _ => .skip
def rfBody : Code → Code
  | .rangeFunc _ _ _ b => b
  | _ => .skip
def regOps : Code → Array Oper
  | .region _ ops _ => ops
  | _ => #[]
noncomputable def encT : Code × Code := parts 13 (Tryd.f19.body.getD .skip)
noncomputable def encAsgOps : Array Oper := regOps (rfAsg (blkBody encT.1))
noncomputable def encOps : Array Oper := regOps (blkBody (rfBody (blkBody encT.1)))
theorem encT_eq : encT.1 = .block 0 (.rangeFunc (.tmp 80) #[81] (.region 18 encAsgOps false) (.block 1 (.region 19 encOps false))) := by kernel_rfl
theorem encAsg_eq : encAsgOps.toList = [⟨some 12, .assign (.tmp 81), 56, (encAsgOps.toList.head!).pos, (encAsgOps.toList.head!).after, none⟩] := by kernel_rfl
def encRFr (x : Cfg × Tree × Pool) (k : Nat) : List SV := frame 89 [(11, .ptr 0 (.l 0)), (12, .slc 3 (.x 0 1 ((k : Int) * (x.1.page - 5)) 0) (.x (x.1.page - 5)) (.x (x.1.page - 5)))]
noncomputable def encRK (x : Cfg × Tree × Pool) (c : Int) (k : Nat) (L : List (List UInt8)) (fr : List SV) (hp : List Blk) : Prop := ∃ (M : List (List UInt8)) (d : Int), PL.EncAt4 x M d ∧ M = L ++ [PL.pieceS x k] ∧ entails 0 (encFr x c) hp (encFr x c) (encHp x c M d)
def encr_vc (ar : AR) (x : encI.X) (c : Int) (k : Nat) (L : List (List UInt8)) (d : Int) : Prop :=
  ar.le 0 ((↑k : Int).mul (x.fst.page.sub 5)) ∧ ar.le (ar.add ((↑k : Int).mul (x.fst.page.sub 5)) (x.fst.page.sub 5)) (ar.ilen (PL.ints (PL.fullS x.fst x.snd.fst x.snd.snd))) ∧ ∀
  (t : List UInt8), t = ar.bytes (ar.isub (PL.ints (PL.fullS x.fst x.snd.fst x.snd.snd)) ((↑k : Int).mul (x.fst.page.sub 5)) (x.fst.page.sub 5)) → ar.le (ar.add 0 (↑L.length :
  Int)) (ar.tlen L) ∧ d = d ∧ ar.le (ar.mul (ar.add (↑L.length : Int) 1) 16) 140737488355328 ∧ ∀ (c_1 : Int), ar.le (ar.add (↑L.length : Int) 1) c_1 → ∃ (M : List (List UInt8)), ∃
  (d : Int), PL.EncAt4 x M d ∧ M = L.append [PL.pieceS x k] ∧ (↑(PL.fullS x.fst x.snd.fst x.snd.snd).length : Int) = (↑(PL.fullS x.fst x.snd.fst x.snd.snd).length : Int) ∧ c = c ∧
  ar.add (↑L.length : Int) 1 = (↑M.length : Int) ∧ c_1 = d ∧ (↑(PL.fullS x.fst x.snd.fst x.snd.snd).length : Int) = (↑(PL.fullS x.fst x.snd.fst x.snd.snd).length : Int) ∧ c = c ∧
  x.fst.page.sub 5 = x.fst.page.sub 5 ∧ c = c ∧ PL.ints (PL.fullS x.fst x.snd.fst x.snd.snd) = PL.ints (PL.fullS x.fst x.snd.fst x.snd.snd) ∧ c_1 = d ∧ ar.tapp (ar.tsub L 0
  (↑L.length : Int)) [t] = M ∧ True
theorem encr_eq (ar : AR) (x : encI.X) (c : Int) (k : Nat) (L : List (List UInt8)) (d : Int) : (runList ar PP xSpecs (fun _ _ _ _ => False) encOps.toList encOps.toList (encRFr x k) (encHp x c L d) (encRK x c k L)) = encr_vc ar x c k L d := by
  kernel_rfl
def ence_vc (ar : AR) (x : encI.X) (c : Int) (L : List (List UInt8)) (d : Int) : Prop :=
  ar.le 0 (↑L.length : Int) ∧ ar.le (↑L.length : Int) (↑L.length : Int) ∧ ar.le (↑L.length : Int) d ∧ ∃ (y : Int), PL.Enc4Post x y ∧ (↑L.length : Int) = (↑(PL.encL x).length : Int)
  ∧ (↑L.length : Int) = (↑(PL.encL x).length : Int) ∧ 0 = PL.encErr x ∧ d = y ∧ L = PL.encL x ∧ True
theorem ence_eq (ar : AR) (x : encI.X) (c : Int) (L : List (List UInt8)) (d : Int) : (run ar PP xSpecs noInv 1000 19 5 encT.2 (encFr x c) (encHp x c L d) (endCall ar PP Tryd.f19.results.toList (encI.fin x))) = ence_vc ar x c L d := by
  kernel_rfl
end Go.Eng
set_option linter.unusedSectionVars false
set_option linter.unusedSimpArgs false
set_option linter.unusedVariables false
namespace Go.Eng
variable [CW : CWorld]
open Go.Proofs Go.RowKit
open Go.PL (Cfg CfgIn CfgOK CfgBad Img RImg Refs Nod Nods Tree Objs Pool Txts)
set_option maxRecDepth 100000
attribute [local irreducible] run
theorem full_len {x : Cfg × Tree × Pool} (hi : PL.EIn x) (h : PL.EOK x) : ((PL.fullS x.1 x.2.1 x.2.2).length : Int) = PL.pagesI x.1 * (x.1.page - 5) := by
  obtain ⟨c, t, p⟩ := x
  have hI : PL.ImgIn (c, t, p) := ⟨h.cfg.ok, hi.nods, hi.pool h.cfg.ok, h.tree, h.pool⟩
  have h1 := PL.imgS_len hI
  obtain ⟨f1, f2, f3⟩ := PL.full_fits h.cfg
  simp only at h1 f1 f2 f3 ⊢
  simp only [PL.fullS, List.length_append, PL.zs, List.length_replicate]
  omega
theorem encr_holds (x : Cfg × Tree × Pool) (hi : PL.EIn x) (h : PL.EOK x) (c : Int) (k : Nat) (hk : (k : Int) < PL.pagesI x.1) (L : List (List UInt8)) (hL : (L.length : Int) < PL.pagesI x.1) (d : Int) : encr_vc ar0 x c k L d := by
  have hf := full_len hi h
  obtain ⟨c1, c2, c3, c4, c5, c6⟩ := h.cfg.ok
  have hp := h.cfg.pages
  have hr := PL.pages_range h.cfg
  unfold encr_vc
  simp only [ars, ars2, true_and, and_true]
  obtain ⟨b, hb⟩ : ∃ b : Nat, x.1.page - 5 = (b : Int) := ⟨(x.1.page - 5).toNat, by omega⟩
  have hkb : ((k : Int) + 1) * (b : Int) ≤ PL.pagesI x.1 * (b : Int) := Int.mul_le_mul_of_nonneg_right (by omega) (by omega)
  rw [Int.add_mul, Int.one_mul] at hkb
  have hk0 : 0 ≤ (k : Int) * (b : Int) := Int.mul_nonneg (by omega) (by omega)
  rw [hb] at hf ⊢
  simp only [PL.ints_length, hf]
  refine ⟨hk0, by omega, fun t ht => ⟨by omega, by omega, fun c1 hc1 => ⟨L ++ [PL.pieceS x k], c1, ⟨by simp only [List.length_append, List.length_singleton]; omega⟩, rfl, ?_⟩⟩⟩
  have hkn : ((k : Int) * (b : Int)).toNat = k * b := by rw [← Int.natCast_mul, Int.toNat_natCast]
  have ht' : t = PL.pieceS x k := by
    rw [ht, hkn, Int.toNat_natCast, PL.pieceS, hb, Int.toNat_natCast]
    show List.map (fun n : Int => UInt8.ofNat n.toNat) _ = _
    rw [← PL.ints_drop, ← PL.ints_take, PL.bytes_ints]
  have hz : (L.drop (Int.toNat 0)).take (Int.toNat (L.length : Int)) = L := by simp
  rw [ht', hz]
  and_intros <;> first | rfl | trivial | (simp only [List.length_append, List.length_singleton]; omega)
theorem ence_holds (x : Cfg × Tree × Pool) (h : PL.EOK x) (c : Int) (d : Int) (hd : ((PL.encL x).length : Int) ≤ d) : ence_vc ar0 x c (PL.encL x) d := by
  unfold ence_vc
  simp only [ars, ars2, true_and, and_true]
  exact ⟨by omega, Int.le_refl _, hd, d, ⟨hd⟩, by and_intros <;> first | rfl | trivial | exact (PL.encErr_ok h).symm⟩
theorem enc_load {x : Cfg × Tree × Pool} {c : Int} (hc0 : c ≠ 0) {L : List (List UInt8)} {d : Int} {w0 w : World} {ρ : List Nat} [DM : DMarks] {a : Act} (S : Since [] [] w0 ρ (encHp x c L d) w) (F : FrOK ρ (encFr x c) a) :
    ∃ Bs Bn b : Nat, ρ[3]? = some b ∧ a.eval (.tmp 80) = .func (.func 79) #[] #[.pointer (some ⟨Bs, 0, none⟩), .pointer (some ⟨Bn, 0, none⟩)] ∧
      a.eval (.tmp 78) = .slice (some ⟨b, 0, none⟩) (PL.fullS x.1 x.2.1 x.2.2).length c.toNat ∧
      w.cell? ⟨Bs, 0, none⟩ = some (.slice (some ⟨b, 0, none⟩) (PL.fullS x.1 x.2.1 x.2.2).length c.toNat) ∧ w.cell? ⟨Bn, 0, none⟩ = some (.int .i64 (x.1.page - 5)) ∧ Bs < w.heap.size ∧ Bn < w.heap.size := by
  have e80 := F.eval (.tmp 80)
  have e78 := F.eval (.tmp 78)
  have g80 : ev (encFr x c) (.tmp 80) = .fn 79 [.ptr 1 (.l 0), .ptr 2 (.l 0)] := rfl
  have g78 : ev (encFr x c) (.tmp 78) = .slc 3 (.l 0) (.x ((PL.fullS x.1 x.2.1 x.2.2).length : Int)) (.x c) := rfl
  rw [g80] at e80
  rw [g78] at e78
  simp only [Den, DenL, Off.val, Z.val] at e80 e78
  obtain ⟨vs, h80, v1, vs', rfl, ⟨Bs, hBs, rfl⟩, v2, vs2, rfl, ⟨Bn, hBn, rfl⟩, rfl⟩ := e80
  obtain ⟨a78, b, hb, h78, l0, l1, l2⟩ := e78
  obtain rfl := l2 hc0
  have rd := fun (n : Nat) (bb : Nat) (t : TypeId) (segs : List Seg) (h : (encHp x c L d)[n]? = some (.mk t segs)) (hb : ρ[n]? = some bb) => blk_read S.hok h hb
  obtain ⟨cs1, s1, r1⟩ := rd 1 Bs _ _ rfl hBs
  obtain ⟨cs2, s2, r2⟩ := rd 2 Bn _ _ rfl hBn
  simp only [SegsOK, Den, Off.val, Z.val] at s1 s2
  obtain ⟨u, cs', rfl, ⟨a1, b1, hb1, rfl, m0, m1, m2⟩, rfl⟩ := s1
  obtain ⟨u2, cs2', rfl, rfl, rfl⟩ := s2
  obtain rfl := m2 hc0
  rw [hb] at hb1
  cases hb1
  have same : Same ρ (encHp x c L d) w w := ⟨fun _ _ _ _ _ _ _ => rfl, S.hok.cst⟩
  exact ⟨Bs, Bn, b, hb, h80, by rw [h78]; simp, by have := r1 w same 0 _ rfl; simpa using this, r2 w same 0 _ rfl, S.hok.lt (i := 1) rfl (by simp [segsSize]) hBs, S.hok.lt (i := 2) rfl (by simp [segsSize]) hBn⟩
def encIv (x : Cfg × Tree × Pool) (c : Int) (w0 : World) (a : Act) (pre : List Nat) (W : World) : Prop :=
  ∃ (d : Int) (ρ : List Nat), ((pre.length : Int) ≤ d) ∧ Since [] [] w0 ρ (encHp x c (pre.map fun k => PL.pieceS x (k % (PL.pagesI x.1).toNat)) d) W ∧ DenL ρ (encFr x c) a.tmps.toList
theorem encIv_own (x : Cfg × Tree × Pool) (c : Int) (w0 : World) (a : Act) {B : Nat} (hB : w0.heap.size ≤ B) (hC : CW.w.heap.size ≤ B) : OwnFrom B (encIv x c w0 a) := by
  rintro pre W W' row ⟨d, ρ, h1, S, F⟩ hg hr
  exact ⟨d, ρ, h1, S.grown hg (fun r e => by obtain ⟨h2, h3⟩ := hr r e; exact ⟨by omega, by omega, h3⟩), F⟩
theorem zipset (t : Array Value) (v : Value) : ((#[81] : Array Nat).zip #[v]).foldl (fun t (p : Nat × Value) => t.setIfInBounds p.1 p.2) t = t.setIfInBounds 81 v := by
  simp [Array.zip]
theorem tmps_size {x : Cfg × Tree × Pool} {c : Int} {ρ : List Nat} {a : Act} (F : DenL ρ (encFr x c) a.tmps.toList) : a.tmps.size = 89 := by
  have := denL_length F
  rw [show (encFr x c).length = 89 from rfl] at this
  simpa using this
def encAct (a : Act) (b K β : Nat) (k : Nat) : Act := { tmps := (a.tmps.setIfInBounds 81 (.slice (some ⟨b, (k % K) * β, none⟩) β β)).setIfInBounds 12 (.slice (some ⟨b, (k % K) * β, none⟩) β β), defers := [] }
theorem denL_any {ρ : List Nat} : ∀ {l : List SV} {vs : List Value} (i : Nat), DenL ρ l vs → DenL ρ (l.set i .any) vs
  | [], vs, i, h => h
  | a :: l, vs, 0, h => by
    simp only [DenL] at h
    obtain ⟨v, vs', rfl, _, hl⟩ := h
    exact ⟨v, vs', rfl, trivial, hl⟩
  | a :: l, vs, i + 1, h => by
    simp only [DenL] at h
    obtain ⟨v, vs', rfl, hv, hl⟩ := h
    exact ⟨v, vs', rfl, hv, denL_any i hl⟩
theorem own_cells {ρ : List Nat} {hp : List Blk} {w : World} (H : HOK ρ hp w) {k : Nat} {o : Obj} (hk : w.heap[k]? = some o) (ho : o.isCells = false) : ¬ Own ρ hp k := by
  rintro ⟨i, b, hi, hb, hn⟩
  have h := H.ok i k b hi hn
  cases b with
  | gone => exact hb
  | mk t s =>
    obtain ⟨cs, fz, h1, h2⟩ := h
    have hsz := segsOK_size h2
    have hne : cs.size ≠ 0 := by
      intro h0
      have : cs.toList.length = 0 := by simpa using h0
      exact hb (by rw [← hsz]; exact this)
    obtain ⟨e, _⟩ := h1 hne
    rw [hk] at e
    cases e
    cases ho
theorem enc_ops : ∀ o ∈ encOps.toList, ∀ c, o.op ≠ .defer c := by
  have h : (encOps.toList.all fun o => match o.op with | .defer _ => false | _ => true) = true := by kernel_rfl
  intro o ho c hc
  have := List.all_eq_true.1 h o ho
  rw [hc] at this
  cases this
theorem enc_round {x : Cfg × Tree × Pool} (hi : PL.EIn x) (h : PL.EOK x) {c : Int} (hc0 : c ≠ 0) {w0 W : World} {a : Act} {Bs Bn b : Nat} {N cc : Nat} {β : Nat} (hβ : x.1.page - 5 = (β : Int))
    (h80 : a.eval (.tmp 80) = .func (.func 79) #[] #[.pointer (some ⟨Bs, 0, none⟩), .pointer (some ⟨Bn, 0, none⟩)]) (h78 : a.eval (.tmp 78) = .slice (some ⟨b, 0, none⟩) N cc)
    (B n l : Nat) (Ix : Code → List Nat → World → Prop) (pre : List Nat) (k : Nat) (hI : encIv x c w0 a pre W) (hlen : pre.length < (PL.pagesI x.1).toNat) :
    (Code.block 1 (.region 19 encOps false)).wpIn (Fence.wide.inRound l) n PP (ownPostG B (KeepC Bs Bn) (encIv x c w0 a) Ix (pre ++ [k]) W) (encAct a b (PL.pagesI x.1).toNat β k) W := by
  letI DM : DMarks := ⟨a.defers⟩
  obtain ⟨d, ρ, hd, S, F⟩ := hI
  have F0 : FrOK ρ (encFr x c) a := ⟨F, rfl⟩
  obtain ⟨Bs1, Bn1, b1, hb1, g80, g78, g1, g2, _, _⟩ := enc_load hc0 S F0
  rw [h80] at g80
  rw [h78] at g78
  injection g80 with _ _ g80
  simp only [Array.mk.injEq, List.cons.injEq, Value.pointer.injEq, Option.some.injEq, Addr.mk.injEq, and_true] at g80
  obtain ⟨rfl, rfl⟩ := g80
  simp only [Value.slice.injEq, Option.some.injEq, Addr.mk.injEq, and_true] at g78
  obtain ⟨rfl, _, _⟩ := g78
  have hkk : k % (PL.pagesI x.1).toNat < (PL.pagesI x.1).toNat := Nat.mod_lt _ (by omega)
  generalize hK : k % (PL.pagesI x.1).toNat = kk at hkk
  refine wpIn_block ?_
  letI DM0 : DMarks := ⟨[]⟩
  have F1 : @FrOK CW DM0 ρ (encRFr x kk) (encAct a b (PL.pagesI x.1).toNat β k) := by
    refine @FrOK.mk CW DM0 _ _ _ ?_ rfl
    have hsl : Den ρ (.slc 3 (.x 0 1 ((kk : Int) * (x.1.page - 5)) 0) (.x (x.1.page - 5)) (.x (x.1.page - 5))) (.slice (some ⟨b, kk * β, none⟩) β β) := by
      simp only [Den, Off.val, Z.val, hβ]
      refine ⟨some ⟨b, kk * β, none⟩, b, hb1, by simp, by omega, Int.le_refl _, fun _ => ?_⟩
      have : ((kk : Int) * (β : Int)).toNat = kk * β := by rw [← Int.natCast_mul, Int.toNat_natCast]
      rw [this]
      simp
    have D1 := denL_set 81 (a := SV.any) (v := .slice (some ⟨b, kk * β, none⟩) β β) F trivial
    have D2 := denL_set 12 D1 hsl
    have D3 := denL_any 80 (denL_any 78 D2)
    simp only [encAct, hK, Array.toList_setIfInBounds]
    exact D3
  refine @round_region CW PP xSpecs xSpecs_ok n l 19 encOps _ (fun ⟨_, _, h⟩ => h.elim) enc_ops ρ (encHp x c (pre.map fun k => PL.pieceS x (k % (PL.pagesI x.1).toNat)) d) W (encRK x c kk (pre.map fun k => PL.pieceS x (k % (PL.pagesI x.1).toNat))) ρ W (encRFr x kk) _ _ DM0 ?_ (Since.refl S.hok) F1
    ((encr_eq ar0 x c kk _ d).mpr (encr_holds x hi h c kk (by omega) _ (by rw [List.length_map]; omega) d))
  intro ρ' w' fr hp a' S' F' hk
  obtain ⟨M, d', hd', rfl, hent⟩ := hk
  have F2 : @FrOK CW DM ρ' (encFr x c) a := @FrOK.mono CW DM _ _ _ F0 _ S'.old
  obtain ⟨ρt, S3, F3⟩ := @entails_sound CW DM _ _ _ _ _ _ _ _ _ _ (S.trans S') F2 hent
  obtain ⟨Bs2, Bn2, b2, hb2, k80, k78, k1, k2, _, _⟩ := @enc_load CW x c hc0 _ _ _ _ _ DM _ S3 F3
  rw [h80] at k80
  rw [h78] at k78
  injection k80 with _ _ k80
  simp only [Array.mk.injEq, List.cons.injEq, Value.pointer.injEq, Option.some.injEq, Addr.mk.injEq, and_true] at k80
  obtain ⟨rfl, rfl⟩ := k80
  simp only [Value.slice.injEq, Option.some.injEq, Addr.mk.injEq, and_true] at k78
  obtain ⟨rfl, _, _⟩ := k78
  refine ⟨⟨S'.size, fun i o _ hi' ho => ?_⟩, ⟨k1.trans g1.symm, k2.trans g2.symm⟩, d', ρt, ?_, ?_, @FrOK.den CW DM _ _ _ F3⟩
  · rw [S'.frame i (Array.getElem?_eq_some_iff.1 hi').1 (own_cells S.hok hi' ho)]
    exact hi'
  · have := hd'.le
    simpa using this
  · simpa [hK] using S3
theorem enc_loop {x : Cfg × Tree × Pool} (hi : PL.EIn x) (h : PL.EOK x) {c : Int} (hc : ((PL.fullS x.1 x.2.1 x.2.2).length : Int) ≤ c) {w0 w : World} {ρ : List Nat} {a : Act} (S : Since [] [] w0 ρ (encHp x c [] 0) w) (F : DenL ρ (encFr x c) a.tmps.toList)
    {Q : Exit → Act → World → Prop} (hdone : ∀ (D : Nat) (W : World) (d : Int) (ρ : List Nat), w.heap.size ≤ D → ((PL.encL x).length : Int) ≤ d → Since [] [] w0 ρ (encHp x c (PL.encL x) d) W → DenL ρ (encFr x c) a.tmps.toList → W.heap[D]? = some (.deferred (some [])) →
      Q .normal { a with defers := { target := .collected D, args := #[] } :: a.defers } W) : encT.1.wp PP Q a w := by
  letI DM : DMarks := ⟨a.defers⟩
  have hf := full_len hi h
  obtain ⟨c1, c2, c3, c4, c5, c6⟩ := h.cfg.ok
  obtain ⟨f1, f2, f3⟩ := PL.full_fits h.cfg
  have hr := PL.pages_range h.cfg
  obtain ⟨β, hβ⟩ : ∃ β : Nat, x.1.page - 5 = (β : Int) := ⟨(x.1.page - 5).toNat, by omega⟩
  have hT : (PL.fullS x.1 x.2.1 x.2.2).length = (PL.pagesI x.1).toNat * β := by
    have : ((PL.pagesI x.1).toNat : Int) = PL.pagesI x.1 := Int.toNat_of_nonneg (by omega)
    have h2 : (((PL.fullS x.1 x.2.1 x.2.2).length : Nat) : Int) = (((PL.pagesI x.1).toNat * β : Nat) : Int) := by rw [hf, hβ, Int.natCast_mul, this]
    exact Int.ofNat.inj h2
  have hpos : 1 ≤ PL.pagesI x.1 * (x.1.page - 5) := by
    have : 1 * (x.1.page - 5) ≤ PL.pagesI x.1 * (x.1.page - 5) := Int.mul_le_mul_of_nonneg_right (by omega) (by omega)
    omega
  have hc0 : c ≠ 0 := by omega
  have F0 : FrOK ρ (encFr x c) a := ⟨F, rfl⟩
  obtain ⟨Bs, Bn, b, hb, g80, g78, g1, g2, lt1, lt2⟩ := enc_load hc0 S F0
  rw [encT_eq]
  refine (wpIn_wide (n := 3)).1 (wpIn_block ?_)
  refine wpIn_rangeFunc_ownG rfl (by decide) (gf := 79) (lb := #[.pointer (some ⟨Bs, 0, none⟩), .pointer (some ⟨Bn, 0, none⟩)]) g80 trivial (enters_of Tryd.func79 (by kernel_rfl) rfl)
    (chunk_stops 2 (by decide) Bs Bn b (PL.pagesI x.1).toNat β (PL.fullS x.1 x.2.1 x.2.2).length c.toNat (by omega) hT (by omega) (by omega) w lt1 lt2 g1 (by rw [g2, hβ]))
    (fun h k => ⟨k.1.trans h.1, k.2.trans h.2⟩) (fun W l o o' hle _ _ _ => ?_) (Below.refl _ _) (fun _ => rfl) (encIv x c w0 a) (fun _ _ _ => False) (encIv_own x c w0 a S.size S.hok.cst.le) (fun _ _ _ _ _ hs _ _ => hs)
    ⟨0, ρ, by simp, by simpa using S, F⟩ (encAct a b (PL.pagesI x.1).toNat β) ?assign ?body ?done ?stop
  · exact ⟨World.cell?_of_block (World.putObj_heap_other (by simp only; omega)), World.cell?_of_block (World.putObj_heap_other (by simp only; omega))⟩
  case assign =>
    intro l k W K hK
    refine wpIn_region_list ?_
    rw [encAsg_eq, zipset]
    simp only [wpListIn, Region.wanted, if_true]
    refine ⟨fun _ _ => trivial, ?_⟩
    have hsz := tmps_size F
    have : ({ tmps := a.tmps.setIfInBounds 81 (.slice (some ⟨b, (k % (PL.pagesI x.1).toNat) * β, none⟩) β β), defers := [] } : Act).eval (.tmp 81) = .slice (some ⟨b, (k % (PL.pagesI x.1).toNat) * β, none⟩) β β := by
      simp [Act.eval, hsz]
    show Exit.then K (fun _ _ _ => False) .normal ((({ tmps := a.tmps.setIfInBounds 81 (.slice (some ⟨b, (k % (PL.pagesI x.1).toNat) * β, none⟩) β β), defers := [] } : Act)).put (some 12) (({ tmps := a.tmps.setIfInBounds 81 (.slice (some ⟨b, (k % (PL.pagesI x.1).toNat) * β, none⟩) β β), defers := [] } : Act).eval (.tmp 81))) W
    rw [this]
    exact hK
  case body =>
    intro l pre k W hI hlen
    exact enc_round hi h hc0 hβ g80 g78 w.heap.size (3 - 1 - 1) l _ pre k hI hlen
  case done =>
    rintro D xs W hD rfl ⟨d, ρ', hd, S', F'⟩ hk
    have e : (List.range (PL.pagesI x.1).toNat).map (fun k => PL.pieceS x (k % (PL.pagesI x.1).toNat)) = PL.encL x := by
      rw [PL.encL_ok h, PL.pieces]
      refine List.map_congr_left fun k hk => ?_
      rw [Nat.mod_eq_of_lt (List.mem_range.1 hk), PL.pieceS]
    rw [e] at S'
    refine hdone D W d ρ' hD ?_ S' F' hk
    rw [← e]
    simpa using hd
  case stop =>
    rintro D c' pre W _ _ hs _
    exact hs.elim
theorem encI_ok : encI.OK PP 19 := by
  refine ⟨⟨Tryd.f19, by kernel_rfl, by kernel_rfl, by kernel_rfl⟩, fun x hx ρ w vs hd H => ?_⟩
  have hx : PL.EIn x := hx
  obtain rfl : ρ = [] := by
    have := H.len
    exact List.length_eq_zero_iff.1 this
  refine (callsIn_wide (n := 3)).1 (callsIn_of_wp_marks (fn := Tryd.f19) (c := Tryd.f19.body.getD .skip) Tryd.func19 (by kernel_rfl) trivial ((wpIn_wide (n := 3)).2 ?_) rfl)
  generalize hR : (fun (e : Ending) (w' : World) => ∃ (o : Out encI.X) (v : Value) (y : o.Y x) (ρ' : List Nat), o ∈ encI.outs ∧ e = .returned v ∧ o.post x y ∧ Den ρ' (o.R x y) v ∧ Since [] (encI.H x) w ρ' (o.H' x y) w') = R
  refine Code.wp_mono (Q := fun e a w => match e with
    | .panic _ => False
    | e => bodyPostM Fence.wide 3 PP Tryd.f19 R e a w) (fun e a w h => by cases e <;> first | exact h | exact h.elim) ?_
  have fin : ∀ [DM : DMarks] (ρ : List Nat) (w1 : World) (fr : List SV) (hp : List Blk) (a : Act), Since [] [] w ρ hp w1 → FrOK ρ fr a → endCall ar0 PP Tryd.f19.results.toList (encI.fin x) .ret fr hp →
      ∃ v, (results Tryd.f19 a.tmps).run PP w1 = .ok v w1 ∧ R (.returned v) w1 := by
    intro DM ρ w1 fr hp a S F hk
    simp only [endCall] at hk
    split at hk
    · rename_i l vc hr
      obtain ⟨v, h1, o, y, ρ', h2, h3, h4, h5⟩ := fin_results (S := encI) (x := x) (fn := Tryd.f19) (ρ0 := []) rfl S F hr hk
      exact ⟨v, h1, by rw [← hR]; exact ⟨o, v, y, ρ', h2, rfl, h3, h4, h5⟩⟩
    · exact hk.elim
  letI DM0 : DMarks := ⟨[]⟩
  have hlen := denL_length hd
  have F0 : FrOK [] (encI.A x ++ List.replicate (Tryd.f19.ntmps - (encI.A x).length) .any) { tmps := vs.toArray ++ Array.replicate (Tryd.f19.ntmps - vs.toArray.size) undef, defers := [] } := by
    refine ⟨?_, rfl⟩
    have hrep : ∀ n, DenL [] (List.replicate n .any) (List.replicate n undef) := fun n => by
      induction n with
      | zero => rfl
      | succ n ih => exact ⟨undef, _, rfl, trivial, ih⟩
    have := denL_append hd (hrep (Tryd.f19.ntmps - (encI.A x).length))
    simpa [hlen] using this
  refine runTo_sound (DM := DM0) xSpecs_ok (inv := noInv) (f := 19) (ρ0 := []) (hp0 := []) (w0 := w) (Kt := encKt x) (K := endCall ar0 PP Tryd.f19.results.toList (encI.fin x)) (fun c a w h => h) (t1 := encT.1) (t2 := encT.2)
    (fun e ρ w1 fr hp a hne S F hk => ?_) (fun ρ w1 fr hp a S F hk => ?_) 1000 13 _ rfl [] w _ _ _ (Since.refl H) F0 ((enct_eq ar0 x).mpr (enct_holds x hx))
  · cases e with
    | normal => exact absurd rfl hne
    | ret =>
      obtain ⟨v, h1, h2⟩ := fin ρ w1 fr hp a S F hk
      have hdf : a.defers = [] := F.defers
      show LeavesInM Fence.wide 3 PP Tryd.f19 a.tmps R a.defers .returning w1
      rw [hdf]
      exact ⟨v, h1, h2⟩
    | _ => exact hk.elim
  · obtain ⟨c, L, d, hE, hent⟩ := hk
    obtain ⟨ρ1, S1, F1⟩ := entails_sound (ρ0 := []) S F hent
    obtain ⟨hle, hok, rfl, rfl⟩ := hE
    refine enc_loop hx hok hle S1 F1.den fun D W d ρ2 hD hd2 S2 F2 hk2 => ?_
    have hdf : a.defers = [] := F.defers
    rw [hdf]
    letI DM1 : DMarks := ⟨[{ target := .collected D, args := #[] }]⟩
    have F3 : @FrOK CW DM1 ρ2 (encFr x c) { a with defers := [{ target := .collected D, args := #[] }] } := ⟨F2, rfl⟩
    have hl5 : ρ2.length = 5 := S2.hok.len
    show encT.2.wp PP _ _ W
    refine run_sound xSpecs_ok 1000 DM1 19 ρ2 (encHp x c (PL.encL x) d) W encT.2 _ (endCall ar0 PP Tryd.f19.results.toList (encI.fin x)) (fun c a w h => h) (fun e ρ3 w3 fr3 hp3 a3 S3 F4 hk3 => ?_) ρ2 W _ _ _ (Since.refl S2.hok) F3
      (by rw [hl5]; exact (ence_eq ar0 x c (PL.encL x) d).mpr (ence_holds x hok c d hd2))
    have S4 := S2.trans S3
    have key : ∀ v, (results Tryd.f19 a3.tmps).run PP w3 = .ok v w3 → R (.returned v) w3 → True := fun _ _ _ => trivial
    have hDW : D < W.heap.size := (Array.getElem?_eq_some_iff.1 hk2).1
    have hk4 : w3.heap[D]? = some (.deferred (some [])) := by rw [S3.frame D hDW (own_cells S2.hok hk2 rfl)]; exact hk2
    have hg : w3.grownBy (w3.putObj D (.deferred none)) (some D) := grownBy_putObj' w3 D _
    have S5 : Since [] [] w ρ3 hp3 (w3.putObj D (.deferred none)) := S4.grown hg (fun r e => by
      cases e
      exact ⟨Nat.le_trans S1.size hD, Nat.le_trans S1.hok.cst.le hD, _, hk4, rfl⟩)
    cases e with
    | ret =>
      obtain ⟨v, h1, h2⟩ := @fin DM1 ρ3 (w3.putObj D (.deferred none)) fr3 hp3 a3 S5 F4 hk3
      have hdf3 : a3.defers = [{ target := .collected D, args := #[] }] := F4.defers
      show LeavesInM Fence.wide 3 PP Tryd.f19 a3.tmps R a3.defers .returning w3
      rw [hdf3]
      exact ⟨by simp, .inl ⟨D, _, rfl, run_takeDeferred hk4, v, h1, h2⟩⟩
    | normal =>
      obtain ⟨v, h1, h2⟩ := @fin DM1 ρ3 (w3.putObj D (.deferred none)) fr3 hp3 a3 S5 F4 hk3
      have hdf3 : a3.defers = [{ target := .collected D, args := #[] }] := F4.defers
      show LeavesInM Fence.wide 3 PP Tryd.f19 a3.tmps R a3.defers .returning w3
      rw [hdf3]
      exact ⟨by simp, .inl ⟨D, _, rfl, run_takeDeferred hk4, v, h1, h2⟩⟩
    | _ => exact hk3.elim
end Go.Eng

