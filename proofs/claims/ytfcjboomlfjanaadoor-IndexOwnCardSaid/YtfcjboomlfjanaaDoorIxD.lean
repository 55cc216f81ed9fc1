/- Index: SameTree, SamePool, and what is handed in. -/
import Derived.Test.YtfcjboomlfjanaaDoorIxC
set_option linter.unusedVariables false
set_option linter.unusedSimpArgs false
/- Index: putEach of objects and of queued numbers. -/
namespace Go.PL
structure EOIn (x : Img × Objs) : Prop where
  n : (x.2.N.length : Int) = x.2.len
  t : (x.2.T.length : Int) = x.2.len
  b : (x.2.B.length : Int) = x.2.len
  o : (x.2.O.length : Int) = x.2.len
  le : x.2.len ≤ 1000000
  ok : ∀ j, j < x.2.len.toNat → (x.2.N.getD j []).length = 16 ∧ (x.2.T.getD j []).length = 16 ∧ (0 ≤ x.2.B.getD j 0 ∧ x.2.B.getD j 0 ≤ 1048576) ∧ (-1 ≤ x.2.O.getD j 0 ∧ x.2.O.getD j 0 ≤ 1000000)
  img : ImgOK x.1 1000000000
structure EOAt (x : Img × Objs) (i : Nat × Int) : Prop where
  le : (i.1 : Int) ≤ x.2.len
  cap : (x.1.l.length + 40 * i.1 : Int) ≤ i.2
structure EQIn (x : Img × List Int × Int × Int) : Prop where
  n : (x.2.1.length : Int) = x.2.2.1
  le : x.2.2.1 ≤ 1000000
  img : ImgOK x.1 1000000000
structure EQAt (x : Img × List Int × Int × Int) (i : Nat × Int) : Prop where
  le : (i.1 : Int) ≤ x.2.2.1
  cap : (x.1.l.length + 4 * i.1 : Int) ≤ i.2
theorem objsL_len' {x : Objs} : ∀ {k : Nat}, (∀ j, j < k → (x.N.getD j []).length = 16 ∧ (x.T.getD j []).length = 16) → (objsL x k).length = 40 * k
  | 0, _ => rfl
  | k + 1, h => by
    have h1 := h k (by omega)
    rw [objsL, List.length_append, objsL_len' (k := k) fun j hj => h j (by omega)]
    simp only [objS, List.length_append, h1.1, h1.2, big_length]
    omega
end Go.PL
set_option linter.unusedSectionVars false
set_option linter.unusedSimpArgs false
set_option linter.unusedVariables false
namespace Go.Eng
variable [CW : CWorld]
open Go.Proofs
open Go.PL (Cfg CfgIn CfgOK CfgBad Img RImg Refs Nod Nods Tree Objs Pool Txts)
set_option maxRecDepth 100000
attribute [local irreducible] run
def eobjSpec : Spec where
  X := Img × Objs
  A x := [.ptr 0 (.l 0), objsS x.2, .fn 50 []]
  H x := imgH x.1
  pre x := PL.EOIn x
  outs := [{ Y _ := Int, post x c := PL.CapOK (x.1.l.length + 40 * x.2.len) c, R _ _ := .tup [], H' x c := imgH' x.1 (x.1.l ++ PL.objsL x.2 x.2.len.toNat) c }]
def eobjInv (x : Img × Objs) : Code → List SV → List Blk → List Inv := fun b fr hp => [
  { ι := Nat × Int, fr := fun i => upd (havoc b fr) [(10, .int .i64 (.x (i.1 : Int)))], hp := fun i => imgH' x.1 (x.1.l ++ PL.objsL x.2 i.1) i.2, μ := fun i => x.2.len.toNat - i.1, ok := fun i => PL.EOAt x i }]
def eobjInvs (x : Img × Objs) : Invs := fun f n => match f, n with
  | 49, 1 => some (eobjInv x)
  | _, _ => none
noncomputable def poSpecs : Specs := fun f xs hp => match f with
  | 50 => some pobjSpec
  | 53 => some pqSpec
  | _ => noSpec f xs hp
theorem poSpecs_ok : SpecsOK PP poSpecs := by
  intro CW f xs hp S h
  unfold poSpecs at h
  split at h
  · cases h; exact pobjSpec_ok
  · cases h; exact pqSpec_ok
  · exact noSpec_ok CW f xs hp S h
def eobj_vc (ar : AR) (x : eobjSpec.X) : Prop :=
  (∃ (i : Nat × Int), PL.EOAt x i ∧ x.snd.N = x.snd.N ∧ x.snd.T = x.snd.T ∧ x.snd.B = x.snd.B ∧ x.snd.O = x.snd.O ∧ x.snd.len = x.snd.len ∧ x.snd.cap = x.snd.cap ∧ x.snd.N =
  x.snd.N ∧ x.snd.T = x.snd.T ∧ x.snd.B = x.snd.B ∧ x.snd.O = x.snd.O ∧ x.snd.len = x.snd.len ∧ x.snd.cap = x.snd.cap ∧ x.snd.len = x.snd.len ∧ 0 = (↑i.fst : Int) ∧
  (↑x.fst.l.length : Int) = (↑(x.fst.l.append (PL.objsL x.snd i.fst)).length : Int) ∧ x.fst.cap = i.snd ∧ (x.fst.bad ↔ x.fst.bad) ∧ x.fst.cap = i.snd ∧ PL.ints x.fst.l = PL.ints
  (x.fst.l.append (PL.objsL x.snd i.fst)) ∧ True) ∧ ∀ (i : Nat × Int), PL.EOAt x i → (ar.lt (↑i.fst : Int) x.snd.len → ar.le 0 (↑i.fst : Int) ∧ ar.lt (↑i.fst : Int) x.snd.len ∧ ∃
  (x_1 : Img × List UInt8 × List UInt8 × Int × Int), ar.tget x.snd.N (↑i.fst : Int) = x_1.2.fst ∧ ar.tget x.snd.T (↑i.fst : Int) = x_1.snd.snd.fst ∧ ar.iget x.snd.B (↑i.fst : Int)
  = x_1.snd.snd.snd.fst ∧ ar.iget x.snd.O (↑i.fst : Int) = x_1.snd.snd.snd.snd ∧ (↑(x.fst.l.append (PL.objsL x.snd i.fst)).length : Int) = (↑x_1.1.l.length : Int) ∧ i.snd =
  x_1.1.cap ∧ (x.fst.bad ↔ x_1.1.3) ∧ i.snd = x_1.1.cap ∧ PL.ints (x.fst.l.append (PL.objsL x.snd i.fst)) = PL.ints x_1.1.l ∧ PL.PObjIn x_1 ∧ ∀ (y : Int), PL.CapOK
  ((↑x_1.1.l.length : Int).add (((↑x_1.2.fst.length : Int).add (↑x_1.snd.snd.fst.length : Int)).add 8)) y → ∀ (z : Int), z = ar.wrap IntKind.i64 (ar.add (↑i.fst : Int) 1) → ∃ (j :
  Nat × Int), PL.EOAt x j ∧ (x.snd.len.toNat.sub j.fst).lt (x.snd.len.toNat.sub i.fst) ∧ x.snd.N = x.snd.N ∧ x.snd.T = x.snd.T ∧ x.snd.B = x.snd.B ∧ x.snd.O = x.snd.O ∧ x.snd.len =
  x.snd.len ∧ x.snd.cap = x.snd.cap ∧ x.snd.N = x.snd.N ∧ x.snd.T = x.snd.T ∧ x.snd.B = x.snd.B ∧ x.snd.O = x.snd.O ∧ x.snd.len = x.snd.len ∧ x.snd.cap = x.snd.cap ∧ x.snd.len =
  x.snd.len ∧ z = (↑j.fst : Int) ∧ (↑(x_1.1.l.append (x_1.2.fst.append (x_1.snd.snd.fst.append ((PL.big x_1.snd.snd.snd.fst 4).append (PL.big (x_1.snd.snd.snd.snd.add 1)
  4))))).length : Int) = (↑(x.fst.l.append (PL.objsL x.snd j.fst)).length : Int) ∧ y = j.snd ∧ (x_1.1.3 ↔ x.fst.bad) ∧ y = j.snd ∧ PL.ints (x_1.1.l.append (x_1.2.fst.append
  (x_1.snd.snd.fst.append ((PL.big x_1.snd.snd.snd.fst 4).append (PL.big (x_1.snd.snd.snd.snd.add 1) 4))))) = PL.ints (x.fst.l.append (PL.objsL x.snd j.fst)) ∧ True) ∧ (¬ar.lt
  (↑i.fst : Int) x.snd.len → ∃ (y : Int), PL.CapOK ((↑x.fst.l.length : Int).add (Int.mul 40 x.snd.len)) y ∧ (↑(x.fst.l.append (PL.objsL x.snd i.fst)).length : Int) =
  (↑(x.fst.l.append (PL.objsL x.snd x.snd.len.toNat)).length : Int) ∧ i.snd = y ∧ (x.fst.bad ↔ x.fst.bad) ∧ i.snd = y ∧ PL.ints (x.fst.l.append (PL.objsL x.snd i.fst)) = PL.ints
  (x.fst.l.append (PL.objsL x.snd x.snd.len.toNat)) ∧ True)
theorem eobj_eq (ar : AR) (x : eobjSpec.X) : (run ar PP poSpecs (eobjInvs x) 1000 49 (eobjSpec.H x).length (Tryd.f49.body.getD .skip) (eobjSpec.A x ++ List.replicate (Tryd.f49.ntmps - (eobjSpec.A x).length) .any) (eobjSpec.H x) (endCall ar PP Tryd.f49.results.toList (eobjSpec.fin x))) = eobj_vc ar x := by
  kernel_rfl
theorem eobj_of (h : ∀ x, eobjSpec.pre x → eobj_vc ar0 x) : eobjSpec.OK PP 49 :=
  Spec.ok_of_run (fn := Tryd.f49) (c := Tryd.f49.body.getD .skip) (by kernel_rfl) (by kernel_rfl) (by kernel_rfl) poSpecs_ok eobjInvs 1000 (fun x hx => (eobj_eq ar0 x).mpr (h x hx))
theorem eobjSpec_ok : eobjSpec.OK PP 49 := by
  refine eobj_of fun x hx => ?_
  obtain ⟨m, r⟩ := x
  have hx : PL.EOIn (m, r) := hx
  unfold eobj_vc
  simp only [ars, ars2, true_and, and_true, exists_const]
  obtain ⟨h1, h2, h3, h4, hle, hok, hc, hr⟩ := hx
  simp only at h1 h2 h3 h4 hle hok hc hr
  refine ⟨⟨(0, m.cap), ⟨by simp only; omega, by simp only; omega⟩, rfl, by simp only [PL.objsL, List.append_nil], rfl, rfl, by simp only [PL.objsL, List.append_nil]⟩, ?_⟩
  rintro ⟨k, cp⟩ ⟨hk, hcp⟩
  simp only at hk hcp
  have hl := PL.objsL_len' (x := r) (k := k) fun j hj => ⟨(hok j (by omega)).1, (hok j (by omega)).2.1⟩
  simp only [List.length_append, hl, Int.toNat_natCast]
  refine ⟨fun hlt => ⟨by omega, hlt, ?_⟩, fun hge => ?_⟩
  · obtain ⟨o1, o2, o3, o4⟩ := hok k (by omega)
    refine ⟨(⟨m.l ++ PL.objsL r k, cp, m.bad⟩, r.N.getD k [], r.T.getD k [], r.B.getD k 0, r.O.getD k 0), rfl, rfl, rfl, rfl, by simp only [List.length_append, hl], rfl, Iff.rfl, rfl, rfl, ⟨⟨by simp only [List.length_append, hl]; omega, by simp only [List.length_append, hl]; omega⟩, by simp only; omega, by simp only; omega, o3, o4⟩, fun y hy z hz => ?_⟩
    have hy' := hy.le
    simp only [List.length_append, hl, o1, o2] at hy'
    rw [wrap_i64 (by omega) (by omega)] at hz
    have hs : PL.objsL r (k + 1) = PL.objsL r k ++ (r.N.getD k [] ++ (r.T.getD k [] ++ (PL.big (r.B.getD k 0) 4 ++ PL.big (r.O.getD k 0 + 1) 4))) := rfl
    refine ⟨(k + 1, y), ⟨by simp only; omega, by simp only; omega⟩, by simp only; omega, by simp only; omega, by simp only [hs, List.length_append]; omega, rfl, Iff.rfl, rfl, by simp only [hs, List.append_assoc]⟩
  · obtain rfl : k = r.len.toNat := by omega
    exact ⟨cp, ⟨by omega⟩, by rw [hl], rfl, rfl, rfl⟩
def equeSpec : Spec where
  X := Img × List Int × Int × Int
  A x := [.ptr 0 (.l 0), .cs [.ints .i64 x.2.1] (.x x.2.2.1) (.x x.2.2.2), .fn 53 []]
  H x := imgH x.1
  pre x := PL.EQIn x
  outs := [{ Y _ := Int, post x c := PL.CapOK (x.1.l.length + 4 * x.2.2.1) c, R _ _ := .tup [], H' x c := imgH' x.1 (x.1.l ++ PL.qS x.2.1 x.2.2.1.toNat) c }]
def equeInv (x : Img × List Int × Int × Int) : Code → List SV → List Blk → List Inv := fun b fr hp => [
  { ι := Nat × Int, fr := fun i => upd (havoc b fr) [(10, .int .i64 (.x (i.1 : Int)))], hp := fun i => imgH' x.1 (x.1.l ++ PL.qS x.2.1 i.1) i.2, μ := fun i => x.2.2.1.toNat - i.1, ok := fun i => PL.EQAt x i }]
def equeInvs (x : Img × List Int × Int × Int) : Invs := fun f n => match f, n with
  | 52, 1 => some (equeInv x)
  | _, _ => none
def eque_vc (ar : AR) (x : equeSpec.X) : Prop :=
  (∃ (i : Nat × Int), PL.EQAt x i ∧ x.snd.fst = x.snd.fst ∧ x.snd.snd.fst = x.snd.snd.fst ∧ x.snd.snd.snd = x.snd.snd.snd ∧ x.snd.fst = x.snd.fst ∧ x.snd.snd.fst = x.snd.snd.fst ∧
  x.snd.snd.snd = x.snd.snd.snd ∧ x.snd.snd.fst = x.snd.snd.fst ∧ 0 = (↑i.fst : Int) ∧ (↑x.fst.l.length : Int) = (↑(x.fst.l.append (PL.qS x.snd.fst i.fst)).length : Int) ∧
  x.fst.cap = i.snd ∧ (x.fst.bad ↔ x.fst.bad) ∧ x.fst.cap = i.snd ∧ PL.ints x.fst.l = PL.ints (x.fst.l.append (PL.qS x.snd.fst i.fst)) ∧ True) ∧ ∀ (i : Nat × Int), PL.EQAt x i →
  (ar.lt (↑i.fst : Int) x.snd.snd.fst → ar.le 0 (↑i.fst : Int) ∧ ar.lt (↑i.fst : Int) x.snd.snd.fst ∧ ∃ (x_1 : Img × Int), ar.iget x.snd.fst (↑i.fst : Int) = x_1.snd ∧
  (↑(x.fst.l.append (PL.qS x.snd.fst i.fst)).length : Int) = (↑x_1.1.l.length : Int) ∧ i.snd = x_1.1.cap ∧ (x.fst.bad ↔ x_1.1.3) ∧ i.snd = x_1.1.cap ∧ PL.ints (x.fst.l.append
  (PL.qS x.snd.fst i.fst)) = PL.ints x_1.1.l ∧ PL.PQIn x_1 ∧ ∀ (y : Int), PL.CapOK ((↑x_1.1.l.length : Int).add 4) y → ∀ (z : Int), z = ar.wrap IntKind.i64 (ar.add (↑i.fst : Int)
  1) → ∃ (j : Nat × Int), PL.EQAt x j ∧ (x.snd.snd.fst.toNat.sub j.fst).lt (x.snd.snd.fst.toNat.sub i.fst) ∧ x.snd.fst = x.snd.fst ∧ x.snd.snd.fst = x.snd.snd.fst ∧ x.snd.snd.snd =
  x.snd.snd.snd ∧ x.snd.fst = x.snd.fst ∧ x.snd.snd.fst = x.snd.snd.fst ∧ x.snd.snd.snd = x.snd.snd.snd ∧ x.snd.snd.fst = x.snd.snd.fst ∧ z = (↑j.fst : Int) ∧ (↑(x_1.1.l.append
  (PL.big x_1.snd 4)).length : Int) = (↑(x.fst.l.append (PL.qS x.snd.fst j.fst)).length : Int) ∧ y = j.snd ∧ (x_1.1.3 ↔ x.fst.bad) ∧ y = j.snd ∧ PL.ints (x_1.1.l.append (PL.big
  x_1.snd 4)) = PL.ints (x.fst.l.append (PL.qS x.snd.fst j.fst)) ∧ True) ∧ (¬ar.lt (↑i.fst : Int) x.snd.snd.fst → ∃ (y : Int), PL.CapOK ((↑x.fst.l.length : Int).add (Int.mul 4
  x.snd.snd.fst)) y ∧ (↑(x.fst.l.append (PL.qS x.snd.fst i.fst)).length : Int) = (↑(x.fst.l.append (PL.qS x.snd.fst x.snd.snd.fst.toNat)).length : Int) ∧ i.snd = y ∧ (x.fst.bad ↔
  x.fst.bad) ∧ i.snd = y ∧ PL.ints (x.fst.l.append (PL.qS x.snd.fst i.fst)) = PL.ints (x.fst.l.append (PL.qS x.snd.fst x.snd.snd.fst.toNat)) ∧ True)
theorem eque_eq (ar : AR) (x : equeSpec.X) : (run ar PP poSpecs (equeInvs x) 1000 52 (equeSpec.H x).length (Tryd.f52.body.getD .skip) (equeSpec.A x ++ List.replicate (Tryd.f52.ntmps - (equeSpec.A x).length) .any) (equeSpec.H x) (endCall ar PP Tryd.f52.results.toList (equeSpec.fin x))) = eque_vc ar x := by
  kernel_rfl
theorem eque_of (h : ∀ x, equeSpec.pre x → eque_vc ar0 x) : equeSpec.OK PP 52 :=
  Spec.ok_of_run (fn := Tryd.f52) (c := Tryd.f52.body.getD .skip) (by kernel_rfl) (by kernel_rfl) (by kernel_rfl) poSpecs_ok equeInvs 1000 (fun x hx => (eque_eq ar0 x).mpr (h x hx))
theorem equeSpec_ok : equeSpec.OK PP 52 := by
  refine eque_of fun x hx => ?_
  obtain ⟨m, q, len, cap⟩ := x
  have hx : PL.EQIn (m, q, len, cap) := hx
  unfold eque_vc
  simp only [ars, ars2, ex_img1, true_and, and_true, exists_const]
  obtain ⟨h1, hle, hc, hr⟩ := hx
  simp only at h1 hle hc hr
  refine ⟨⟨(0, m.cap), ⟨by simp only; omega, by simp only; omega⟩, rfl, by simp only [PL.qS, List.append_nil], rfl, rfl, by simp only [PL.qS, List.append_nil]⟩, ?_⟩
  rintro ⟨k, cp⟩ ⟨hk, hcp⟩
  simp only at hk hcp
  have hl := PL.qS_len (q := q) k
  simp only [List.length_append, hl, Int.toNat_natCast]
  refine ⟨fun hlt => ⟨by omega, hlt, ⟨⟨by simp only [List.length_append, hl]; omega, by simp only [List.length_append, hl]; omega⟩⟩, fun y hy z hz => ?_⟩, fun hge => ?_⟩
  · have hy' := hy.le
    rw [wrap_i64 (by omega) (by omega)] at hz
    have hs : PL.qS q (k + 1) = PL.qS q k ++ PL.big (q.getD k 0) 4 := rfl
    refine ⟨(k + 1, y), ⟨by simp only; omega, by simp only; omega⟩, by simp only; omega, by simp only; omega, by simp only [hs, List.length_append]; omega, rfl, rfl, by simp only [hs, List.append_assoc]⟩
  · obtain rfl : k = len.toNat := by omega
    exact ⟨cp, ⟨by omega⟩, by rw [hl], rfl, rfl, rfl⟩
end Go.Eng
/- Index: spread, putEach of nodes. -/
namespace Go.PL
structure SpIn (x : Nods × Int × Int × Int × Int) : Prop where
  nods : NodsOK x.1
  len : x.1.len ≤ 140737488351232
  c : 0 ≤ x.2.2.2.1 ∧ x.2.2.2.1 ≤ 100000
  f : -10 ≤ x.2.2.1 ∧ x.2.2.1 ≤ 10
  num : ∀ i, i < x.1.len.toNat → x.1.K.getD i 0 = x.2.1 → 0 ≤ x.1.N.getD i 0 - x.2.2.1 ∧ x.1.N.getD i 0 - x.2.2.1 < x.2.2.2.1
def blank (n k : Nat) (size : Int) : Nods := ⟨List.replicate n 0, List.replicate n 0, List.replicate n 0, List.replicate n [], List.replicate k size ++ List.replicate (n - k) 0, n, n⟩
def Nods.put (r : Nods) (e : Nat) (n : Nod) : Nods := ⟨r.K.set e n.kind, r.N.set e n.number, r.P.set e n.parent, r.S.set e n.name, r.Z.set e n.size, r.len, r.cap⟩
def sprU (x : Nods × Int × Int × Int × Int) : Nat → Nods
  | 0 => blank x.2.2.2.1.toNat x.2.2.2.1.toNat x.2.2.2.2
  | i + 1 => if x.1.K.getD i 0 = x.2.1 then (sprU x i).put (x.1.N.getD i 0 - x.2.2.1).toNat (x.1.at i) else sprU x i
structure SpAt (x : Nods × Int × Int × Int × Int) (i : Nat) : Prop where
  le : (i : Int) ≤ x.2.2.2.1
structure SpAt2 (x : Nods × Int × Int × Int × Int) (i : Nat) : Prop where
  le : (i : Int) ≤ x.1.len
structure NRows (r : Nods) (m : Nat) : Prop where
  k : r.K.length = m
  n : r.N.length = m
  p : r.P.length = m
  s : r.S.length = m
  z : r.Z.length = m
  len : r.len = m
  cap : r.cap = m
theorem blank_rows (n k : Nat) (size : Int) (h : k ≤ n) : NRows (blank n k size) n := by
  constructor <;> first | (simp [blank]; done) | (simp [blank]; omega) | rfl
theorem put_rows {r : Nods} {n : Nat} (h : NRows r n) (e : Nat) (x : Nod) : NRows (r.put e x) n := by
  obtain ⟨h1, h2, h3, h4, h5, h6, h7⟩ := h
  constructor <;> simp [Nods.put, *]
theorem sprU_rows (x : Nods × Int × Int × Int × Int) : ∀ i, NRows (sprU x i) x.2.2.2.1.toNat
  | 0 => blank_rows _ _ _ (Nat.le_refl _)
  | i + 1 => by
    unfold sprU
    split
    · exact put_rows (sprU_rows x i) _ _
    · exact sprU_rows x i
theorem put_at {r : Nods} {n : Nat} (h : NRows r n) {e : Nat} (he : e < n) (x : Nod) (k : Nat) : (r.put e x).at k = if k = e then x else r.at k := by
  obtain ⟨h1, h2, h3, h4, h5, _, _⟩ := h
  by_cases hk : k = e
  · subst hk
    rw [if_pos rfl]
    simp [Nods.at, Nods.put, List.getD, h1, h2, h3, h4, h5, he]
  · have hk' : ¬ e = k := fun h => hk h.symm
    rw [if_neg hk]
    simp [Nods.at, Nods.put, List.getD, hk']
theorem blank_at {n k : Nat} {size : Int} (hk : k < n) : (blank n n size).at k = ⟨0, 0, 0, [], size⟩ := by
  simp [blank, Nods.at, List.getD, hk]
theorem sprU_at (x : Nods × Int × Int × Int × Int) (h : SpIn x) (k : Nat) (hk : k < x.2.2.2.1.toNat) : ∀ i, i ≤ x.1.len.toNat →
    (∃ j, j < i ∧ x.1.K.getD j 0 = x.2.1 ∧ x.1.N.getD j 0 - x.2.2.1 = (k : Int) ∧ (sprU x i).at k = x.1.at j) ∨
    ((∀ j, j < i → ¬ (x.1.K.getD j 0 = x.2.1 ∧ x.1.N.getD j 0 - x.2.2.1 = (k : Int))) ∧ (sprU x i).at k = ⟨0, 0, 0, [], x.2.2.2.2⟩)
  | 0, _ => .inr ⟨fun j hj => by omega, blank_at hk⟩
  | i + 1, hi => by
    have hn := h.num i (by omega)
    have ih := sprU_at x h k hk i (by omega)
    unfold sprU
    split
    · rename_i hK
      obtain ⟨n1, n2⟩ := hn hK
      rw [put_at (sprU_rows x i) (by omega)]
      by_cases hki : k = (x.1.N.getD i 0 - x.2.2.1).toNat
      · rw [if_pos hki]
        exact .inl ⟨i, by omega, hK, by omega, rfl⟩
      · rw [if_neg hki]
        rcases ih with ⟨j, hj, a, b, c⟩ | ⟨a, b⟩
        · exact .inl ⟨j, by omega, a, b, c⟩
        · refine .inr ⟨fun j hj => ?_, b⟩
          by_cases hji : j = i
          · subst hji; rintro ⟨_, h2⟩; exact hki (by omega)
          · exact a j (by omega)
    · rename_i hK
      rcases ih with ⟨j, hj, a, b, c⟩ | ⟨a, b⟩
      · exact .inl ⟨j, by omega, a, b, c⟩
      · refine .inr ⟨fun j hj => ?_, b⟩
        by_cases hji : j = i
        · subst hji; exact fun h2 => hK h2.1
        · exact a j (by omega)
def sprK (x : Nods × Int × Int × Int × Int) (i : Nat) : List Int := (sprU x i).K
def sprN (x : Nods × Int × Int × Int × Int) (i : Nat) : List Int := (sprU x i).N
def sprP (x : Nods × Int × Int × Int × Int) (i : Nat) : List Int := (sprU x i).P
def sprS (x : Nods × Int × Int × Int × Int) (i : Nat) : List (List UInt8) := (sprU x i).S
def sprZ (x : Nods × Int × Int × Int × Int) (i : Nat) : List Int := (sprU x i).Z
def sprV (x : Nods × Int × Int × Int × Int) (i : Nat) : Nods := ⟨sprK x i, sprN x i, sprP x i, sprS x i, sprZ x i, x.2.2.2.1, x.2.2.2.1⟩
def blkZ (n k : Nat) (size : Int) : List Int := List.replicate k size ++ List.replicate (n - k) 0
def rep0 (n : Int) : List Int := List.replicate n.toNat 0
def repS (n : Int) : List (List UInt8) := List.replicate n.toNat []
def blkV (n : Int) (k : Nat) (size : Int) : Nods := ⟨rep0 n, rep0 n, rep0 n, repS n, blkZ n.toNat k size, n, n⟩
theorem blkZ_set {n i : Nat} {size : Int} (h : i < n) : (blkZ n i size).set i size = blkZ n (i + 1) size := by
  unfold blkZ
  rw [List.set_append_right _ _ (by simp), List.length_replicate, Nat.sub_self]
  obtain ⟨m, hm⟩ : ∃ m, n - i = m + 1 := ⟨n - i - 1, by omega⟩
  rw [hm, show n - (i + 1) = m by omega, List.replicate_succ, List.set_cons_zero, List.replicate_succ']
  simp
theorem blkZ_len {n i : Nat} {size : Int} (h : i ≤ n) : (blkZ n i size).length = n := by
  simp [blkZ]
  omega
theorem sprZ_0 (x : Nods × Int × Int × Int × Int) : sprZ x 0 = blkZ x.2.2.2.1.toNat x.2.2.2.1.toNat x.2.2.2.2 := rfl
theorem spr_hit {x : Nods × Int × Int × Int × Int} {i : Nat} (h : x.1.K.getD i 0 = x.2.1) :
    let e := (x.1.N.getD i 0 - x.2.2.1).toNat
    sprK x (i + 1) = (sprK x i).set e (x.1.K.getD i 0) ∧ sprN x (i + 1) = (sprN x i).set e (x.1.N.getD i 0) ∧ sprP x (i + 1) = (sprP x i).set e (x.1.P.getD i 0) ∧ sprS x (i + 1) = (sprS x i).set e (x.1.S.getD i []) ∧ sprZ x (i + 1) = (sprZ x i).set e (x.1.Z.getD i 0) := by
  have : sprU x (i + 1) = (sprU x i).put (x.1.N.getD i 0 - x.2.2.1).toNat (x.1.at i) := by rw [sprU, if_pos h]
  simp only [sprK, sprN, sprP, sprS, sprZ, this]
  exact ⟨rfl, rfl, rfl, rfl, rfl⟩
theorem spr_miss {x : Nods × Int × Int × Int × Int} {i : Nat} (h : ¬ x.1.K.getD i 0 = x.2.1) :
    sprK x (i + 1) = sprK x i ∧ sprN x (i + 1) = sprN x i ∧ sprP x (i + 1) = sprP x i ∧ sprS x (i + 1) = sprS x i ∧ sprZ x (i + 1) = sprZ x i := by
  have : sprU x (i + 1) = sprU x i := by rw [sprU, if_neg h]
  simp only [sprK, sprN, sprP, sprS, sprZ, this]
  exact ⟨trivial, trivial, trivial, trivial, trivial⟩
structure NodeRow (n : Nod) : Prop where
  row : n.kind ≠ 0 → RowIn n
  size : n.kind = 0 → 0 ≤ n.size ∧ n.size ≤ 1000
  len : (nodeS n).length ≤ 40
def nodsL (x : Nods) : Nat → List UInt8
  | 0 => []
  | k + 1 => nodsL x k ++ nodeS (x.at k)
structure ENIn (x : Img × Nods) : Prop where
  rows : NRows x.2 x.2.len.toNat
  le : x.2.len ≤ 100000
  ok : ∀ j, j < x.2.len.toNat → NodeRow (x.2.at j)
  img : ImgOK x.1 1000000000
structure ENAt (x : Img × Nods) (i : Nat × Int) : Prop where
  le : (i.1 : Int) ≤ x.2.len
  cap : (x.1.l.length + (nodsL x.2 i.1).length : Int) ≤ i.2
theorem nodsL_le {x : Nods} : ∀ {k : Nat}, (∀ j, j < k → (nodeS (x.at j)).length ≤ 40) → (nodsL x k).length ≤ 40 * k
  | 0, _ => by simp [nodsL]
  | k + 1, h => by
    have h1 := h k (by omega)
    have h2 := nodsL_le (k := k) fun j hj => h j (by omega)
    rw [nodsL, List.length_append]
    omega
end Go.PL
set_option linter.unusedSectionVars false
set_option linter.unusedSimpArgs false
set_option linter.unusedVariables false
namespace Go.Eng
variable [CW : CWorld]
open Go.Proofs
open Go.PL (Cfg CfgIn CfgOK CfgBad Img RImg Refs Nod Nods Tree Objs Pool Txts)
set_option maxRecDepth 100000
attribute [local irreducible] run
def nodsB (x : Nods) : Blk := .mk 49 [.arr (.x x.cap) [.ints .i64 x.K, .ints .i64 x.N, .ints .i64 x.P, .strs x.S, .ints .i64 x.Z]]
def spSpec : Spec where
  X := Nods × Int × Int × Int × Int
  A x := [nodsS x.1, .int .i64 (.x x.2.1), .int .i64 (.x x.2.2.1), .int .i64 (.x x.2.2.2.1), .int .i64 (.x x.2.2.2.2)]
  H x := []
  pre x := PL.SpIn x
  outs := [{ Y _ := Unit, post _ _ := True, R x _ := .slc 0 (.l 0) (.x x.2.2.2.1) (.x x.2.2.2.1), H' x _ := [nodsB (PL.sprV x x.1.len.toNat)] }]
  frz := true
def spInv (x : Nods × Int × Int × Int × Int) : Code → List SV → List Blk → List Inv := fun b fr hp => [
  { ι := Nat, fr := fun i => only b fr 0 [0, 1, 2, 4, 18] [(11, .slc 0 (.l 0) (.x x.2.2.2.1) (.x x.2.2.2.1)), (19, .int .i64 (.x (i : Int)))], hp := fun i => [nodsB (PL.blkV x.2.2.2.1 i x.2.2.2.2)], μ := fun i => x.2.2.2.1.toNat - i, ok := fun i => PL.SpAt x i }]
def spInv2 (x : Nods × Int × Int × Int × Int) : Code → List SV → List Blk → List Inv := fun b fr hp => [
  { ι := Nat, fr := fun i => only b fr 0 [1, 2, 28, 29] [(11, .slc 0 (.l 0) (.x x.2.2.2.1) (.x x.2.2.2.1)), (30, .int .i64 (.x (i : Int)))], hp := fun i => [nodsB (PL.sprV x i)], μ := fun i => x.1.len.toNat - i, ok := fun i => PL.SpAt2 x i }]
def spInvs2 (x : Nods × Int × Int × Int × Int) : Invs := fun f n => match f, n with
  | 47, 3 => some (spInv x)
  | 47, 8 => some (spInv2 x)
  | _, _ => none
def sp_vc (ar : AR) (x : spSpec.X) : Prop :=
  ar.le 0 x.snd.snd.snd.fst ∧ ar.le x.snd.snd.snd.fst x.snd.snd.snd.fst ∧ ar.le (ar.mul x.snd.snd.snd.fst 48) 140737488355328 ∧ (∃ (i : Nat), PL.SpAt x i ∧ x.fst.K = x.fst.K ∧
  x.fst.N = x.fst.N ∧ x.fst.P = x.fst.P ∧ x.fst.S = x.fst.S ∧ x.fst.Z = x.fst.Z ∧ x.fst.len = x.fst.len ∧ x.fst.cap = x.fst.cap ∧ x.snd.fst = x.snd.fst ∧ x.snd.snd.fst =
  x.snd.snd.fst ∧ x.snd.snd.snd.snd = x.snd.snd.snd.snd ∧ x.snd.snd.snd.fst = x.snd.snd.snd.fst ∧ x.snd.snd.snd.fst = x.snd.snd.snd.fst ∧ x.snd.snd.snd.fst = x.snd.snd.snd.fst ∧ 0
  = (↑i : Int) ∧ x.snd.snd.snd.fst = x.snd.snd.snd.fst ∧ ar.irep 0 x.snd.snd.snd.fst = PL.rep0 x.snd.snd.snd.fst ∧ ar.irep 0 x.snd.snd.snd.fst = PL.rep0 x.snd.snd.snd.fst ∧ ar.irep
  0 x.snd.snd.snd.fst = PL.rep0 x.snd.snd.snd.fst ∧ ar.trep [] x.snd.snd.snd.fst = PL.repS x.snd.snd.snd.fst ∧ ar.irep 0 x.snd.snd.snd.fst = PL.blkZ x.snd.snd.snd.fst.toNat i
  x.snd.snd.snd.snd ∧ True) ∧ ∀ (i : Nat), PL.SpAt x i → (ar.lt (↑i : Int) x.snd.snd.snd.fst → ar.le 0 (↑i : Int) ∧ ar.lt (↑i : Int) x.snd.snd.snd.fst ∧ ar.le 0 (↑i : Int) ∧ ar.lt
  (↑i : Int) (ar.ilen (PL.blkZ x.snd.snd.snd.fst.toNat i x.snd.snd.snd.snd)) ∧ ∀ (z : Int), z = ar.wrap IntKind.i64 (ar.add (↑i : Int) 1) → ∃ (j : Nat), PL.SpAt x j ∧
  (x.snd.snd.snd.fst.toNat.sub j).lt (x.snd.snd.snd.fst.toNat.sub i) ∧ x.fst.K = x.fst.K ∧ x.fst.N = x.fst.N ∧ x.fst.P = x.fst.P ∧ x.fst.S = x.fst.S ∧ x.fst.Z = x.fst.Z ∧ x.fst.len
  = x.fst.len ∧ x.fst.cap = x.fst.cap ∧ x.snd.fst = x.snd.fst ∧ x.snd.snd.fst = x.snd.snd.fst ∧ x.snd.snd.snd.snd = x.snd.snd.snd.snd ∧ x.snd.snd.snd.fst = x.snd.snd.snd.fst ∧
  x.snd.snd.snd.fst = x.snd.snd.snd.fst ∧ x.snd.snd.snd.fst = x.snd.snd.snd.fst ∧ z = (↑j : Int) ∧ x.snd.snd.snd.fst = x.snd.snd.snd.fst ∧ PL.rep0 x.snd.snd.snd.fst = PL.rep0
  x.snd.snd.snd.fst ∧ PL.rep0 x.snd.snd.snd.fst = PL.rep0 x.snd.snd.snd.fst ∧ PL.rep0 x.snd.snd.snd.fst = PL.rep0 x.snd.snd.snd.fst ∧ PL.repS x.snd.snd.snd.fst = PL.repS
  x.snd.snd.snd.fst ∧ ar.iset (PL.blkZ x.snd.snd.snd.fst.toNat i x.snd.snd.snd.snd) (↑i : Int) x.snd.snd.snd.snd = PL.blkZ x.snd.snd.snd.fst.toNat j x.snd.snd.snd.snd ∧ True) ∧
  (¬ar.lt (↑i : Int) x.snd.snd.snd.fst → (∃ (i_1 : Nat), PL.SpAt2 x i_1 ∧ x.snd.fst = x.snd.fst ∧ x.snd.snd.fst = x.snd.snd.fst ∧ x.snd.snd.snd.fst = x.snd.snd.snd.fst ∧
  x.snd.snd.snd.fst = x.snd.snd.snd.fst ∧ x.fst.K = x.fst.K ∧ x.fst.N = x.fst.N ∧ x.fst.P = x.fst.P ∧ x.fst.S = x.fst.S ∧ x.fst.Z = x.fst.Z ∧ x.fst.len = x.fst.len ∧ x.fst.cap =
  x.fst.cap ∧ x.fst.len = x.fst.len ∧ 0 = (↑i_1 : Int) ∧ x.snd.snd.snd.fst = x.snd.snd.snd.fst ∧ PL.rep0 x.snd.snd.snd.fst = PL.sprK x i_1 ∧ PL.rep0 x.snd.snd.snd.fst = PL.sprN x
  i_1 ∧ PL.rep0 x.snd.snd.snd.fst = PL.sprP x i_1 ∧ PL.repS x.snd.snd.snd.fst = PL.sprS x i_1 ∧ PL.blkZ x.snd.snd.snd.fst.toNat i x.snd.snd.snd.snd = PL.sprZ x i_1 ∧ True) ∧ ∀ (i :
  Nat), PL.SpAt2 x i → (ar.lt (↑i : Int) x.fst.len → ar.le 0 (↑i : Int) ∧ ar.lt (↑i : Int) x.fst.len ∧ (ar.eq (ar.iget x.fst.K (↑i : Int)) x.snd.fst → ∀ (z : Int), z = ar.wrap
  IntKind.i64 (ar.sub (ar.iget x.fst.N (↑i : Int)) x.snd.snd.fst) → ar.le 0 z ∧ ar.lt z x.snd.snd.snd.fst ∧ ar.le 0 z ∧ ar.lt z (ar.ilen (PL.sprK x i)) ∧ ar.le 0 z ∧ ar.lt z
  (ar.ilen (PL.sprN x i)) ∧ ar.le 0 z ∧ ar.lt z (ar.ilen (PL.sprP x i)) ∧ ar.le 0 z ∧ ar.lt z (ar.tlen (PL.sprS x i)) ∧ ar.le 0 z ∧ ar.lt z (ar.ilen (PL.sprZ x i)) ∧ ∀ (z_1 : Int),
  z_1 = ar.wrap IntKind.i64 (ar.add (↑i : Int) 1) → ∃ (j : Nat), PL.SpAt2 x j ∧ (x.fst.len.toNat.sub j).lt (x.fst.len.toNat.sub i) ∧ x.snd.fst = x.snd.fst ∧ x.snd.snd.fst =
  x.snd.snd.fst ∧ x.snd.snd.snd.fst = x.snd.snd.snd.fst ∧ x.snd.snd.snd.fst = x.snd.snd.snd.fst ∧ x.fst.K = x.fst.K ∧ x.fst.N = x.fst.N ∧ x.fst.P = x.fst.P ∧ x.fst.S = x.fst.S ∧
  x.fst.Z = x.fst.Z ∧ x.fst.len = x.fst.len ∧ x.fst.cap = x.fst.cap ∧ x.fst.len = x.fst.len ∧ z_1 = (↑j : Int) ∧ x.snd.snd.snd.fst = x.snd.snd.snd.fst ∧ ar.iset (PL.sprK x i) z
  (ar.iget x.fst.K (↑i : Int)) = PL.sprK x j ∧ ar.iset (PL.sprN x i) z (ar.iget x.fst.N (↑i : Int)) = PL.sprN x j ∧ ar.iset (PL.sprP x i) z (ar.iget x.fst.P (↑i : Int)) = PL.sprP x
  j ∧ ar.tset (PL.sprS x i) z (ar.tget x.fst.S (↑i : Int)) = PL.sprS x j ∧ ar.iset (PL.sprZ x i) z (ar.iget x.fst.Z (↑i : Int)) = PL.sprZ x j ∧ True) ∧ (¬ar.eq (ar.iget x.fst.K (↑i
  : Int)) x.snd.fst → ∀ (z : Int), z = ar.wrap IntKind.i64 (ar.add (↑i : Int) 1) → ∃ (j : Nat), PL.SpAt2 x j ∧ (x.fst.len.toNat.sub j).lt (x.fst.len.toNat.sub i) ∧ x.snd.fst =
  x.snd.fst ∧ x.snd.snd.fst = x.snd.snd.fst ∧ x.snd.snd.snd.fst = x.snd.snd.snd.fst ∧ x.snd.snd.snd.fst = x.snd.snd.snd.fst ∧ x.fst.K = x.fst.K ∧ x.fst.N = x.fst.N ∧ x.fst.P =
  x.fst.P ∧ x.fst.S = x.fst.S ∧ x.fst.Z = x.fst.Z ∧ x.fst.len = x.fst.len ∧ x.fst.cap = x.fst.cap ∧ x.fst.len = x.fst.len ∧ z = (↑j : Int) ∧ x.snd.snd.snd.fst = x.snd.snd.snd.fst ∧
  PL.sprK x i = PL.sprK x j ∧ PL.sprN x i = PL.sprN x j ∧ PL.sprP x i = PL.sprP x j ∧ PL.sprS x i = PL.sprS x j ∧ PL.sprZ x i = PL.sprZ x j ∧ True)) ∧ (¬ar.lt (↑i : Int) x.fst.len
  → ∃ (y : Unit), True ∧ x.snd.snd.snd.fst = x.snd.snd.snd.fst ∧ x.snd.snd.snd.fst = x.snd.snd.snd.fst ∧ x.snd.snd.snd.fst = x.snd.snd.snd.fst ∧ PL.sprK x i = PL.sprK x
  x.fst.len.toNat ∧ PL.sprN x i = PL.sprN x x.fst.len.toNat ∧ PL.sprP x i = PL.sprP x x.fst.len.toNat ∧ PL.sprS x i = PL.sprS x x.fst.len.toNat ∧ PL.sprZ x i = PL.sprZ x
  x.fst.len.toNat ∧ True))
theorem sp_eq (ar : AR) (x : spSpec.X) : (run ar PP noSpec (spInvs2 x) 1000 47 (spSpec.H x).length (Tryd.f47.body.getD .skip) (spSpec.A x ++ List.replicate (Tryd.f47.ntmps - (spSpec.A x).length) .any) (spSpec.H x) (endCall ar PP Tryd.f47.results.toList (spSpec.fin x))) = sp_vc ar x := by
  kernel_rfl
theorem sp_of (h : ∀ x, spSpec.pre x → sp_vc ar0 x) : spSpec.OK PP 47 :=
  Spec.ok_of_run (fn := Tryd.f47) (c := Tryd.f47.body.getD .skip) (by kernel_rfl) (by kernel_rfl) (by kernel_rfl) noSpec_ok spInvs2 1000 (fun x hx => (sp_eq ar0 x).mpr (h x hx))
theorem spSpec_ok : spSpec.OK PP 47 := by
  refine sp_of fun x hx => ?_
  obtain ⟨x, kd, fi, ct, sz⟩ := x
  have hr := fun i => PL.sprU_rows (x, kd, fi, ct, sz) i
  obtain ⟨⟨n1, n2, n3, n4, n5, n6⟩, hlen, hc, hf, hnum⟩ : PL.SpIn (x, kd, fi, ct, sz) := hx
  unfold sp_vc
  simp only [ars, ars2, true_and, and_true, exists_const, Classical.not_not]
  simp only at n1 n2 n3 n4 n5 n6 hlen hc hf hnum hr ⊢
  refine ⟨by omega, by omega, by omega, ⟨0, ⟨by simp only; omega⟩, rfl, rfl, rfl, rfl, rfl, ?_⟩, fun i hi => ⟨fun hlt => ⟨by omega, hlt, by omega, ?_, fun z hz => ⟨i + 1, ⟨by simp only; omega⟩, by omega, ?_, ?_⟩⟩, fun hge => ⟨⟨0, ⟨by simp only; omega⟩, rfl, rfl, rfl, rfl, rfl, ?_⟩, fun i hi => ⟨fun hlt => ⟨by omega, hlt, fun hK z hz => ?_, fun hK z hz => ?_⟩, fun hge => ?_⟩⟩⟩⟩
  · simp [PL.blkZ, ar0]
  · rw [PL.blkZ_len (by have := hi.le; simp only at this; omega)]; omega
  · rw [hz, wrap_i64 (by omega) (by omega)]; omega
  · have := PL.blkZ_set (n := ct.toNat) (i := i) (size := sz) (by omega)
    exact this
  · have := hi.le
    simp only at this
    rw [PL.sprZ_0, show i = ct.toNat by omega]
  · simp only [Int.toNat_natCast] at hK hz ⊢
    obtain ⟨m1, m2⟩ := hnum i (by omega) hK
    rw [wrap_i64 (by omega) (by omega)] at hz
    obtain ⟨r1, r2, r3, r4, r5, _, _⟩ := hr i
    have l1 : (PL.sprK (x, kd, fi, ct, sz) i).length = ct.toNat := r1
    have l2 : (PL.sprN (x, kd, fi, ct, sz) i).length = ct.toNat := r2
    have l3 : (PL.sprP (x, kd, fi, ct, sz) i).length = ct.toNat := r3
    have l4 : (PL.sprS (x, kd, fi, ct, sz) i).length = ct.toNat := r4
    have l5 : (PL.sprZ (x, kd, fi, ct, sz) i).length = ct.toNat := r5
    obtain ⟨s1, s2, s3, s4, s5⟩ := PL.spr_hit (x := (x, kd, fi, ct, sz)) (i := i) hK
    refine ⟨by omega, by omega, by omega, by omega, by omega, by omega, by omega, by omega, by omega, by omega, by omega, by omega, fun z1 hz1 => ⟨i + 1, ⟨by simp only; omega⟩, by omega, ?_⟩⟩
    rw [wrap_i64 (by omega) (by omega)] at hz1
    rw [s1, s2, s3, s4, s5, hz]
    exact ⟨by omega, rfl, rfl, rfl, rfl, rfl⟩
  · simp only [Int.toNat_natCast] at hK hz ⊢
    rw [wrap_i64 (by omega) (by omega)] at hz
    obtain ⟨s1, s2, s3, s4, s5⟩ := PL.spr_miss (x := (x, kd, fi, ct, sz)) (i := i) hK
    exact ⟨i + 1, ⟨by simp only; omega⟩, by omega, by omega, s1.symm, s2.symm, s3.symm, s4.symm, s5.symm⟩
  · have := hi.le
    simp only at this
    rw [show i = x.len.toNat by omega]
    exact ⟨rfl, rfl, rfl, rfl, rfl⟩
def enodeSpec : Spec where
  X := Img × Nods
  A x := [.ptr 0 (.l 0), .slc 2 (.l 0) (.x x.2.len) (.x x.2.cap), .fn 48 []]
  H x := imgH x.1 ++ [nodsB x.2]
  pre x := PL.ENIn x
  outs := [{ Y _ := Int, post x c := PL.CapOK (x.1.l.length + (PL.nodsL x.2 x.2.len.toNat).length) c, R _ _ := .tup [], H' x c := [imgB 3 (.l 0) (x.1.l ++ PL.nodsL x.2 x.2.len.toNat).length c x.1.bad, .gone, nodsB x.2, bytesB (x.1.l ++ PL.nodsL x.2 x.2.len.toNat) c] }]
def enodeInv (x : Img × Nods) : Code → List SV → List Blk → List Inv := fun b fr hp => [
  { ι := Nat × Int, fr := fun i => upd (havoc b fr) [(10, .int .i64 (.x (i.1 : Int)))], hp := fun i => [imgB 3 (.l 0) (x.1.l ++ PL.nodsL x.2 i.1).length i.2 x.1.bad, .gone, nodsB x.2, bytesB (x.1.l ++ PL.nodsL x.2 i.1) i.2], μ := fun i => x.2.len.toNat - i.1, ok := fun i => PL.ENAt x i }]
def enodeInvs (x : Img × Nods) : Invs := fun f n => match f, n with
  | 46, 1 => some (enodeInv x)
  | _, _ => none
noncomputable def enSpecs : Specs := fun f xs hp => match f with
  | 48 => some pnodeSpec
  | _ => noSpec f xs hp
theorem enSpecs_ok : SpecsOK PP enSpecs := by
  intro CW f xs hp S h
  unfold enSpecs at h
  split at h
  · cases h; exact pnodeSpec_ok
  · exact noSpec_ok CW f xs hp S h
def enode_vc (ar : AR) (x : enodeSpec.X) : Prop :=
  (∃ (i : Nat × Int), PL.ENAt x i ∧ x.snd.len = x.snd.len ∧ x.snd.cap = x.snd.cap ∧ x.snd.len = x.snd.len ∧ x.snd.cap = x.snd.cap ∧ x.snd.len = x.snd.len ∧ 0 = (↑i.fst : Int) ∧
  (↑x.fst.l.length : Int) = (↑(x.fst.l.append (PL.nodsL x.snd i.fst)).length : Int) ∧ x.fst.cap = i.snd ∧ (x.fst.bad ↔ x.fst.bad) ∧ x.snd.cap = x.snd.cap ∧ x.snd.K = x.snd.K ∧
  x.snd.N = x.snd.N ∧ x.snd.P = x.snd.P ∧ x.snd.S = x.snd.S ∧ x.snd.Z = x.snd.Z ∧ x.fst.cap = i.snd ∧ PL.ints x.fst.l = PL.ints (x.fst.l.append (PL.nodsL x.snd i.fst)) ∧ True) ∧ ∀
  (i : Nat × Int), PL.ENAt x i → (ar.lt (↑i.fst : Int) x.snd.len → ar.le 0 (↑i.fst : Int) ∧ ar.lt (↑i.fst : Int) x.snd.len ∧ ar.le 0 (↑i.fst : Int) ∧ ar.lt (↑i.fst : Int) (ar.ilen
  x.snd.K) ∧ ar.le 0 (↑i.fst : Int) ∧ ar.lt (↑i.fst : Int) (ar.ilen x.snd.N) ∧ ar.le 0 (↑i.fst : Int) ∧ ar.lt (↑i.fst : Int) (ar.ilen x.snd.P) ∧ ar.le 0 (↑i.fst : Int) ∧ ar.lt
  (↑i.fst : Int) (ar.tlen x.snd.S) ∧ ar.le 0 (↑i.fst : Int) ∧ ar.lt (↑i.fst : Int) (ar.ilen x.snd.Z) ∧ ∃ (x_1 : Img × Nod), ar.iget x.snd.K (↑i.fst : Int) = x_1.2.kind ∧ ar.iget
  x.snd.N (↑i.fst : Int) = x_1.2.number ∧ ar.iget x.snd.P (↑i.fst : Int) = x_1.2.parent ∧ ar.tget x.snd.S (↑i.fst : Int) = x_1.2.name ∧ ar.iget x.snd.Z (↑i.fst : Int) = x_1.2.size
  ∧ (↑(x.fst.l.append (PL.nodsL x.snd i.fst)).length : Int) = (↑x_1.1.l.length : Int) ∧ i.snd = x_1.1.cap ∧ (x.fst.bad ↔ x_1.1.3) ∧ i.snd = x_1.1.cap ∧ PL.ints (x.fst.l.append
  (PL.nodsL x.snd i.fst)) = PL.ints x_1.1.l ∧ PL.PNodeIn x_1 ∧ ∀ (y : Int), PL.CapOK ((↑x_1.1.l.length : Int).add (↑(PL.nodeS x_1.snd).length : Int)) y → ∀ (z : Int), z = ar.wrap
  IntKind.i64 (ar.add (↑i.fst : Int) 1) → ∃ (j : Nat × Int), PL.ENAt x j ∧ (x.snd.len.toNat.sub j.fst).lt (x.snd.len.toNat.sub i.fst) ∧ x.snd.len = x.snd.len ∧ x.snd.cap =
  x.snd.cap ∧ x.snd.len = x.snd.len ∧ x.snd.cap = x.snd.cap ∧ x.snd.len = x.snd.len ∧ z = (↑j.fst : Int) ∧ (↑(x_1.1.l.append (PL.nodeS x_1.snd)).length : Int) = (↑(x.fst.l.append
  (PL.nodsL x.snd j.fst)).length : Int) ∧ y = j.snd ∧ (x_1.1.3 ↔ x.fst.bad) ∧ x.snd.cap = x.snd.cap ∧ x.snd.K = x.snd.K ∧ x.snd.N = x.snd.N ∧ x.snd.P = x.snd.P ∧ x.snd.S = x.snd.S
  ∧ x.snd.Z = x.snd.Z ∧ y = j.snd ∧ PL.ints (x_1.1.l.append (PL.nodeS x_1.snd)) = PL.ints (x.fst.l.append (PL.nodsL x.snd j.fst)) ∧ True) ∧ (¬ar.lt (↑i.fst : Int) x.snd.len → ∃ (y
  : Int), PL.CapOK ((↑x.fst.l.length : Int).add (↑(PL.nodsL x.snd x.snd.len.toNat).length : Int)) y ∧ (↑(x.fst.l.append (PL.nodsL x.snd i.fst)).length : Int) = (↑(x.fst.l.append
  (PL.nodsL x.snd x.snd.len.toNat)).length : Int) ∧ i.snd = y ∧ (x.fst.bad ↔ x.fst.bad) ∧ x.snd.cap = x.snd.cap ∧ x.snd.K = x.snd.K ∧ x.snd.N = x.snd.N ∧ x.snd.P = x.snd.P ∧
  x.snd.S = x.snd.S ∧ x.snd.Z = x.snd.Z ∧ i.snd = y ∧ PL.ints (x.fst.l.append (PL.nodsL x.snd i.fst)) = PL.ints (x.fst.l.append (PL.nodsL x.snd x.snd.len.toNat)) ∧ True)
theorem enode_eq (ar : AR) (x : enodeSpec.X) : (run ar PP enSpecs (enodeInvs x) 1000 46 (enodeSpec.H x).length (Tryd.f46.body.getD .skip) (enodeSpec.A x ++ List.replicate (Tryd.f46.ntmps - (enodeSpec.A x).length) .any) (enodeSpec.H x) (endCall ar PP Tryd.f46.results.toList (enodeSpec.fin x))) = enode_vc ar x := by
  kernel_rfl
theorem enode_of (h : ∀ x, enodeSpec.pre x → enode_vc ar0 x) : enodeSpec.OK PP 46 :=
  Spec.ok_of_run (fn := Tryd.f46) (c := Tryd.f46.body.getD .skip) (by kernel_rfl) (by kernel_rfl) (by kernel_rfl) enSpecs_ok enodeInvs 1000 (fun x hx => (enode_eq ar0 x).mpr (h x hx))
theorem enodeSpec_ok : enodeSpec.OK PP 46 := by
  refine enode_of fun x hx => ?_
  obtain ⟨m, r⟩ := x
  have hx : PL.ENIn (m, r) := hx
  unfold enode_vc
  simp only [ars, ars2, true_and, and_true, exists_const]
  obtain ⟨⟨h1, h2, h3, h4, h5, h6, _⟩, hle, hok, hc, hr⟩ := hx
  simp only at h1 h2 h3 h4 h5 h6 hle hok hc hr
  refine ⟨⟨(0, m.cap), ⟨by simp only; omega, by simp only [PL.nodsL, List.length_nil]; omega⟩, rfl, by simp only [PL.nodsL, List.append_nil], rfl, rfl, by simp only [PL.nodsL, List.append_nil]⟩, ?_⟩
  rintro ⟨k, cp⟩ ⟨hk, hcp⟩
  simp only at hk hcp
  have hl := PL.nodsL_le (x := r) (k := k) fun j hj => (hok j (by omega)).len
  simp only [List.length_append, Int.toNat_natCast]
  refine ⟨fun hlt => ⟨by omega, hlt, by omega, by omega, by omega, by omega, by omega, by omega, by omega, by omega, by omega, by omega, ?_⟩, fun hge => ?_⟩
  · obtain ⟨o1, o2, o3⟩ := hok k (by omega)
    refine ⟨(⟨m.l ++ PL.nodsL r k, cp, m.bad⟩, r.at k), rfl, rfl, rfl, rfl, rfl, by simp only [List.length_append], rfl, Iff.rfl, rfl, rfl, ⟨⟨by simp only [List.length_append]; omega, by simp only [List.length_append]; omega⟩, o1, o2⟩, fun y hy z hz => ?_⟩
    have hy' := hy.le
    simp only [List.length_append] at hy'
    rw [wrap_i64 (by omega) (by omega)] at hz
    have hs : PL.nodsL r (k + 1) = PL.nodsL r k ++ PL.nodeS (r.at k) := rfl
    refine ⟨(k + 1, y), ⟨by simp only; omega, by simp only [hs, List.length_append]; omega⟩, by simp only; omega, by simp only; omega, by simp only [hs, List.length_append]; omega, rfl, Iff.rfl, rfl, by simp only [hs, List.append_assoc]⟩
  · obtain rfl : k = r.len.toNat := by omega
    exact ⟨cp, ⟨by omega⟩, rfl, rfl, rfl, rfl⟩
end Go.Eng
namespace Go.PL
theorem list_getD_eq {α : Type} {l m : List α} (d : α) {n : Nat} (h1 : l.length = n) (h2 : m.length = n) (h : ∀ j, j < n → l.getD j d = m.getD j d) : l = m := by
  apply List.ext_getElem (by omega)
  intro j a b
  have := h j (by omega)
  rw [List.getD, List.getD, List.getElem?_eq_getElem a, List.getElem?_eq_getElem b] at this
  exact this
theorem list_getD_eqI {α : Type} {l m : List α} (d : α) {a b : Int} (h1 : (l.length : Int) = a) (h2 : (m.length : Int) = b) (hl : a = b) (h : ∀ j, j < a.toNat → l.getD j d = m.getD j d) : l = m :=
  list_getD_eq d (n := a.toNat) (by omega) (by omega) h
structure SameN (a b : Nods) : Prop where
  k : a.K = b.K
  n : a.N = b.N
  p : a.P = b.P
  s : a.S = b.S
  z : a.Z = b.Z
structure SameT (a b : Tree) : Prop where
  files : a.files = b.files
  dirs : a.dirs = b.dirs
  nods : SameN a.nods b.nods
structure SameTIn (x : Tree × Tree) : Prop where
  a : NodsOK x.1.nods
  b : NodsOK x.2.nods
structure SameTAt (x : Tree × Tree) (i : Nat) : Prop where
  le : (i : Int) ≤ x.1.nods.len
  all : ∀ j, j < i → x.1.nods.at j = x.2.nods.at j
structure ObjsOK (x : Objs) : Prop where
  n : (x.N.length : Int) = x.len
  t : (x.T.length : Int) = x.len
  b : (x.B.length : Int) = x.len
  o : (x.O.length : Int) = x.len
  le : x.len ≤ 140737488351232
structure PoolAny (x : Pool) : Prop where
  objs : ObjsOK x.objs
  q : (x.q.length : Int) = x.qlen
  le : x.qlen ≤ 140737488351232
structure SameP (x y : Pool) : Prop where
  n : x.objs.N = y.objs.N
  t : x.objs.T = y.objs.T
  b : x.objs.B = y.objs.B
  o : x.objs.O = y.objs.O
  q : x.q = y.q
structure SamePIn (x : Pool × Pool) : Prop where
  a : PoolAny x.1
  b : PoolAny x.2
structure ObjEq (x y : Objs) (j : Nat) : Prop where
  n : x.N.getD j [] = y.N.getD j []
  t : x.T.getD j [] = y.T.getD j []
  b : x.B.getD j 0 = y.B.getD j 0
  o : x.O.getD j 0 = y.O.getD j 0
structure SamePAt (x : Pool × Pool) (i : Nat) : Prop where
  le : (i : Int) ≤ x.1.objs.len
  all : ∀ j, j < i → ObjEq x.1.objs x.2.objs j
structure SamePAt2 (x : Pool × Pool) (i : Nat) : Prop where
  le : (i : Int) ≤ x.1.qlen
  objs : x.1.objs.N = x.2.objs.N ∧ x.1.objs.T = x.2.objs.T ∧ x.1.objs.B = x.2.objs.B ∧ x.1.objs.O = x.2.objs.O
  all : ∀ j, j < i → x.1.q.getD j 0 = x.2.q.getD j 0
theorem sameN_of {a b : Nods} (ha : NodsOK a) (hb : NodsOK b) (hl : a.len = b.len) (h : ∀ j, j < a.len.toNat → a.at j = b.at j) : SameN a b := by
  obtain ⟨a1, a2, a3, a4, a5, a6⟩ := ha
  obtain ⟨b1, b2, b3, b4, b5, b6⟩ := hb
  have at_ : ∀ (x : Nods) (j : Nat), (x.at j).kind = x.K.getD j 0 ∧ (x.at j).number = x.N.getD j 0 ∧ (x.at j).parent = x.P.getD j 0 ∧ (x.at j).name = x.S.getD j [] ∧ (x.at j).size = x.Z.getD j 0 := fun x j => ⟨rfl, rfl, rfl, rfl, rfl⟩
  have e : ∀ j, j < a.len.toNat → a.K.getD j 0 = b.K.getD j 0 ∧ a.N.getD j 0 = b.N.getD j 0 ∧ a.P.getD j 0 = b.P.getD j 0 ∧ a.S.getD j [] = b.S.getD j [] ∧ a.Z.getD j 0 = b.Z.getD j 0 := fun j hj => by
    obtain ⟨x1, x2, x3, x4, x5⟩ := at_ a j
    obtain ⟨y1, y2, y3, y4, y5⟩ := at_ b j
    rw [← x1, ← x2, ← x3, ← x4, ← x5, ← y1, ← y2, ← y3, ← y4, ← y5, h j hj]
    exact ⟨rfl, rfl, rfl, rfl, rfl⟩
  exact ⟨list_getD_eqI 0 a1 b1 hl fun j hj => (e j hj).1, list_getD_eqI 0 a2 b2 hl fun j hj => (e j hj).2.1, list_getD_eqI 0 a3 b3 hl fun j hj => (e j hj).2.2.1, list_getD_eqI [] a4 b4 hl fun j hj => (e j hj).2.2.2.1, list_getD_eqI 0 a5 b5 hl fun j hj => (e j hj).2.2.2.2⟩
theorem objs_of {a b : Objs} (ha : ObjsOK a) (hb : ObjsOK b) (hl : a.len = b.len) (h : ∀ j, j < a.len.toNat → ObjEq a b j) : a.N = b.N ∧ a.T = b.T ∧ a.B = b.B ∧ a.O = b.O := by
  obtain ⟨a1, a2, a3, a4, _⟩ := ha
  obtain ⟨b1, b2, b3, b4, _⟩ := hb
  exact ⟨list_getD_eq [] (n := a.len.toNat) (by omega) (by omega) fun j hj => (h j hj).n, list_getD_eq [] (n := a.len.toNat) (by omega) (by omega) fun j hj => (h j hj).t,
    list_getD_eq 0 (n := a.len.toNat) (by omega) (by omega) fun j hj => (h j hj).b, list_getD_eq 0 (n := a.len.toNat) (by omega) (by omega) fun j hj => (h j hj).o⟩
end Go.PL
set_option linter.unusedSectionVars false
set_option linter.unusedSimpArgs false
set_option linter.unusedVariables false
namespace Go.Eng
variable [CW : CWorld]
open Go.Proofs
open Go.PL (Cfg CfgIn CfgOK CfgBad Img RImg Refs Nod Nods Tree Objs Pool Txts)
set_option maxRecDepth 100000
attribute [local irreducible] run
def stree : Spec where
  X := Tree × Tree
  A x := [.agg (treeL x.1), .agg (treeL x.2)]
  H x := []
  pre x := PL.SameTIn x
  outs := [{ Y _ := Unit, post _ _ := True, R x _ := .bool (.x (PL.SameT x.1 x.2)), H' x _ := [] }]
  frz := true
def streeInv (x : Tree × Tree) : Code → List SV → List Blk → List Inv := fun b fr hp => [
  { ι := Nat, fr := fun i => only b fr 4 [] [(5, .int .i64 (.x (i : Int)))], hp := fun i => hp, μ := fun i => x.1.nods.len.toNat - i, ok := fun i => PL.SameTAt x i }]
def streeInvs (x : Tree × Tree) : Invs := fun f n => match f, n with
  | 12, 4 => some (streeInv x)
  | _, _ => none
def streew_vc (ar : AR) (x : stree.X) : Prop :=
  ((¬ar.eq x.fst.files x.snd.files → False) → ((¬ar.eq x.fst.dirs x.snd.dirs → False) → (¬ar.eq x.fst.nods.len x.snd.nods.len → ∃ (y : Unit), True ∧ (false = true ↔ PL.SameT x.fst
  x.snd) ∧ True) ∧ (¬¬ar.eq x.fst.nods.len x.snd.nods.len → (∃ (i : Nat), PL.SameTAt x i ∧ x.fst.files = x.fst.files ∧ x.fst.dirs = x.fst.dirs ∧ x.fst.nods.K = x.fst.nods.K ∧
  x.fst.nods.N = x.fst.nods.N ∧ x.fst.nods.P = x.fst.nods.P ∧ x.fst.nods.S = x.fst.nods.S ∧ x.fst.nods.Z = x.fst.nods.Z ∧ x.fst.nods.len = x.fst.nods.len ∧ x.fst.nods.cap =
  x.fst.nods.cap ∧ x.snd.files = x.snd.files ∧ x.snd.dirs = x.snd.dirs ∧ x.snd.nods.K = x.snd.nods.K ∧ x.snd.nods.N = x.snd.nods.N ∧ x.snd.nods.P = x.snd.nods.P ∧ x.snd.nods.S =
  x.snd.nods.S ∧ x.snd.nods.Z = x.snd.nods.Z ∧ x.snd.nods.len = x.snd.nods.len ∧ x.snd.nods.cap = x.snd.nods.cap ∧ 0 = (↑i : Int) ∧ x.fst.files = x.fst.files ∧ x.fst.dirs =
  x.fst.dirs ∧ x.fst.nods.K = x.fst.nods.K ∧ x.fst.nods.N = x.fst.nods.N ∧ x.fst.nods.P = x.fst.nods.P ∧ x.fst.nods.S = x.fst.nods.S ∧ x.fst.nods.Z = x.fst.nods.Z ∧ x.fst.nods.len
  = x.fst.nods.len ∧ x.fst.nods.cap = x.fst.nods.cap ∧ x.snd.files = x.snd.files ∧ x.snd.dirs = x.snd.dirs ∧ x.snd.nods.K = x.snd.nods.K ∧ x.snd.nods.N = x.snd.nods.N ∧
  x.snd.nods.P = x.snd.nods.P ∧ x.snd.nods.S = x.snd.nods.S ∧ x.snd.nods.Z = x.snd.nods.Z ∧ x.snd.nods.len = x.snd.nods.len ∧ x.snd.nods.cap = x.snd.nods.cap ∧ True) ∧ ∀ (i : Nat),
  PL.SameTAt x i → (ar.lt (↑i : Int) x.fst.nods.len → ar.le 0 (↑i : Int) ∧ ar.lt (↑i : Int) x.fst.nods.len ∧ ar.le 0 (↑i : Int) ∧ ar.lt (↑i : Int) x.snd.nods.len ∧ (¬(ar.eq
  (ar.iget x.fst.nods.K (↑i : Int)) (ar.iget x.snd.nods.K (↑i : Int)) ∧ ar.eq (ar.iget x.fst.nods.N (↑i : Int)) (ar.iget x.snd.nods.N (↑i : Int)) ∧ ar.eq (ar.iget x.fst.nods.P (↑i
  : Int)) (ar.iget x.snd.nods.P (↑i : Int)) ∧ ar.seq (ar.tget x.fst.nods.S (↑i : Int)) (ar.tget x.snd.nods.S (↑i : Int)) ∧ ar.eq (ar.iget x.fst.nods.Z (↑i : Int)) (ar.iget
  x.snd.nods.Z (↑i : Int))) → ∃ (y : Unit), True ∧ (false = true ↔ PL.SameT x.fst x.snd) ∧ True) ∧ (¬¬(ar.eq (ar.iget x.fst.nods.K (↑i : Int)) (ar.iget x.snd.nods.K (↑i : Int)) ∧
  ar.eq (ar.iget x.fst.nods.N (↑i : Int)) (ar.iget x.snd.nods.N (↑i : Int)) ∧ ar.eq (ar.iget x.fst.nods.P (↑i : Int)) (ar.iget x.snd.nods.P (↑i : Int)) ∧ ar.seq (ar.tget
  x.fst.nods.S (↑i : Int)) (ar.tget x.snd.nods.S (↑i : Int)) ∧ ar.eq (ar.iget x.fst.nods.Z (↑i : Int)) (ar.iget x.snd.nods.Z (↑i : Int))) → ∀ (z : Int), z = ar.wrap IntKind.i64
  (ar.add (↑i : Int) 1) → ∃ (j : Nat), PL.SameTAt x j ∧ (x.fst.nods.len.toNat.sub j).lt (x.fst.nods.len.toNat.sub i) ∧ x.fst.files = x.fst.files ∧ x.fst.dirs = x.fst.dirs ∧
  x.fst.nods.K = x.fst.nods.K ∧ x.fst.nods.N = x.fst.nods.N ∧ x.fst.nods.P = x.fst.nods.P ∧ x.fst.nods.S = x.fst.nods.S ∧ x.fst.nods.Z = x.fst.nods.Z ∧ x.fst.nods.len =
  x.fst.nods.len ∧ x.fst.nods.cap = x.fst.nods.cap ∧ x.snd.files = x.snd.files ∧ x.snd.dirs = x.snd.dirs ∧ x.snd.nods.K = x.snd.nods.K ∧ x.snd.nods.N = x.snd.nods.N ∧ x.snd.nods.P
  = x.snd.nods.P ∧ x.snd.nods.S = x.snd.nods.S ∧ x.snd.nods.Z = x.snd.nods.Z ∧ x.snd.nods.len = x.snd.nods.len ∧ x.snd.nods.cap = x.snd.nods.cap ∧ z = (↑j : Int) ∧ x.fst.files =
  x.fst.files ∧ x.fst.dirs = x.fst.dirs ∧ x.fst.nods.K = x.fst.nods.K ∧ x.fst.nods.N = x.fst.nods.N ∧ x.fst.nods.P = x.fst.nods.P ∧ x.fst.nods.S = x.fst.nods.S ∧ x.fst.nods.Z =
  x.fst.nods.Z ∧ x.fst.nods.len = x.fst.nods.len ∧ x.fst.nods.cap = x.fst.nods.cap ∧ x.snd.files = x.snd.files ∧ x.snd.dirs = x.snd.dirs ∧ x.snd.nods.K = x.snd.nods.K ∧
  x.snd.nods.N = x.snd.nods.N ∧ x.snd.nods.P = x.snd.nods.P ∧ x.snd.nods.S = x.snd.nods.S ∧ x.snd.nods.Z = x.snd.nods.Z ∧ x.snd.nods.len = x.snd.nods.len ∧ x.snd.nods.cap =
  x.snd.nods.cap ∧ True)) ∧ (¬ar.lt (↑i : Int) x.fst.nods.len → ∃ (y : Unit), True ∧ (true = true ↔ PL.SameT x.fst x.snd) ∧ True))) ∧ (¬(¬ar.eq x.fst.dirs x.snd.dirs → False) → ∃
  (y : Unit), True ∧ (false = true ↔ PL.SameT x.fst x.snd) ∧ True)) ∧ (¬(¬ar.eq x.fst.files x.snd.files → False) → ∃ (y : Unit), True ∧ (false = true ↔ PL.SameT x.fst x.snd) ∧
  True)
theorem streew_eq (ar : AR) (x : stree.X) : (run ar PP noSpec (streeInvs x) 1000 12 (stree.H x).length (Tryd.f12.body.getD .skip) (stree.A x ++ List.replicate (Tryd.f12.ntmps - (stree.A x).length) .any) (stree.H x) (endCall ar PP Tryd.f12.results.toList (stree.fin x))) = streew_vc ar x := by
  kernel_rfl
theorem streew_of (h : ∀ x, stree.pre x → streew_vc ar0 x) : stree.OK PP 12 :=
  Spec.ok_of_run (fn := Tryd.f12) (c := Tryd.f12.body.getD .skip) (by kernel_rfl) (by kernel_rfl) (by kernel_rfl) noSpec_ok streeInvs 1000 (fun x hx => (streew_eq ar0 x).mpr (h x hx))
theorem stree_ok : stree.OK PP 12 := by
  refine streew_of fun x hx => ?_
  obtain ⟨a, b⟩ := x
  obtain ⟨ha, hb⟩ : PL.SameTIn (a, b) := hx
  simp only at ha hb
  unfold streew_vc
  simp only [ars, ars2, true_and, and_true, exists_const, imp_false, Classical.not_not, Bool.false_eq_true, false_iff, true_iff]
  have a1 := ha.k
  have a6 := ha.cap
  have b1 := hb.k
  refine ⟨fun hf => ⟨fun hd => ⟨fun hl h => hl ?_, fun hl => ⟨⟨0, ⟨by simp only; omega, fun j hj => by omega⟩, rfl⟩, fun i hi => ?_⟩⟩, fun hd h => hd h.dirs⟩, fun hf h => hf h.files⟩
  · rw [← a1, ← b1, h.nods.k]
  · have hle := hi.le
    have hall := hi.all
    simp only at hle hall
    simp only [Int.toNat_natCast]
    refine ⟨fun hlt => ⟨by omega, hlt, by omega, by omega, fun hn h => hn ?_, fun hn z hz => ⟨i + 1, ⟨by simp only; omega, fun j hj => ?_⟩, by omega, ?_⟩⟩, fun hge => ⟨hf, hd, PL.sameN_of ha hb hl fun j hj => hall j (by omega)⟩⟩
    · obtain ⟨h1, h2, h3, h4, h5⟩ := h.nods
      rw [h1, h2, h3, h4, h5]
      exact ⟨rfl, rfl, rfl, rfl, rfl⟩
    · by_cases hji : j = i
      · subst hji
        obtain ⟨h1, h2, h3, h4, h5⟩ := hn
        simp only [PL.Nods.at, h1, h2, h3, h4, h5]
      · exact hall j (by omega)
    · rw [wrap_i64 (by omega) (by omega)] at hz
      omega
def spool : Spec where
  X := Pool × Pool
  A x := [.agg (poolL x.1), .agg (poolL x.2)]
  H x := []
  pre x := PL.SamePIn x
  outs := [{ Y _ := Unit, post _ _ := True, R x _ := .bool (.x (PL.SameP x.1 x.2)), H' x _ := [] }]
  frz := true
def spoolInv (x : Pool × Pool) : Code → List SV → List Blk → List Inv := fun b fr hp => [
  { ι := Nat, fr := fun i => only b fr 4 [] [(5, .int .i64 (.x (i : Int)))], hp := fun i => hp, μ := fun i => x.1.objs.len.toNat - i, ok := fun i => PL.SamePAt x i }]
def spoolInv2 (x : Pool × Pool) : Code → List SV → List Blk → List Inv := fun b fr hp => [
  { ι := Nat, fr := fun i => only b fr 4 [] [(6, .int .i64 (.x (i : Int)))], hp := fun i => hp, μ := fun i => x.1.qlen.toNat - i, ok := fun i => PL.SamePAt2 x i }]
def spoolInvs (x : Pool × Pool) : Invs := fun f n => match f, n with
  | 13, 4 => some (spoolInv x)
  | 13, 9 => some (spoolInv2 x)
  | _, _ => none
def spoolw_vc (ar : AR) (x : spool.X) : Prop :=
  ((¬ar.eq x.fst.objs.len x.snd.objs.len → False) → (¬ar.eq x.fst.qlen x.snd.qlen → ∃ (y : Unit), True ∧ (false = true ↔ PL.SameP x.fst x.snd) ∧ True) ∧ (¬¬ar.eq x.fst.qlen
  x.snd.qlen → (∃ (i : Nat), PL.SamePAt x i ∧ x.fst.objs.N = x.fst.objs.N ∧ x.fst.objs.T = x.fst.objs.T ∧ x.fst.objs.B = x.fst.objs.B ∧ x.fst.objs.O = x.fst.objs.O ∧ x.fst.objs.len
  = x.fst.objs.len ∧ x.fst.objs.cap = x.fst.objs.cap ∧ x.fst.q = x.fst.q ∧ x.fst.qlen = x.fst.qlen ∧ x.fst.qcap = x.fst.qcap ∧ x.snd.objs.N = x.snd.objs.N ∧ x.snd.objs.T =
  x.snd.objs.T ∧ x.snd.objs.B = x.snd.objs.B ∧ x.snd.objs.O = x.snd.objs.O ∧ x.snd.objs.len = x.snd.objs.len ∧ x.snd.objs.cap = x.snd.objs.cap ∧ x.snd.q = x.snd.q ∧ x.snd.qlen =
  x.snd.qlen ∧ x.snd.qcap = x.snd.qcap ∧ 0 = (↑i : Int) ∧ x.fst.objs.N = x.fst.objs.N ∧ x.fst.objs.T = x.fst.objs.T ∧ x.fst.objs.B = x.fst.objs.B ∧ x.fst.objs.O = x.fst.objs.O ∧
  x.fst.objs.len = x.fst.objs.len ∧ x.fst.objs.cap = x.fst.objs.cap ∧ x.fst.q = x.fst.q ∧ x.fst.qlen = x.fst.qlen ∧ x.fst.qcap = x.fst.qcap ∧ x.snd.objs.N = x.snd.objs.N ∧
  x.snd.objs.T = x.snd.objs.T ∧ x.snd.objs.B = x.snd.objs.B ∧ x.snd.objs.O = x.snd.objs.O ∧ x.snd.objs.len = x.snd.objs.len ∧ x.snd.objs.cap = x.snd.objs.cap ∧ x.snd.q = x.snd.q ∧
  x.snd.qlen = x.snd.qlen ∧ x.snd.qcap = x.snd.qcap ∧ True) ∧ ∀ (i : Nat), PL.SamePAt x i → (ar.lt (↑i : Int) x.fst.objs.len → ar.le 0 (↑i : Int) ∧ ar.lt (↑i : Int) x.fst.objs.len
  ∧ ar.le 0 (↑i : Int) ∧ ar.lt (↑i : Int) x.snd.objs.len ∧ (¬(ar.seq (ar.tget x.fst.objs.N (↑i : Int)) (ar.tget x.snd.objs.N (↑i : Int)) ∧ ar.seq (ar.tget x.fst.objs.T (↑i : Int))
  (ar.tget x.snd.objs.T (↑i : Int)) ∧ ar.eq (ar.iget x.fst.objs.B (↑i : Int)) (ar.iget x.snd.objs.B (↑i : Int)) ∧ ar.eq (ar.iget x.fst.objs.O (↑i : Int)) (ar.iget x.snd.objs.O (↑i
  : Int))) → ∃ (y : Unit), True ∧ (false = true ↔ PL.SameP x.fst x.snd) ∧ True) ∧ (¬¬(ar.seq (ar.tget x.fst.objs.N (↑i : Int)) (ar.tget x.snd.objs.N (↑i : Int)) ∧ ar.seq (ar.tget
  x.fst.objs.T (↑i : Int)) (ar.tget x.snd.objs.T (↑i : Int)) ∧ ar.eq (ar.iget x.fst.objs.B (↑i : Int)) (ar.iget x.snd.objs.B (↑i : Int)) ∧ ar.eq (ar.iget x.fst.objs.O (↑i : Int))
  (ar.iget x.snd.objs.O (↑i : Int))) → ∀ (z : Int), z = ar.wrap IntKind.i64 (ar.add (↑i : Int) 1) → ∃ (j : Nat), PL.SamePAt x j ∧ (x.fst.objs.len.toNat.sub j).lt
  (x.fst.objs.len.toNat.sub i) ∧ x.fst.objs.N = x.fst.objs.N ∧ x.fst.objs.T = x.fst.objs.T ∧ x.fst.objs.B = x.fst.objs.B ∧ x.fst.objs.O = x.fst.objs.O ∧ x.fst.objs.len =
  x.fst.objs.len ∧ x.fst.objs.cap = x.fst.objs.cap ∧ x.fst.q = x.fst.q ∧ x.fst.qlen = x.fst.qlen ∧ x.fst.qcap = x.fst.qcap ∧ x.snd.objs.N = x.snd.objs.N ∧ x.snd.objs.T =
  x.snd.objs.T ∧ x.snd.objs.B = x.snd.objs.B ∧ x.snd.objs.O = x.snd.objs.O ∧ x.snd.objs.len = x.snd.objs.len ∧ x.snd.objs.cap = x.snd.objs.cap ∧ x.snd.q = x.snd.q ∧ x.snd.qlen =
  x.snd.qlen ∧ x.snd.qcap = x.snd.qcap ∧ z = (↑j : Int) ∧ x.fst.objs.N = x.fst.objs.N ∧ x.fst.objs.T = x.fst.objs.T ∧ x.fst.objs.B = x.fst.objs.B ∧ x.fst.objs.O = x.fst.objs.O ∧
  x.fst.objs.len = x.fst.objs.len ∧ x.fst.objs.cap = x.fst.objs.cap ∧ x.fst.q = x.fst.q ∧ x.fst.qlen = x.fst.qlen ∧ x.fst.qcap = x.fst.qcap ∧ x.snd.objs.N = x.snd.objs.N ∧
  x.snd.objs.T = x.snd.objs.T ∧ x.snd.objs.B = x.snd.objs.B ∧ x.snd.objs.O = x.snd.objs.O ∧ x.snd.objs.len = x.snd.objs.len ∧ x.snd.objs.cap = x.snd.objs.cap ∧ x.snd.q = x.snd.q ∧
  x.snd.qlen = x.snd.qlen ∧ x.snd.qcap = x.snd.qcap ∧ True)) ∧ (¬ar.lt (↑i : Int) x.fst.objs.len → (∃ (i : Nat), PL.SamePAt2 x i ∧ x.fst.objs.N = x.fst.objs.N ∧ x.fst.objs.T =
  x.fst.objs.T ∧ x.fst.objs.B = x.fst.objs.B ∧ x.fst.objs.O = x.fst.objs.O ∧ x.fst.objs.len = x.fst.objs.len ∧ x.fst.objs.cap = x.fst.objs.cap ∧ x.fst.q = x.fst.q ∧ x.fst.qlen =
  x.fst.qlen ∧ x.fst.qcap = x.fst.qcap ∧ x.snd.objs.N = x.snd.objs.N ∧ x.snd.objs.T = x.snd.objs.T ∧ x.snd.objs.B = x.snd.objs.B ∧ x.snd.objs.O = x.snd.objs.O ∧ x.snd.objs.len =
  x.snd.objs.len ∧ x.snd.objs.cap = x.snd.objs.cap ∧ x.snd.q = x.snd.q ∧ x.snd.qlen = x.snd.qlen ∧ x.snd.qcap = x.snd.qcap ∧ 0 = (↑i : Int) ∧ x.fst.objs.N = x.fst.objs.N ∧
  x.fst.objs.T = x.fst.objs.T ∧ x.fst.objs.B = x.fst.objs.B ∧ x.fst.objs.O = x.fst.objs.O ∧ x.fst.objs.len = x.fst.objs.len ∧ x.fst.objs.cap = x.fst.objs.cap ∧ x.fst.q = x.fst.q ∧
  x.fst.qlen = x.fst.qlen ∧ x.fst.qcap = x.fst.qcap ∧ x.snd.objs.N = x.snd.objs.N ∧ x.snd.objs.T = x.snd.objs.T ∧ x.snd.objs.B = x.snd.objs.B ∧ x.snd.objs.O = x.snd.objs.O ∧
  x.snd.objs.len = x.snd.objs.len ∧ x.snd.objs.cap = x.snd.objs.cap ∧ x.snd.q = x.snd.q ∧ x.snd.qlen = x.snd.qlen ∧ x.snd.qcap = x.snd.qcap ∧ True) ∧ ∀ (i : Nat), PL.SamePAt2 x i →
  (ar.lt (↑i : Int) x.fst.qlen → ar.le 0 (↑i : Int) ∧ ar.lt (↑i : Int) x.fst.qlen ∧ ar.le 0 (↑i : Int) ∧ ar.lt (↑i : Int) x.snd.qlen ∧ (¬ar.eq (ar.iget x.fst.q (↑i : Int)) (ar.iget
  x.snd.q (↑i : Int)) → ∃ (y : Unit), True ∧ (false = true ↔ PL.SameP x.fst x.snd) ∧ True) ∧ (¬¬ar.eq (ar.iget x.fst.q (↑i : Int)) (ar.iget x.snd.q (↑i : Int)) → ∀ (z : Int), z =
  ar.wrap IntKind.i64 (ar.add (↑i : Int) 1) → ∃ (j : Nat), PL.SamePAt2 x j ∧ (x.fst.qlen.toNat.sub j).lt (x.fst.qlen.toNat.sub i) ∧ x.fst.objs.N = x.fst.objs.N ∧ x.fst.objs.T =
  x.fst.objs.T ∧ x.fst.objs.B = x.fst.objs.B ∧ x.fst.objs.O = x.fst.objs.O ∧ x.fst.objs.len = x.fst.objs.len ∧ x.fst.objs.cap = x.fst.objs.cap ∧ x.fst.q = x.fst.q ∧ x.fst.qlen =
  x.fst.qlen ∧ x.fst.qcap = x.fst.qcap ∧ x.snd.objs.N = x.snd.objs.N ∧ x.snd.objs.T = x.snd.objs.T ∧ x.snd.objs.B = x.snd.objs.B ∧ x.snd.objs.O = x.snd.objs.O ∧ x.snd.objs.len =
  x.snd.objs.len ∧ x.snd.objs.cap = x.snd.objs.cap ∧ x.snd.q = x.snd.q ∧ x.snd.qlen = x.snd.qlen ∧ x.snd.qcap = x.snd.qcap ∧ z = (↑j : Int) ∧ x.fst.objs.N = x.fst.objs.N ∧
  x.fst.objs.T = x.fst.objs.T ∧ x.fst.objs.B = x.fst.objs.B ∧ x.fst.objs.O = x.fst.objs.O ∧ x.fst.objs.len = x.fst.objs.len ∧ x.fst.objs.cap = x.fst.objs.cap ∧ x.fst.q = x.fst.q ∧
  x.fst.qlen = x.fst.qlen ∧ x.fst.qcap = x.fst.qcap ∧ x.snd.objs.N = x.snd.objs.N ∧ x.snd.objs.T = x.snd.objs.T ∧ x.snd.objs.B = x.snd.objs.B ∧ x.snd.objs.O = x.snd.objs.O ∧
  x.snd.objs.len = x.snd.objs.len ∧ x.snd.objs.cap = x.snd.objs.cap ∧ x.snd.q = x.snd.q ∧ x.snd.qlen = x.snd.qlen ∧ x.snd.qcap = x.snd.qcap ∧ True)) ∧ (¬ar.lt (↑i : Int) x.fst.qlen
  → ∃ (y : Unit), True ∧ (true = true ↔ PL.SameP x.fst x.snd) ∧ True)))) ∧ (¬(¬ar.eq x.fst.objs.len x.snd.objs.len → False) → ∃ (y : Unit), True ∧ (false = true ↔ PL.SameP x.fst
  x.snd) ∧ True)
theorem spoolw_eq (ar : AR) (x : spool.X) : (run ar PP noSpec (spoolInvs x) 1000 13 (spool.H x).length (Tryd.f13.body.getD .skip) (spool.A x ++ List.replicate (Tryd.f13.ntmps - (spool.A x).length) .any) (spool.H x) (endCall ar PP Tryd.f13.results.toList (spool.fin x))) = spoolw_vc ar x := by
  kernel_rfl
theorem spoolw_of (h : ∀ x, spool.pre x → spoolw_vc ar0 x) : spool.OK PP 13 :=
  Spec.ok_of_run (fn := Tryd.f13) (c := Tryd.f13.body.getD .skip) (by kernel_rfl) (by kernel_rfl) (by kernel_rfl) noSpec_ok spoolInvs 1000 (fun x hx => (spoolw_eq ar0 x).mpr (h x hx))
theorem spool_ok : spool.OK PP 13 := by
  refine spoolw_of fun x hx => ?_
  obtain ⟨a, b⟩ := x
  obtain ⟨⟨ha, hqa, hla⟩, ⟨hb, hqb, hlb⟩⟩ : PL.SamePIn (a, b) := hx
  simp only at ha hb hqa hqb hla hlb
  unfold spoolw_vc
  simp only [ars, ars2, true_and, and_true, exists_const, imp_false, Classical.not_not, Bool.false_eq_true, false_iff, true_iff]
  have a1 := ha.n
  have a6 := ha.le
  have b1 := hb.n
  refine ⟨fun hl => ⟨fun hq h => hq ?_, fun hq => ⟨⟨0, ⟨by simp only; omega, fun j hj => by omega⟩, rfl⟩, fun i hi => ?_⟩⟩, fun hl h => hl ?_⟩
  · rw [← hqa, ← hqb, h.q]
  · have hle := hi.le
    have hall := hi.all
    simp only at hle hall
    simp only [Int.toNat_natCast]
    refine ⟨fun hlt => ⟨by omega, hlt, by omega, by omega, fun hn h => hn ?_, fun hn z hz => ⟨i + 1, ⟨by simp only; omega, fun j hj => ?_⟩, by omega, ?_⟩⟩, fun hge => ?_⟩
    · obtain ⟨h1, h2, h3, h4, h5⟩ := h
      rw [h1, h2, h3, h4]
      exact ⟨rfl, rfl, rfl, rfl⟩
    · by_cases hji : j = i
      · subst hji
        obtain ⟨h1, h2, h3, h4⟩ := hn
        exact ⟨h1, h2, h3, h4⟩
      · exact hall j (by omega)
    · rw [wrap_i64 (by omega) (by omega)] at hz
      omega
    · have ho := PL.objs_of ha hb hl fun j hj => hall j (by omega)
      refine ⟨⟨0, ⟨by simp only; omega, ho, fun j hj => by omega⟩, rfl⟩, fun i hi => ?_⟩
      have hle := hi.le
      have hall := hi.all
      simp only at hle hall
      refine ⟨fun hlt => ⟨by omega, hlt, by omega, by omega, fun hn h => hn (by rw [h.q]), fun hn z hz => ⟨i + 1, ⟨by simp only; omega, ho, fun j hj => ?_⟩, by omega, ?_⟩⟩, fun hge => ?_⟩
      · by_cases hji : j = i
        · subst hji; exact hn
        · exact hall j (by omega)
      · rw [wrap_i64 (by omega) (by omega)] at hz
        omega
      · obtain ⟨o1, o2, o3, o4⟩ := ho
        exact ⟨o1, o2, o3, o4, PL.list_getD_eq 0 (n := a.qlen.toNat) (by omega) (by omega) fun j hj => hall j (by omega)⟩
  · rw [← a1, ← b1, h.n]
end Go.Eng

