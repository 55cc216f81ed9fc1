/- Are all pages of one length? IndexFunc, ContainsFunc with Decode's test. -/
import Derived.Test.YtfcjboomlfjanaaDoorIxC
set_option linter.unusedVariables false
set_option linter.unusedSimpArgs false
/- Index: noughts. -/
namespace Go.PL
structure NZ (l : List UInt8) : Prop where
  nz : ∃ b ∈ l, b ≠ 0
structure NouIn (x : RImg × Int) : Prop where
  img : RImgOK x.1 x.2
  le : x.2 ≤ 65536
structure NouAt (x : RImg × Int) (i : Nat) : Prop where
  le : (i : Int) ≤ x.2
theorem nz_nil : ¬ NZ [] := fun h => by obtain ⟨b, hb, _⟩ := h.nz; cases hb
theorem nz_snoc {l : List UInt8} {b : UInt8} : NZ (l ++ [b]) ↔ NZ l ∨ b ≠ 0 := by
  constructor
  · rintro ⟨c, hc, h⟩
    rcases List.mem_append.1 hc with hc | hc
    · exact .inl ⟨c, hc, h⟩
    · exact .inr (by simpa [List.mem_singleton.1 hc] using h)
  · rintro (⟨c, hc, h⟩ | h)
    · exact ⟨c, List.mem_append_left _ hc, h⟩
    · exact ⟨b, by simp, h⟩
def RImg.nou (m : RImg) (n : Int) (i : Nat) : RImg := ⟨m.l, m.cap, m.bad ∨ NZ ((dropk m.l m.k n).take i), m.k⟩
end Go.PL
set_option linter.unusedSectionVars false
set_option linter.unusedSimpArgs false
set_option linter.unusedVariables false
namespace Go.Eng
variable [CW : CWorld]
open Go.Proofs Go.PL
set_option maxRecDepth 100000
def nouSpec : Spec where
  X := RImg × Int
  A x := [.ptr 0 (.l 0), .int .i64 (.x x.2)]
  H x := rimgH x.1 0
  pre x := PL.NouIn x
  outs := [{ Y _ := Unit, post _ _ := True, R x _ := .tup [], H' x _ := rimgH (x.1.nou x.2 x.2.toNat) x.2 }]
def nouInv (x : RImg × Int) : Code → List SV → List Blk → List Inv := fun b fr hp => [
  { ι := Nat, fr := fun i => upd (havoc b fr) [(10, .int .i64 (.x (i : Int)))], hp := fun i => rimgH (x.1.nou x.2 i) x.2, μ := fun i => x.2.toNat - i, ok := fun i => PL.NouAt x i }]
def nouInvs (x : RImg × Int) : Invs := fun f n => match f, n with
  | 60, 1 => some (nouInv x)
  | _, _ => none
def nou_vc (ar : AR) (x : nouSpec.X) : Prop :=
  ∃ (x_1 : RImg × Int), x.snd = x_1.snd ∧ (Nat.add 0 ((x.fst.k.add 0).toNat.mul 1)).add 0 = (Nat.add 0 ((x_1.1.k.add 0).toNat.mul 1)).add 0 ∧ (↑x.fst.l.length : Int).sub
  (x.fst.k.add 0) = (↑x_1.1.l.length : Int).sub (x_1.1.k.add 0) ∧ x.fst.cap.sub (x.fst.k.add 0) = x_1.1.cap.sub (x_1.1.k.add 0) ∧ (x.fst.bad ↔ x_1.1.3) ∧ x.fst.cap = x_1.1.cap ∧
  ints x.fst.l = ints x_1.1.l ∧ RImgOK x_1.fst x_1.snd ∧ ∀ (y : Unit), True → (∃ (i : Nat), NouAt x i ∧ x.snd = x.snd ∧ x.snd = x.snd ∧ (Nat.add 0 (x_1.1.k.toNat.mul 1)).add 0 =
  (Nat.add 0 (x_1.1.k.toNat.mul 1)).add 0 ∧ x_1.snd = x_1.snd ∧ x_1.1.cap.sub x_1.1.k = x_1.1.cap.sub x_1.1.k ∧ x_1.snd = x_1.snd ∧ 0 = (↑i : Int) ∧ (Nat.add 0 ((x_1.1.k.add
  x_1.snd).toNat.mul 1)).add 0 = (Nat.add 0 ((x.fst.k.add x.snd).toNat.mul 1)).add 0 ∧ (↑x_1.1.l.length : Int).sub (x_1.1.k.add x_1.snd) = (↑x.fst.l.length : Int).sub (x.fst.k.add
  x.snd) ∧ x_1.1.cap.sub (x_1.1.k.add x_1.snd) = x.fst.cap.sub (x.fst.k.add x.snd) ∧ (x_1.1.3 ↔ x.fst.bad ∨ NZ (List.take i (dropk x.fst.l x.fst.k x.snd))) ∧ x_1.1.cap = x.fst.cap
  ∧ ints x_1.1.l = ints x.fst.l ∧ True) ∧ ∀ (i : Nat), NouAt x i → (ar.lt (↑i : Int) x_1.snd → ar.le 0 (↑i : Int) ∧ ar.lt (↑i : Int) x_1.snd ∧ ar.le 0 x_1.1.k ∧ ar.le 0 (ar.add
  x_1.1.k (↑i : Int)) ∧ ar.lt (ar.add x_1.1.k (↑i : Int)) (ar.ilen (ints x.fst.l)) ∧ ((x.fst.bad ∨ NZ (List.take i (dropk x.fst.l x.fst.k x.snd)) → False) → ∀ (z : Int), z =
  ar.wrap IntKind.i64 (ar.add (↑i : Int) 1) → ∃ (j : Nat), NouAt x j ∧ (x.snd.toNat.sub j).lt (x.snd.toNat.sub i) ∧ x.snd = x.snd ∧ x.snd = x.snd ∧ (Nat.add 0 (x_1.1.k.toNat.mul
  1)).add 0 = (Nat.add 0 (x_1.1.k.toNat.mul 1)).add 0 ∧ x_1.snd = x_1.snd ∧ x_1.1.cap.sub x_1.1.k = x_1.1.cap.sub x_1.1.k ∧ x_1.snd = x_1.snd ∧ z = (↑j : Int) ∧ (Nat.add 0
  ((x.fst.k.add x.snd).toNat.mul 1)).add 0 = (Nat.add 0 ((x.fst.k.add x.snd).toNat.mul 1)).add 0 ∧ (↑x.fst.l.length : Int).sub (x.fst.k.add x.snd) = (↑x.fst.l.length : Int).sub
  (x.fst.k.add x.snd) ∧ x.fst.cap.sub (x.fst.k.add x.snd) = x.fst.cap.sub (x.fst.k.add x.snd) ∧ (ar.eq (ar.iget (ints x.fst.l) (ar.add x_1.1.k (↑i : Int))) 0 → False ↔ x.fst.bad ∨
  NZ (List.take j (dropk x.fst.l x.fst.k x.snd))) ∧ x.fst.cap = x.fst.cap ∧ ints x.fst.l = ints x.fst.l ∧ True) ∧ (¬(x.fst.bad ∨ NZ (List.take i (dropk x.fst.l x.fst.k x.snd)) →
  False) → ∀ (z : Int), z = ar.wrap IntKind.i64 (ar.add (↑i : Int) 1) → ∃ (j : Nat), NouAt x j ∧ (x.snd.toNat.sub j).lt (x.snd.toNat.sub i) ∧ x.snd = x.snd ∧ x.snd = x.snd ∧
  (Nat.add 0 (x_1.1.k.toNat.mul 1)).add 0 = (Nat.add 0 (x_1.1.k.toNat.mul 1)).add 0 ∧ x_1.snd = x_1.snd ∧ x_1.1.cap.sub x_1.1.k = x_1.1.cap.sub x_1.1.k ∧ x_1.snd = x_1.snd ∧ z =
  (↑j : Int) ∧ (Nat.add 0 ((x.fst.k.add x.snd).toNat.mul 1)).add 0 = (Nat.add 0 ((x.fst.k.add x.snd).toNat.mul 1)).add 0 ∧ (↑x.fst.l.length : Int).sub (x.fst.k.add x.snd) =
  (↑x.fst.l.length : Int).sub (x.fst.k.add x.snd) ∧ x.fst.cap.sub (x.fst.k.add x.snd) = x.fst.cap.sub (x.fst.k.add x.snd) ∧ (true = true ↔ x.fst.bad ∨ NZ (List.take j (dropk
  x.fst.l x.fst.k x.snd))) ∧ x.fst.cap = x.fst.cap ∧ ints x.fst.l = ints x.fst.l ∧ True)) ∧ (¬ar.lt (↑i : Int) x_1.snd → ∃ (y : Unit), True ∧ (Nat.add 0 ((x.fst.k.add
  x.snd).toNat.mul 1)).add 0 = (Nat.add 0 ((x.fst.k.add x.snd).toNat.mul 1)).add 0 ∧ (↑x.fst.l.length : Int).sub (x.fst.k.add x.snd) = (↑x.fst.l.length : Int).sub (x.fst.k.add
  x.snd) ∧ x.fst.cap.sub (x.fst.k.add x.snd) = x.fst.cap.sub (x.fst.k.add x.snd) ∧ (x.fst.bad ∨ NZ (List.take i (dropk x.fst.l x.fst.k x.snd)) ↔ x.fst.bad ∨ NZ (List.take
  x.snd.toNat (dropk x.fst.l x.fst.k x.snd))) ∧ x.fst.cap = x.fst.cap ∧ ints x.fst.l = ints x.fst.l ∧ True)
theorem nou_eq (ar : AR) (x : nouSpec.X) : (run ar PP tSpecs (nouInvs x) 1000 60 (nouSpec.H x).length (Tryd.f60.body.getD .skip) (nouSpec.A x ++ List.replicate (Tryd.f60.ntmps - (nouSpec.A x).length) .any) (nouSpec.H x) (endCall ar PP Tryd.f60.results.toList (nouSpec.fin x))) = nou_vc ar x := by
  kernel_rfl
theorem nou_of (h : ∀ x, nouSpec.pre x → nou_vc ar0 x) : nouSpec.OK PP 60 :=
  Spec.ok_of_run (fn := Tryd.f60) (c := Tryd.f60.body.getD .skip) (by kernel_rfl) (by kernel_rfl) (by kernel_rfl) tSpecs_ok nouInvs 1000 (fun x hx => (nou_eq ar0 x).mpr (h x hx))
theorem nouSpec_ok : nouSpec.OK PP 60 := by
  refine nou_of fun x hx => ?_
  obtain ⟨m, n⟩ := x
  obtain ⟨⟨h1, h2, h3, h4⟩, h7⟩ : PL.NouIn (m, n) := hx
  simp only at h1 h2 h3 h4 h7
  unfold nou_vc
  have hl := PL.dropk_length h2 h3 h4
  simp only [ars, ars2, true_and, and_true, exists_const, Int.add_zero, iff_self]
  refine ⟨(m, n), rfl, rfl, rfl, rfl, Iff.rfl, rfl, rfl, ⟨h1, h2, h3, h4⟩, fun _ _ => ⟨⟨0, ⟨by simpa using h3⟩, rfl, rfl, rfl, rfl, by simp [nz_nil], rfl, rfl⟩, fun i hi => ?_⟩⟩
  obtain ⟨hi⟩ := hi
  simp only at hi
  simp only [PL.ints_length]
  have hs : (i : Int) < n → (NZ (List.take (i + 1) (dropk m.l m.k n)) ↔ NZ (List.take i (dropk m.l m.k n)) ∨ ((PL.ints m.l).getD (m.k + (i : Int)).toNat 0 = 0 → False)) := fun hlt => by
    have hk : (m.k + (i : Int)).toNat < m.l.length := by omega
    have hd : (PL.dropk m.l m.k n)[i]'(by omega) = m.l[(m.k + (i : Int)).toNat] := by
      simp only [PL.dropk, List.getElem_take, List.getElem_drop]
      congr 1
      omega
    rw [PL.take_snoc (by omega), nz_snoc, hd, PL.ints_get hk]
    refine or_congr Iff.rfl (not_congr ⟨fun h => by rw [h]; rfl, fun h => UInt8.toNat_inj.1 (by exact_mod_cast h)⟩)
  refine ⟨fun hlt => ⟨by omega, hlt, h2, by omega, by omega, fun hb z hz => ?_, fun hb z hz => ?_⟩, fun hge => ?_⟩
  · rw [wrap_i64 (by omega) (by omega)] at hz
    refine ⟨i + 1, ⟨by simp only; omega⟩, by omega, by omega, ?_⟩
    rw [hs hlt, ← or_assoc]
    exact ⟨.inr, fun h => h.elim (fun h => (hb h).elim) id⟩
  · rw [wrap_i64 (by omega) (by omega)] at hz
    refine ⟨i + 1, ⟨by simp only; omega⟩, by omega, by omega, ?_⟩
    rw [hs hlt, ← or_assoc]
    exact ⟨fun _ => .inl (Classical.byContradiction hb), fun _ => trivial⟩
  · rw [List.take_of_length_le (l := dropk m.l m.k n) (i := i) (by omega), List.take_of_length_le (by omega)]
end Go.Eng
/- Index: a row of a node, read. -/
namespace Go.PL
def rsz (kind : Int) : Int := if kind = 2 then 40 else 36
def fstB (m : RImg) : Int := numB (dropk m.l m.k 1)
def lngB (m : RImg) : Int := numB (dropk m.l (m.k + 3) 1)
def lngC (m : RImg) : Int := if 32 < lngB m then 0 else lngB m
def rdK (m : RImg) (kind : Int) : Int := if fstB m = 0 then 0 else kind
def rdN (m : RImg) (num : Int) : Int := if fstB m = 0 then 0 else num
def rdP (m : RImg) : Int := if fstB m = 0 then 0 else numB (dropk m.l (m.k + 1) 2)
def rdS (m : RImg) : List UInt8 := if fstB m = 0 then [] else dropk m.l (m.k + 4) (lngC m)
def rdZ (m : RImg) (kind : Int) : Int := if fstB m = 0 then 0 else if kind = 2 then numB (dropk m.l (m.k + 36) 4) else 0
def BadRow (m : RImg) (kind : Int) : Prop :=
  if fstB m = 0 then NZ (dropk m.l (m.k + 1) (rsz kind - 1)) else fstB m ≠ 1 ∨ 32 < lngB m ∨ NZ (dropk m.l (m.k + 4 + lngC m) (32 - lngC m))
def RImg.row (m : RImg) (kind : Int) : RImg := ⟨m.l, m.cap, m.bad ∨ BadRow m kind, m.k⟩
theorem rdK_0 {m : RImg} {kind : Int} (h : numB (dropk m.l m.k 1) = 0) : rdK m kind = 0 := if_pos h
theorem rdN_0 {m : RImg} {num : Int} (h : numB (dropk m.l m.k 1) = 0) : rdN m num = 0 := if_pos h
theorem rdP_0 {m : RImg} (h : numB (dropk m.l m.k 1) = 0) : rdP m = 0 := if_pos h
theorem rdS_0 {m : RImg} (h : numB (dropk m.l m.k 1) = 0) : rdS m = [] := if_pos h
theorem rdZ_0 {m : RImg} {kind : Int} (h : numB (dropk m.l m.k 1) = 0) : rdZ m kind = 0 := if_pos h
theorem bad_0 {m : RImg} {kind : Int} (h : numB (dropk m.l m.k 1) = 0) : BadRow m kind ↔ NZ (dropk m.l (m.k + 1) (rsz kind - 1)) := by unfold BadRow; rw [if_pos (show fstB m = 0 from h)]
theorem rdK_1 {m : RImg} {kind : Int} (h : ¬ numB (dropk m.l m.k 1) = 0) : rdK m kind = kind := if_neg h
theorem rdN_1 {m : RImg} {num : Int} (h : ¬ numB (dropk m.l m.k 1) = 0) : rdN m num = num := if_neg h
theorem rdP_1 {m : RImg} (h : ¬ numB (dropk m.l m.k 1) = 0) : rdP m = numB (dropk m.l (m.k + 1) 2) := if_neg h
theorem rdZ_1 {m : RImg} {kind : Int} (h : ¬ numB (dropk m.l m.k 1) = 0) (h2 : ¬ kind = 2) : rdZ m kind = 0 := by unfold rdZ; rw [if_neg (show ¬ fstB m = 0 from h), if_neg h2]
theorem rdZ_2 {m : RImg} {kind : Int} (h : ¬ numB (dropk m.l m.k 1) = 0) (h2 : kind = 2) : rdZ m kind = numB (dropk m.l (m.k + 36) 4) := by unfold rdZ; rw [if_neg (show ¬ fstB m = 0 from h), if_pos h2]
theorem lngC_1 {m : RImg} (h : 32 < numB (dropk m.l (m.k + 3) 1)) : lngC m = 0 := if_pos h
theorem lngC_2 {m : RImg} (h : ¬ 32 < numB (dropk m.l (m.k + 3) 1)) : lngC m = numB (dropk m.l (m.k + 3) 1) := if_neg h
theorem rdS_1 {m : RImg} (h : ¬ numB (dropk m.l m.k 1) = 0) (h2 : 32 < numB (dropk m.l (m.k + 3) 1)) : rdS m = [] := by
  unfold rdS; rw [if_neg (show ¬ fstB m = 0 from h), lngC_1 h2]; simp [dropk]
theorem rdS_2 {m : RImg} (h : ¬ numB (dropk m.l m.k 1) = 0) (h2 : ¬ 32 < numB (dropk m.l (m.k + 3) 1)) : rdS m = dropk m.l (m.k + 4) (numB (dropk m.l (m.k + 3) 1)) := by
  unfold rdS; rw [if_neg (show ¬ fstB m = 0 from h), lngC_2 h2]
theorem bad_1 {m : RImg} {kind : Int} (h : ¬ numB (dropk m.l m.k 1) = 0) (h2 : 32 < numB (dropk m.l (m.k + 3) 1)) : BadRow m kind ↔ True := by
  unfold BadRow; rw [if_neg (show ¬ fstB m = 0 from h)]; exact ⟨fun _ => trivial, fun _ => .inr (.inl h2)⟩
theorem bad_2 {m : RImg} {kind : Int} (h : ¬ numB (dropk m.l m.k 1) = 0) (h1 : ¬ numB (dropk m.l m.k 1) = 1) : BadRow m kind ↔ True := by
  unfold BadRow; rw [if_neg (show ¬ fstB m = 0 from h)]; exact ⟨fun _ => trivial, fun _ => .inl h1⟩
theorem bad_3 {m : RImg} {kind : Int} (h1 : numB (dropk m.l m.k 1) = 1) (h2 : ¬ 32 < numB (dropk m.l (m.k + 3) 1)) :
    BadRow m kind ↔ NZ (dropk m.l (m.k + 4 + numB (dropk m.l (m.k + 3) 1)) (32 - numB (dropk m.l (m.k + 3) 1))) := by
  have h : ¬ fstB m = 0 := by unfold fstB; omega
  unfold BadRow; rw [if_neg h, lngC_2 h2]
  exact ⟨fun h => h.elim (fun h => (h h1).elim) fun h => h.elim (fun h => (h2 h).elim) id, fun h => .inr (.inr h)⟩
structure NRowIn (x : RImg × Int × Int) : Prop where
  img : RImgOK x.1 (rsz x.2.1)
  kind : x.2.1 = 1 ∨ x.2.1 = 2
end Go.PL
set_option linter.unusedSectionVars false
set_option linter.unusedSimpArgs false
set_option linter.unusedVariables false
namespace Go.Eng
variable [CW : CWorld]
open Go.Proofs Go.PL
set_option maxRecDepth 100000
theorem ex_rimgB {v K cap : Int} {L : List UInt8} {b : Prop} {Q : RImg × Int → Prop} :
    (∃ x : RImg × Int, v = x.2 ∧ 0 + K.toNat * 1 + 0 = 0 + x.1.k.toNat * 1 + 0 ∧ (L.length : Int) - K = (x.1.l.length : Int) - x.1.k ∧ cap - K = x.1.cap - x.1.k ∧ (b ↔ x.1.bad) ∧ cap = x.1.cap ∧ PL.ints L = PL.ints x.1.l ∧ Q x) ↔
      Q (⟨L, cap, b, K⟩, v) := by
  constructor
  · rintro ⟨⟨⟨l, c, d, k'⟩, e⟩, h1, h2, h3, h4, h5, h6, h7, h⟩
    simp only at h1 h2 h3 h4 h5 h6 h7
    have := PL.ints_inj h7
    have h5 := propext h5
    subst h1 h6 this h5
    have : k' = K := by omega
    subst this
    exact h
  · exact fun h => ⟨_, rfl, rfl, rfl, rfl, Iff.rfl, rfl, rfl, h⟩
def rowRSpec : Spec where
  X := RImg × Int × Int
  A x := [.ptr 0 (.l 0), .int .i64 (.x x.2.1), .int .i64 (.x x.2.2)]
  H x := rimgH x.1 0
  pre x := PL.NRowIn x
  outs := [{ Y _ := Unit, post _ _ := True, R x _ := .agg [.int .i64 (.x (PL.rdK x.1 x.2.1)), .int .i64 (.x (PL.rdN x.1 x.2.2)), .int .i64 (.x (PL.rdP x.1)), .str (PL.rdS x.1), .int .i64 (.x (PL.rdZ x.1 x.2.1))], H' x _ := rimgH (x.1.row x.2.1) (PL.rsz x.2.1) }]
noncomputable def rowRSpecs : Specs := fun f xs hp => match f with
  | 32 => some takeSpec
  | 33 => some numberSpec
  | 60 => some nouSpec
  | _ => noSpec f xs hp
theorem rowRSpecs_ok : SpecsOK PP rowRSpecs := by
  intro CW f xs hp S h
  unfold rowRSpecs at h
  split at h
  · cases h; exact takeSpec_ok
  · cases h; exact numberSpec_ok
  · cases h; exact nouSpec_ok
  · exact noSpec_ok CW f xs hp S h
def rowR_vc (ar : AR) (x : rowRSpec.X) : Prop :=
  (ar.eq x.snd.fst 2 → ∃ (x_1 : RImg × Int), 1 = x_1.snd ∧ (Nat.add 0 ((x.fst.k.add 0).toNat.mul 1)).add 0 = (Nat.add 0 ((x_1.1.k.add 0).toNat.mul 1)).add 0 ∧ (↑x.fst.l.length :
  Int).sub (x.fst.k.add 0) = (↑x_1.1.l.length : Int).sub (x_1.1.k.add 0) ∧ x.fst.cap.sub (x.fst.k.add 0) = x_1.1.cap.sub (x_1.1.k.add 0) ∧ (x.fst.bad ↔ x_1.1.3) ∧ x.fst.cap =
  x_1.1.cap ∧ ints x.fst.l = ints x_1.1.l ∧ NumIn x_1 ∧ ∀ (y : Unit), True → (ar.eq (numB (dropk x_1.1.l x_1.1.k x_1.snd)) 0 → ∃ (x_2 : RImg × Int), 39 = x_2.snd ∧ (Nat.add 0
  ((x_1.1.k.add x_1.snd).toNat.mul 1)).add 0 = (Nat.add 0 ((x_2.1.k.add 0).toNat.mul 1)).add 0 ∧ (↑x_1.1.l.length : Int).sub (x_1.1.k.add x_1.snd) = (↑x_2.1.l.length : Int).sub
  (x_2.1.k.add 0) ∧ x_1.1.cap.sub (x_1.1.k.add x_1.snd) = x_2.1.cap.sub (x_2.1.k.add 0) ∧ (x_1.1.3 ↔ x_2.1.3) ∧ x_1.1.cap = x_2.1.cap ∧ ints x_1.1.l = ints x_2.1.l ∧ NouIn x_2 ∧ ∀
  (y : Unit), True → ∃ (y : Unit), True ∧ 0 = rdK x.fst x.snd.fst ∧ 0 = rdN x.fst x.snd.snd ∧ 0 = rdP x.fst ∧ [] = rdS x.fst ∧ 0 = rdZ x.fst x.snd.fst ∧ (Nat.add 0 ((x_2.1.k.add
  x_2.snd).toNat.mul 1)).add 0 = (Nat.add 0 ((x.fst.k.add (rsz x.snd.fst)).toNat.mul 1)).add 0 ∧ (↑x_2.1.l.length : Int).sub (x_2.1.k.add x_2.snd) = (↑x.fst.l.length : Int).sub
  (x.fst.k.add (rsz x.snd.fst)) ∧ x_2.1.cap.sub (x_2.1.k.add x_2.snd) = x.fst.cap.sub (x.fst.k.add (rsz x.snd.fst)) ∧ (x_2.1.bad ∨ NZ (List.take x_2.snd.toNat (dropk x_2.1.l
  x_2.1.k x_2.snd)) ↔ x.fst.bad ∨ BadRow x.fst x.snd.fst) ∧ x_2.1.cap = x.fst.cap ∧ ints x_2.1.l = ints x.fst.l ∧ True) ∧ (¬ar.eq (numB (dropk x_1.1.l x_1.1.k x_1.snd)) 0 → (ar.eq
  (numB (dropk x_1.1.l x_1.1.k x_1.snd)) 1 → ∃ (x_2 : RImg × Int), 2 = x_2.snd ∧ (Nat.add 0 ((x_1.1.k.add x_1.snd).toNat.mul 1)).add 0 = (Nat.add 0 ((x_2.1.k.add 0).toNat.mul
  1)).add 0 ∧ (↑x_1.1.l.length : Int).sub (x_1.1.k.add x_1.snd) = (↑x_2.1.l.length : Int).sub (x_2.1.k.add 0) ∧ x_1.1.cap.sub (x_1.1.k.add x_1.snd) = x_2.1.cap.sub (x_2.1.k.add 0)
  ∧ (x_1.1.3 ↔ x_2.1.3) ∧ x_1.1.cap = x_2.1.cap ∧ ints x_1.1.l = ints x_2.1.l ∧ NumIn x_2 ∧ ∀ (y : Unit), True → ∃ (x_3 : RImg × Int), 1 = x_3.snd ∧ (Nat.add 0 ((x_2.1.k.add
  x_2.snd).toNat.mul 1)).add 0 = (Nat.add 0 ((x_3.1.k.add 0).toNat.mul 1)).add 0 ∧ (↑x_2.1.l.length : Int).sub (x_2.1.k.add x_2.snd) = (↑x_3.1.l.length : Int).sub (x_3.1.k.add 0) ∧
  x_2.1.cap.sub (x_2.1.k.add x_2.snd) = x_3.1.cap.sub (x_3.1.k.add 0) ∧ (x_2.1.3 ↔ x_3.1.3) ∧ x_2.1.cap = x_3.1.cap ∧ ints x_2.1.l = ints x_3.1.l ∧ NumIn x_3 ∧ ∀ (y : Unit), True →
  (ar.lt 32 (numB (dropk x_3.1.l x_3.1.k x_3.snd)) → ∃ (x_4 : RImg × Int), 0 = x_4.snd ∧ (Nat.add 0 ((x_3.1.k.add x_3.snd).toNat.mul 1)).add 0 = (Nat.add 0 ((x_4.1.k.add
  0).toNat.mul 1)).add 0 ∧ (↑x_3.1.l.length : Int).sub (x_3.1.k.add x_3.snd) = (↑x_4.1.l.length : Int).sub (x_4.1.k.add 0) ∧ x_3.1.cap.sub (x_3.1.k.add x_3.snd) = x_4.1.cap.sub
  (x_4.1.k.add 0) ∧ (true = true ↔ x_4.1.3) ∧ x_3.1.cap = x_4.1.cap ∧ ints x_3.1.l = ints x_4.1.l ∧ RImgOK x_4.fst x_4.snd ∧ ∀ (y : Unit), True → ar.le 0 x_4.1.k ∧ ar.le (ar.add
  x_4.1.k x_4.snd) (ar.ilen (ints x_4.1.l)) ∧ ∀ (t : List UInt8), t = ar.bytes (ar.isub (ints x_4.1.l) x_4.1.k x_4.snd) → ∃ (x_5 : RImg × Int), 32 = x_5.snd ∧ (Nat.add 0
  ((x_4.1.k.add x_4.snd).toNat.mul 1)).add 0 = (Nat.add 0 ((x_5.1.k.add 0).toNat.mul 1)).add 0 ∧ (↑x_4.1.l.length : Int).sub (x_4.1.k.add x_4.snd) = (↑x_5.1.l.length : Int).sub
  (x_5.1.k.add 0) ∧ x_4.1.cap.sub (x_4.1.k.add x_4.snd) = x_5.1.cap.sub (x_5.1.k.add 0) ∧ (x_4.1.3 ↔ x_5.1.3) ∧ x_4.1.cap = x_5.1.cap ∧ ints x_4.1.l = ints x_5.1.l ∧ NouIn x_5 ∧ ∀
  (y : Unit), True → (ar.eq x.snd.fst 2 → ∃ (x_6 : RImg × Int), 4 = x_6.snd ∧ (Nat.add 0 ((x_5.1.k.add x_5.snd).toNat.mul 1)).add 0 = (Nat.add 0 ((x_6.1.k.add 0).toNat.mul 1)).add
  0 ∧ (↑x_5.1.l.length : Int).sub (x_5.1.k.add x_5.snd) = (↑x_6.1.l.length : Int).sub (x_6.1.k.add 0) ∧ x_5.1.cap.sub (x_5.1.k.add x_5.snd) = x_6.1.cap.sub (x_6.1.k.add 0) ∧
  (x_5.1.bad ∨ NZ (List.take x_5.snd.toNat (dropk x_5.1.l x_5.1.k x_5.snd)) ↔ x_6.1.3) ∧ x_5.1.cap = x_6.1.cap ∧ ints x_5.1.l = ints x_6.1.l ∧ NumIn x_6 ∧ ∀ (y : Unit), True → ∃ (y
  : Unit), True ∧ x.snd.fst = rdK x.fst x.snd.fst ∧ x.snd.snd = rdN x.fst x.snd.snd ∧ numB (dropk x_2.1.l x_2.1.k x_2.snd) = rdP x.fst ∧ t = rdS x.fst ∧ numB (dropk x_6.1.l x_6.1.k
  x_6.snd) = rdZ x.fst x.snd.fst ∧ (Nat.add 0 ((x_6.1.k.add x_6.snd).toNat.mul 1)).add 0 = (Nat.add 0 ((x.fst.k.add (rsz x.snd.fst)).toNat.mul 1)).add 0 ∧ (↑x_6.1.l.length :
  Int).sub (x_6.1.k.add x_6.snd) = (↑x.fst.l.length : Int).sub (x.fst.k.add (rsz x.snd.fst)) ∧ x_6.1.cap.sub (x_6.1.k.add x_6.snd) = x.fst.cap.sub (x.fst.k.add (rsz x.snd.fst)) ∧
  (x_6.1.3 ↔ x.fst.bad ∨ BadRow x.fst x.snd.fst) ∧ x_6.1.cap = x.fst.cap ∧ ints x_6.1.l = ints x.fst.l ∧ True) ∧ (¬ar.eq x.snd.fst 2 → ∃ (y : Unit), True ∧ x.snd.fst = rdK x.fst
  x.snd.fst ∧ x.snd.snd = rdN x.fst x.snd.snd ∧ numB (dropk x_2.1.l x_2.1.k x_2.snd) = rdP x.fst ∧ t = rdS x.fst ∧ 0 = rdZ x.fst x.snd.fst ∧ (Nat.add 0 ((x_5.1.k.add
  x_5.snd).toNat.mul 1)).add 0 = (Nat.add 0 ((x.fst.k.add (rsz x.snd.fst)).toNat.mul 1)).add 0 ∧ (↑x_5.1.l.length : Int).sub (x_5.1.k.add x_5.snd) = (↑x.fst.l.length : Int).sub
  (x.fst.k.add (rsz x.snd.fst)) ∧ x_5.1.cap.sub (x_5.1.k.add x_5.snd) = x.fst.cap.sub (x.fst.k.add (rsz x.snd.fst)) ∧ (x_5.1.bad ∨ NZ (List.take x_5.snd.toNat (dropk x_5.1.l
  x_5.1.k x_5.snd)) ↔ x.fst.bad ∨ BadRow x.fst x.snd.fst) ∧ x_5.1.cap = x.fst.cap ∧ ints x_5.1.l = ints x.fst.l ∧ True)) ∧ (¬ar.lt 32 (numB (dropk x_3.1.l x_3.1.k x_3.snd)) → ∃
  (x_4 : RImg × Int), numB (dropk x_3.1.l x_3.1.k x_3.snd) = x_4.snd ∧ (Nat.add 0 ((x_3.1.k.add x_3.snd).toNat.mul 1)).add 0 = (Nat.add 0 ((x_4.1.k.add 0).toNat.mul 1)).add 0 ∧
  (↑x_3.1.l.length : Int).sub (x_3.1.k.add x_3.snd) = (↑x_4.1.l.length : Int).sub (x_4.1.k.add 0) ∧ x_3.1.cap.sub (x_3.1.k.add x_3.snd) = x_4.1.cap.sub (x_4.1.k.add 0) ∧ (x_3.1.3 ↔
  x_4.1.3) ∧ x_3.1.cap = x_4.1.cap ∧ ints x_3.1.l = ints x_4.1.l ∧ RImgOK x_4.fst x_4.snd ∧ ∀ (y : Unit), True → ar.le 0 x_4.1.k ∧ ar.le (ar.add x_4.1.k x_4.snd) (ar.ilen (ints
  x_4.1.l)) ∧ ∀ (t : List UInt8), t = ar.bytes (ar.isub (ints x_4.1.l) x_4.1.k x_4.snd) → ∀ (z : Int), z = ar.wrap IntKind.i64 (ar.sub 32 (numB (dropk x_3.1.l x_3.1.k x_3.snd))) →
  ∃ (x_5 : RImg × Int), z = x_5.snd ∧ (Nat.add 0 ((x_4.1.k.add x_4.snd).toNat.mul 1)).add 0 = (Nat.add 0 ((x_5.1.k.add 0).toNat.mul 1)).add 0 ∧ (↑x_4.1.l.length : Int).sub
  (x_4.1.k.add x_4.snd) = (↑x_5.1.l.length : Int).sub (x_5.1.k.add 0) ∧ x_4.1.cap.sub (x_4.1.k.add x_4.snd) = x_5.1.cap.sub (x_5.1.k.add 0) ∧ (x_4.1.3 ↔ x_5.1.3) ∧ x_4.1.cap =
  x_5.1.cap ∧ ints x_4.1.l = ints x_5.1.l ∧ NouIn x_5 ∧ ∀ (y : Unit), True → (ar.eq x.snd.fst 2 → ∃ (x_6 : RImg × Int), 4 = x_6.snd ∧ (Nat.add 0 ((x_5.1.k.add x_5.snd).toNat.mul
  1)).add 0 = (Nat.add 0 ((x_6.1.k.add 0).toNat.mul 1)).add 0 ∧ (↑x_5.1.l.length : Int).sub (x_5.1.k.add x_5.snd) = (↑x_6.1.l.length : Int).sub (x_6.1.k.add 0) ∧ x_5.1.cap.sub
  (x_5.1.k.add x_5.snd) = x_6.1.cap.sub (x_6.1.k.add 0) ∧ (x_5.1.bad ∨ NZ (List.take x_5.snd.toNat (dropk x_5.1.l x_5.1.k x_5.snd)) ↔ x_6.1.3) ∧ x_5.1.cap = x_6.1.cap ∧ ints
  x_5.1.l = ints x_6.1.l ∧ NumIn x_6 ∧ ∀ (y : Unit), True → ∃ (y : Unit), True ∧ x.snd.fst = rdK x.fst x.snd.fst ∧ x.snd.snd = rdN x.fst x.snd.snd ∧ numB (dropk x_2.1.l x_2.1.k
  x_2.snd) = rdP x.fst ∧ t = rdS x.fst ∧ numB (dropk x_6.1.l x_6.1.k x_6.snd) = rdZ x.fst x.snd.fst ∧ (Nat.add 0 ((x_6.1.k.add x_6.snd).toNat.mul 1)).add 0 = (Nat.add 0
  ((x.fst.k.add (rsz x.snd.fst)).toNat.mul 1)).add 0 ∧ (↑x_6.1.l.length : Int).sub (x_6.1.k.add x_6.snd) = (↑x.fst.l.length : Int).sub (x.fst.k.add (rsz x.snd.fst)) ∧ x_6.1.cap.sub
  (x_6.1.k.add x_6.snd) = x.fst.cap.sub (x.fst.k.add (rsz x.snd.fst)) ∧ (x_6.1.3 ↔ x.fst.bad ∨ BadRow x.fst x.snd.fst) ∧ x_6.1.cap = x.fst.cap ∧ ints x_6.1.l = ints x.fst.l ∧ True)
  ∧ (¬ar.eq x.snd.fst 2 → ∃ (y : Unit), True ∧ x.snd.fst = rdK x.fst x.snd.fst ∧ x.snd.snd = rdN x.fst x.snd.snd ∧ numB (dropk x_2.1.l x_2.1.k x_2.snd) = rdP x.fst ∧ t = rdS x.fst
  ∧ 0 = rdZ x.fst x.snd.fst ∧ (Nat.add 0 ((x_5.1.k.add x_5.snd).toNat.mul 1)).add 0 = (Nat.add 0 ((x.fst.k.add (rsz x.snd.fst)).toNat.mul 1)).add 0 ∧ (↑x_5.1.l.length : Int).sub
  (x_5.1.k.add x_5.snd) = (↑x.fst.l.length : Int).sub (x.fst.k.add (rsz x.snd.fst)) ∧ x_5.1.cap.sub (x_5.1.k.add x_5.snd) = x.fst.cap.sub (x.fst.k.add (rsz x.snd.fst)) ∧ (x_5.1.bad
  ∨ NZ (List.take x_5.snd.toNat (dropk x_5.1.l x_5.1.k x_5.snd)) ↔ x.fst.bad ∨ BadRow x.fst x.snd.fst) ∧ x_5.1.cap = x.fst.cap ∧ ints x_5.1.l = ints x.fst.l ∧ True))) ∧ (¬ar.eq
  (numB (dropk x_1.1.l x_1.1.k x_1.snd)) 1 → ∃ (x_2 : RImg × Int), 2 = x_2.snd ∧ (Nat.add 0 ((x_1.1.k.add x_1.snd).toNat.mul 1)).add 0 = (Nat.add 0 ((x_2.1.k.add 0).toNat.mul
  1)).add 0 ∧ (↑x_1.1.l.length : Int).sub (x_1.1.k.add x_1.snd) = (↑x_2.1.l.length : Int).sub (x_2.1.k.add 0) ∧ x_1.1.cap.sub (x_1.1.k.add x_1.snd) = x_2.1.cap.sub (x_2.1.k.add 0)
  ∧ (true = true ↔ x_2.1.3) ∧ x_1.1.cap = x_2.1.cap ∧ ints x_1.1.l = ints x_2.1.l ∧ NumIn x_2 ∧ ∀ (y : Unit), True → ∃ (x_3 : RImg × Int), 1 = x_3.snd ∧ (Nat.add 0 ((x_2.1.k.add
  x_2.snd).toNat.mul 1)).add 0 = (Nat.add 0 ((x_3.1.k.add 0).toNat.mul 1)).add 0 ∧ (↑x_2.1.l.length : Int).sub (x_2.1.k.add x_2.snd) = (↑x_3.1.l.length : Int).sub (x_3.1.k.add 0) ∧
  x_2.1.cap.sub (x_2.1.k.add x_2.snd) = x_3.1.cap.sub (x_3.1.k.add 0) ∧ (x_2.1.3 ↔ x_3.1.3) ∧ x_2.1.cap = x_3.1.cap ∧ ints x_2.1.l = ints x_3.1.l ∧ NumIn x_3 ∧ ∀ (y : Unit), True →
  (ar.lt 32 (numB (dropk x_3.1.l x_3.1.k x_3.snd)) → ∃ (x_4 : RImg × Int), 0 = x_4.snd ∧ (Nat.add 0 ((x_3.1.k.add x_3.snd).toNat.mul 1)).add 0 = (Nat.add 0 ((x_4.1.k.add
  0).toNat.mul 1)).add 0 ∧ (↑x_3.1.l.length : Int).sub (x_3.1.k.add x_3.snd) = (↑x_4.1.l.length : Int).sub (x_4.1.k.add 0) ∧ x_3.1.cap.sub (x_3.1.k.add x_3.snd) = x_4.1.cap.sub
  (x_4.1.k.add 0) ∧ (true = true ↔ x_4.1.3) ∧ x_3.1.cap = x_4.1.cap ∧ ints x_3.1.l = ints x_4.1.l ∧ RImgOK x_4.fst x_4.snd ∧ ∀ (y : Unit), True → ar.le 0 x_4.1.k ∧ ar.le (ar.add
  x_4.1.k x_4.snd) (ar.ilen (ints x_4.1.l)) ∧ ∀ (t : List UInt8), t = ar.bytes (ar.isub (ints x_4.1.l) x_4.1.k x_4.snd) → ∃ (x_5 : RImg × Int), 32 = x_5.snd ∧ (Nat.add 0
  ((x_4.1.k.add x_4.snd).toNat.mul 1)).add 0 = (Nat.add 0 ((x_5.1.k.add 0).toNat.mul 1)).add 0 ∧ (↑x_4.1.l.length : Int).sub (x_4.1.k.add x_4.snd) = (↑x_5.1.l.length : Int).sub
  (x_5.1.k.add 0) ∧ x_4.1.cap.sub (x_4.1.k.add x_4.snd) = x_5.1.cap.sub (x_5.1.k.add 0) ∧ (x_4.1.3 ↔ x_5.1.3) ∧ x_4.1.cap = x_5.1.cap ∧ ints x_4.1.l = ints x_5.1.l ∧ NouIn x_5 ∧ ∀
  (y : Unit), True → (ar.eq x.snd.fst 2 → ∃ (x_6 : RImg × Int), 4 = x_6.snd ∧ (Nat.add 0 ((x_5.1.k.add x_5.snd).toNat.mul 1)).add 0 = (Nat.add 0 ((x_6.1.k.add 0).toNat.mul 1)).add
  0 ∧ (↑x_5.1.l.length : Int).sub (x_5.1.k.add x_5.snd) = (↑x_6.1.l.length : Int).sub (x_6.1.k.add 0) ∧ x_5.1.cap.sub (x_5.1.k.add x_5.snd) = x_6.1.cap.sub (x_6.1.k.add 0) ∧
  (x_5.1.bad ∨ NZ (List.take x_5.snd.toNat (dropk x_5.1.l x_5.1.k x_5.snd)) ↔ x_6.1.3) ∧ x_5.1.cap = x_6.1.cap ∧ ints x_5.1.l = ints x_6.1.l ∧ NumIn x_6 ∧ ∀ (y : Unit), True → ∃ (y
  : Unit), True ∧ x.snd.fst = rdK x.fst x.snd.fst ∧ x.snd.snd = rdN x.fst x.snd.snd ∧ numB (dropk x_2.1.l x_2.1.k x_2.snd) = rdP x.fst ∧ t = rdS x.fst ∧ numB (dropk x_6.1.l x_6.1.k
  x_6.snd) = rdZ x.fst x.snd.fst ∧ (Nat.add 0 ((x_6.1.k.add x_6.snd).toNat.mul 1)).add 0 = (Nat.add 0 ((x.fst.k.add (rsz x.snd.fst)).toNat.mul 1)).add 0 ∧ (↑x_6.1.l.length :
  Int).sub (x_6.1.k.add x_6.snd) = (↑x.fst.l.length : Int).sub (x.fst.k.add (rsz x.snd.fst)) ∧ x_6.1.cap.sub (x_6.1.k.add x_6.snd) = x.fst.cap.sub (x.fst.k.add (rsz x.snd.fst)) ∧
  (x_6.1.3 ↔ x.fst.bad ∨ BadRow x.fst x.snd.fst) ∧ x_6.1.cap = x.fst.cap ∧ ints x_6.1.l = ints x.fst.l ∧ True) ∧ (¬ar.eq x.snd.fst 2 → ∃ (y : Unit), True ∧ x.snd.fst = rdK x.fst
  x.snd.fst ∧ x.snd.snd = rdN x.fst x.snd.snd ∧ numB (dropk x_2.1.l x_2.1.k x_2.snd) = rdP x.fst ∧ t = rdS x.fst ∧ 0 = rdZ x.fst x.snd.fst ∧ (Nat.add 0 ((x_5.1.k.add
  x_5.snd).toNat.mul 1)).add 0 = (Nat.add 0 ((x.fst.k.add (rsz x.snd.fst)).toNat.mul 1)).add 0 ∧ (↑x_5.1.l.length : Int).sub (x_5.1.k.add x_5.snd) = (↑x.fst.l.length : Int).sub
  (x.fst.k.add (rsz x.snd.fst)) ∧ x_5.1.cap.sub (x_5.1.k.add x_5.snd) = x.fst.cap.sub (x.fst.k.add (rsz x.snd.fst)) ∧ (x_5.1.bad ∨ NZ (List.take x_5.snd.toNat (dropk x_5.1.l
  x_5.1.k x_5.snd)) ↔ x.fst.bad ∨ BadRow x.fst x.snd.fst) ∧ x_5.1.cap = x.fst.cap ∧ ints x_5.1.l = ints x.fst.l ∧ True)) ∧ (¬ar.lt 32 (numB (dropk x_3.1.l x_3.1.k x_3.snd)) → ∃
  (x_4 : RImg × Int), numB (dropk x_3.1.l x_3.1.k x_3.snd) = x_4.snd ∧ (Nat.add 0 ((x_3.1.k.add x_3.snd).toNat.mul 1)).add 0 = (Nat.add 0 ((x_4.1.k.add 0).toNat.mul 1)).add 0 ∧
  (↑x_3.1.l.length : Int).sub (x_3.1.k.add x_3.snd) = (↑x_4.1.l.length : Int).sub (x_4.1.k.add 0) ∧ x_3.1.cap.sub (x_3.1.k.add x_3.snd) = x_4.1.cap.sub (x_4.1.k.add 0) ∧ (x_3.1.3 ↔
  x_4.1.3) ∧ x_3.1.cap = x_4.1.cap ∧ ints x_3.1.l = ints x_4.1.l ∧ RImgOK x_4.fst x_4.snd ∧ ∀ (y : Unit), True → ar.le 0 x_4.1.k ∧ ar.le (ar.add x_4.1.k x_4.snd) (ar.ilen (ints
  x_4.1.l)) ∧ ∀ (t : List UInt8), t = ar.bytes (ar.isub (ints x_4.1.l) x_4.1.k x_4.snd) → ∀ (z : Int), z = ar.wrap IntKind.i64 (ar.sub 32 (numB (dropk x_3.1.l x_3.1.k x_3.snd))) →
  ∃ (x_5 : RImg × Int), z = x_5.snd ∧ (Nat.add 0 ((x_4.1.k.add x_4.snd).toNat.mul 1)).add 0 = (Nat.add 0 ((x_5.1.k.add 0).toNat.mul 1)).add 0 ∧ (↑x_4.1.l.length : Int).sub
  (x_4.1.k.add x_4.snd) = (↑x_5.1.l.length : Int).sub (x_5.1.k.add 0) ∧ x_4.1.cap.sub (x_4.1.k.add x_4.snd) = x_5.1.cap.sub (x_5.1.k.add 0) ∧ (x_4.1.3 ↔ x_5.1.3) ∧ x_4.1.cap =
  x_5.1.cap ∧ ints x_4.1.l = ints x_5.1.l ∧ NouIn x_5 ∧ ∀ (y : Unit), True → (ar.eq x.snd.fst 2 → ∃ (x_6 : RImg × Int), 4 = x_6.snd ∧ (Nat.add 0 ((x_5.1.k.add x_5.snd).toNat.mul
  1)).add 0 = (Nat.add 0 ((x_6.1.k.add 0).toNat.mul 1)).add 0 ∧ (↑x_5.1.l.length : Int).sub (x_5.1.k.add x_5.snd) = (↑x_6.1.l.length : Int).sub (x_6.1.k.add 0) ∧ x_5.1.cap.sub
  (x_5.1.k.add x_5.snd) = x_6.1.cap.sub (x_6.1.k.add 0) ∧ (x_5.1.bad ∨ NZ (List.take x_5.snd.toNat (dropk x_5.1.l x_5.1.k x_5.snd)) ↔ x_6.1.3) ∧ x_5.1.cap = x_6.1.cap ∧ ints
  x_5.1.l = ints x_6.1.l ∧ NumIn x_6 ∧ ∀ (y : Unit), True → ∃ (y : Unit), True ∧ x.snd.fst = rdK x.fst x.snd.fst ∧ x.snd.snd = rdN x.fst x.snd.snd ∧ numB (dropk x_2.1.l x_2.1.k
  x_2.snd) = rdP x.fst ∧ t = rdS x.fst ∧ numB (dropk x_6.1.l x_6.1.k x_6.snd) = rdZ x.fst x.snd.fst ∧ (Nat.add 0 ((x_6.1.k.add x_6.snd).toNat.mul 1)).add 0 = (Nat.add 0
  ((x.fst.k.add (rsz x.snd.fst)).toNat.mul 1)).add 0 ∧ (↑x_6.1.l.length : Int).sub (x_6.1.k.add x_6.snd) = (↑x.fst.l.length : Int).sub (x.fst.k.add (rsz x.snd.fst)) ∧ x_6.1.cap.sub
  (x_6.1.k.add x_6.snd) = x.fst.cap.sub (x.fst.k.add (rsz x.snd.fst)) ∧ (x_6.1.3 ↔ x.fst.bad ∨ BadRow x.fst x.snd.fst) ∧ x_6.1.cap = x.fst.cap ∧ ints x_6.1.l = ints x.fst.l ∧ True)
  ∧ (¬ar.eq x.snd.fst 2 → ∃ (y : Unit), True ∧ x.snd.fst = rdK x.fst x.snd.fst ∧ x.snd.snd = rdN x.fst x.snd.snd ∧ numB (dropk x_2.1.l x_2.1.k x_2.snd) = rdP x.fst ∧ t = rdS x.fst
  ∧ 0 = rdZ x.fst x.snd.fst ∧ (Nat.add 0 ((x_5.1.k.add x_5.snd).toNat.mul 1)).add 0 = (Nat.add 0 ((x.fst.k.add (rsz x.snd.fst)).toNat.mul 1)).add 0 ∧ (↑x_5.1.l.length : Int).sub
  (x_5.1.k.add x_5.snd) = (↑x.fst.l.length : Int).sub (x.fst.k.add (rsz x.snd.fst)) ∧ x_5.1.cap.sub (x_5.1.k.add x_5.snd) = x.fst.cap.sub (x.fst.k.add (rsz x.snd.fst)) ∧ (x_5.1.bad
  ∨ NZ (List.take x_5.snd.toNat (dropk x_5.1.l x_5.1.k x_5.snd)) ↔ x.fst.bad ∨ BadRow x.fst x.snd.fst) ∧ x_5.1.cap = x.fst.cap ∧ ints x_5.1.l = ints x.fst.l ∧ True))))) ∧ (¬ar.eq
  x.snd.fst 2 → ∃ (x_1 : RImg × Int), 1 = x_1.snd ∧ (Nat.add 0 ((x.fst.k.add 0).toNat.mul 1)).add 0 = (Nat.add 0 ((x_1.1.k.add 0).toNat.mul 1)).add 0 ∧ (↑x.fst.l.length : Int).sub
  (x.fst.k.add 0) = (↑x_1.1.l.length : Int).sub (x_1.1.k.add 0) ∧ x.fst.cap.sub (x.fst.k.add 0) = x_1.1.cap.sub (x_1.1.k.add 0) ∧ (x.fst.bad ↔ x_1.1.3) ∧ x.fst.cap = x_1.1.cap ∧
  ints x.fst.l = ints x_1.1.l ∧ NumIn x_1 ∧ ∀ (y : Unit), True → (ar.eq (numB (dropk x_1.1.l x_1.1.k x_1.snd)) 0 → ∃ (x_2 : RImg × Int), 35 = x_2.snd ∧ (Nat.add 0 ((x_1.1.k.add
  x_1.snd).toNat.mul 1)).add 0 = (Nat.add 0 ((x_2.1.k.add 0).toNat.mul 1)).add 0 ∧ (↑x_1.1.l.length : Int).sub (x_1.1.k.add x_1.snd) = (↑x_2.1.l.length : Int).sub (x_2.1.k.add 0) ∧
  x_1.1.cap.sub (x_1.1.k.add x_1.snd) = x_2.1.cap.sub (x_2.1.k.add 0) ∧ (x_1.1.3 ↔ x_2.1.3) ∧ x_1.1.cap = x_2.1.cap ∧ ints x_1.1.l = ints x_2.1.l ∧ NouIn x_2 ∧ ∀ (y : Unit), True →
  ∃ (y : Unit), True ∧ 0 = rdK x.fst x.snd.fst ∧ 0 = rdN x.fst x.snd.snd ∧ 0 = rdP x.fst ∧ [] = rdS x.fst ∧ 0 = rdZ x.fst x.snd.fst ∧ (Nat.add 0 ((x_2.1.k.add x_2.snd).toNat.mul
  1)).add 0 = (Nat.add 0 ((x.fst.k.add (rsz x.snd.fst)).toNat.mul 1)).add 0 ∧ (↑x_2.1.l.length : Int).sub (x_2.1.k.add x_2.snd) = (↑x.fst.l.length : Int).sub (x.fst.k.add (rsz
  x.snd.fst)) ∧ x_2.1.cap.sub (x_2.1.k.add x_2.snd) = x.fst.cap.sub (x.fst.k.add (rsz x.snd.fst)) ∧ (x_2.1.bad ∨ NZ (List.take x_2.snd.toNat (dropk x_2.1.l x_2.1.k x_2.snd)) ↔
  x.fst.bad ∨ BadRow x.fst x.snd.fst) ∧ x_2.1.cap = x.fst.cap ∧ ints x_2.1.l = ints x.fst.l ∧ True) ∧ (¬ar.eq (numB (dropk x_1.1.l x_1.1.k x_1.snd)) 0 → (ar.eq (numB (dropk x_1.1.l
  x_1.1.k x_1.snd)) 1 → ∃ (x_2 : RImg × Int), 2 = x_2.snd ∧ (Nat.add 0 ((x_1.1.k.add x_1.snd).toNat.mul 1)).add 0 = (Nat.add 0 ((x_2.1.k.add 0).toNat.mul 1)).add 0 ∧
  (↑x_1.1.l.length : Int).sub (x_1.1.k.add x_1.snd) = (↑x_2.1.l.length : Int).sub (x_2.1.k.add 0) ∧ x_1.1.cap.sub (x_1.1.k.add x_1.snd) = x_2.1.cap.sub (x_2.1.k.add 0) ∧ (x_1.1.3 ↔
  x_2.1.3) ∧ x_1.1.cap = x_2.1.cap ∧ ints x_1.1.l = ints x_2.1.l ∧ NumIn x_2 ∧ ∀ (y : Unit), True → ∃ (x_3 : RImg × Int), 1 = x_3.snd ∧ (Nat.add 0 ((x_2.1.k.add x_2.snd).toNat.mul
  1)).add 0 = (Nat.add 0 ((x_3.1.k.add 0).toNat.mul 1)).add 0 ∧ (↑x_2.1.l.length : Int).sub (x_2.1.k.add x_2.snd) = (↑x_3.1.l.length : Int).sub (x_3.1.k.add 0) ∧ x_2.1.cap.sub
  (x_2.1.k.add x_2.snd) = x_3.1.cap.sub (x_3.1.k.add 0) ∧ (x_2.1.3 ↔ x_3.1.3) ∧ x_2.1.cap = x_3.1.cap ∧ ints x_2.1.l = ints x_3.1.l ∧ NumIn x_3 ∧ ∀ (y : Unit), True → (ar.lt 32
  (numB (dropk x_3.1.l x_3.1.k x_3.snd)) → ∃ (x_4 : RImg × Int), 0 = x_4.snd ∧ (Nat.add 0 ((x_3.1.k.add x_3.snd).toNat.mul 1)).add 0 = (Nat.add 0 ((x_4.1.k.add 0).toNat.mul 1)).add
  0 ∧ (↑x_3.1.l.length : Int).sub (x_3.1.k.add x_3.snd) = (↑x_4.1.l.length : Int).sub (x_4.1.k.add 0) ∧ x_3.1.cap.sub (x_3.1.k.add x_3.snd) = x_4.1.cap.sub (x_4.1.k.add 0) ∧ (true
  = true ↔ x_4.1.3) ∧ x_3.1.cap = x_4.1.cap ∧ ints x_3.1.l = ints x_4.1.l ∧ RImgOK x_4.fst x_4.snd ∧ ∀ (y : Unit), True → ar.le 0 x_4.1.k ∧ ar.le (ar.add x_4.1.k x_4.snd) (ar.ilen
  (ints x_4.1.l)) ∧ ∀ (t : List UInt8), t = ar.bytes (ar.isub (ints x_4.1.l) x_4.1.k x_4.snd) → ∃ (x_5 : RImg × Int), 32 = x_5.snd ∧ (Nat.add 0 ((x_4.1.k.add x_4.snd).toNat.mul
  1)).add 0 = (Nat.add 0 ((x_5.1.k.add 0).toNat.mul 1)).add 0 ∧ (↑x_4.1.l.length : Int).sub (x_4.1.k.add x_4.snd) = (↑x_5.1.l.length : Int).sub (x_5.1.k.add 0) ∧ x_4.1.cap.sub
  (x_4.1.k.add x_4.snd) = x_5.1.cap.sub (x_5.1.k.add 0) ∧ (x_4.1.3 ↔ x_5.1.3) ∧ x_4.1.cap = x_5.1.cap ∧ ints x_4.1.l = ints x_5.1.l ∧ NouIn x_5 ∧ ∀ (y : Unit), True → (ar.eq
  x.snd.fst 2 → ∃ (x_6 : RImg × Int), 4 = x_6.snd ∧ (Nat.add 0 ((x_5.1.k.add x_5.snd).toNat.mul 1)).add 0 = (Nat.add 0 ((x_6.1.k.add 0).toNat.mul 1)).add 0 ∧ (↑x_5.1.l.length :
  Int).sub (x_5.1.k.add x_5.snd) = (↑x_6.1.l.length : Int).sub (x_6.1.k.add 0) ∧ x_5.1.cap.sub (x_5.1.k.add x_5.snd) = x_6.1.cap.sub (x_6.1.k.add 0) ∧ (x_5.1.bad ∨ NZ (List.take
  x_5.snd.toNat (dropk x_5.1.l x_5.1.k x_5.snd)) ↔ x_6.1.3) ∧ x_5.1.cap = x_6.1.cap ∧ ints x_5.1.l = ints x_6.1.l ∧ NumIn x_6 ∧ ∀ (y : Unit), True → ∃ (y : Unit), True ∧ x.snd.fst
  = rdK x.fst x.snd.fst ∧ x.snd.snd = rdN x.fst x.snd.snd ∧ numB (dropk x_2.1.l x_2.1.k x_2.snd) = rdP x.fst ∧ t = rdS x.fst ∧ numB (dropk x_6.1.l x_6.1.k x_6.snd) = rdZ x.fst
  x.snd.fst ∧ (Nat.add 0 ((x_6.1.k.add x_6.snd).toNat.mul 1)).add 0 = (Nat.add 0 ((x.fst.k.add (rsz x.snd.fst)).toNat.mul 1)).add 0 ∧ (↑x_6.1.l.length : Int).sub (x_6.1.k.add
  x_6.snd) = (↑x.fst.l.length : Int).sub (x.fst.k.add (rsz x.snd.fst)) ∧ x_6.1.cap.sub (x_6.1.k.add x_6.snd) = x.fst.cap.sub (x.fst.k.add (rsz x.snd.fst)) ∧ (x_6.1.3 ↔ x.fst.bad ∨
  BadRow x.fst x.snd.fst) ∧ x_6.1.cap = x.fst.cap ∧ ints x_6.1.l = ints x.fst.l ∧ True) ∧ (¬ar.eq x.snd.fst 2 → ∃ (y : Unit), True ∧ x.snd.fst = rdK x.fst x.snd.fst ∧ x.snd.snd =
  rdN x.fst x.snd.snd ∧ numB (dropk x_2.1.l x_2.1.k x_2.snd) = rdP x.fst ∧ t = rdS x.fst ∧ 0 = rdZ x.fst x.snd.fst ∧ (Nat.add 0 ((x_5.1.k.add x_5.snd).toNat.mul 1)).add 0 =
  (Nat.add 0 ((x.fst.k.add (rsz x.snd.fst)).toNat.mul 1)).add 0 ∧ (↑x_5.1.l.length : Int).sub (x_5.1.k.add x_5.snd) = (↑x.fst.l.length : Int).sub (x.fst.k.add (rsz x.snd.fst)) ∧
  x_5.1.cap.sub (x_5.1.k.add x_5.snd) = x.fst.cap.sub (x.fst.k.add (rsz x.snd.fst)) ∧ (x_5.1.bad ∨ NZ (List.take x_5.snd.toNat (dropk x_5.1.l x_5.1.k x_5.snd)) ↔ x.fst.bad ∨ BadRow
  x.fst x.snd.fst) ∧ x_5.1.cap = x.fst.cap ∧ ints x_5.1.l = ints x.fst.l ∧ True)) ∧ (¬ar.lt 32 (numB (dropk x_3.1.l x_3.1.k x_3.snd)) → ∃ (x_4 : RImg × Int), numB (dropk x_3.1.l
  x_3.1.k x_3.snd) = x_4.snd ∧ (Nat.add 0 ((x_3.1.k.add x_3.snd).toNat.mul 1)).add 0 = (Nat.add 0 ((x_4.1.k.add 0).toNat.mul 1)).add 0 ∧ (↑x_3.1.l.length : Int).sub (x_3.1.k.add
  x_3.snd) = (↑x_4.1.l.length : Int).sub (x_4.1.k.add 0) ∧ x_3.1.cap.sub (x_3.1.k.add x_3.snd) = x_4.1.cap.sub (x_4.1.k.add 0) ∧ (x_3.1.3 ↔ x_4.1.3) ∧ x_3.1.cap = x_4.1.cap ∧ ints
  x_3.1.l = ints x_4.1.l ∧ RImgOK x_4.fst x_4.snd ∧ ∀ (y : Unit), True → ar.le 0 x_4.1.k ∧ ar.le (ar.add x_4.1.k x_4.snd) (ar.ilen (ints x_4.1.l)) ∧ ∀ (t : List UInt8), t =
  ar.bytes (ar.isub (ints x_4.1.l) x_4.1.k x_4.snd) → ∀ (z : Int), z = ar.wrap IntKind.i64 (ar.sub 32 (numB (dropk x_3.1.l x_3.1.k x_3.snd))) → ∃ (x_5 : RImg × Int), z = x_5.snd ∧
  (Nat.add 0 ((x_4.1.k.add x_4.snd).toNat.mul 1)).add 0 = (Nat.add 0 ((x_5.1.k.add 0).toNat.mul 1)).add 0 ∧ (↑x_4.1.l.length : Int).sub (x_4.1.k.add x_4.snd) = (↑x_5.1.l.length :
  Int).sub (x_5.1.k.add 0) ∧ x_4.1.cap.sub (x_4.1.k.add x_4.snd) = x_5.1.cap.sub (x_5.1.k.add 0) ∧ (x_4.1.3 ↔ x_5.1.3) ∧ x_4.1.cap = x_5.1.cap ∧ ints x_4.1.l = ints x_5.1.l ∧ NouIn
  x_5 ∧ ∀ (y : Unit), True → (ar.eq x.snd.fst 2 → ∃ (x_6 : RImg × Int), 4 = x_6.snd ∧ (Nat.add 0 ((x_5.1.k.add x_5.snd).toNat.mul 1)).add 0 = (Nat.add 0 ((x_6.1.k.add 0).toNat.mul
  1)).add 0 ∧ (↑x_5.1.l.length : Int).sub (x_5.1.k.add x_5.snd) = (↑x_6.1.l.length : Int).sub (x_6.1.k.add 0) ∧ x_5.1.cap.sub (x_5.1.k.add x_5.snd) = x_6.1.cap.sub (x_6.1.k.add 0)
  ∧ (x_5.1.bad ∨ NZ (List.take x_5.snd.toNat (dropk x_5.1.l x_5.1.k x_5.snd)) ↔ x_6.1.3) ∧ x_5.1.cap = x_6.1.cap ∧ ints x_5.1.l = ints x_6.1.l ∧ NumIn x_6 ∧ ∀ (y : Unit), True → ∃
  (y : Unit), True ∧ x.snd.fst = rdK x.fst x.snd.fst ∧ x.snd.snd = rdN x.fst x.snd.snd ∧ numB (dropk x_2.1.l x_2.1.k x_2.snd) = rdP x.fst ∧ t = rdS x.fst ∧ numB (dropk x_6.1.l
  x_6.1.k x_6.snd) = rdZ x.fst x.snd.fst ∧ (Nat.add 0 ((x_6.1.k.add x_6.snd).toNat.mul 1)).add 0 = (Nat.add 0 ((x.fst.k.add (rsz x.snd.fst)).toNat.mul 1)).add 0 ∧ (↑x_6.1.l.length
  : Int).sub (x_6.1.k.add x_6.snd) = (↑x.fst.l.length : Int).sub (x.fst.k.add (rsz x.snd.fst)) ∧ x_6.1.cap.sub (x_6.1.k.add x_6.snd) = x.fst.cap.sub (x.fst.k.add (rsz x.snd.fst)) ∧
  (x_6.1.3 ↔ x.fst.bad ∨ BadRow x.fst x.snd.fst) ∧ x_6.1.cap = x.fst.cap ∧ ints x_6.1.l = ints x.fst.l ∧ True) ∧ (¬ar.eq x.snd.fst 2 → ∃ (y : Unit), True ∧ x.snd.fst = rdK x.fst
  x.snd.fst ∧ x.snd.snd = rdN x.fst x.snd.snd ∧ numB (dropk x_2.1.l x_2.1.k x_2.snd) = rdP x.fst ∧ t = rdS x.fst ∧ 0 = rdZ x.fst x.snd.fst ∧ (Nat.add 0 ((x_5.1.k.add
  x_5.snd).toNat.mul 1)).add 0 = (Nat.add 0 ((x.fst.k.add (rsz x.snd.fst)).toNat.mul 1)).add 0 ∧ (↑x_5.1.l.length : Int).sub (x_5.1.k.add x_5.snd) = (↑x.fst.l.length : Int).sub
  (x.fst.k.add (rsz x.snd.fst)) ∧ x_5.1.cap.sub (x_5.1.k.add x_5.snd) = x.fst.cap.sub (x.fst.k.add (rsz x.snd.fst)) ∧ (x_5.1.bad ∨ NZ (List.take x_5.snd.toNat (dropk x_5.1.l
  x_5.1.k x_5.snd)) ↔ x.fst.bad ∨ BadRow x.fst x.snd.fst) ∧ x_5.1.cap = x.fst.cap ∧ ints x_5.1.l = ints x.fst.l ∧ True))) ∧ (¬ar.eq (numB (dropk x_1.1.l x_1.1.k x_1.snd)) 1 → ∃
  (x_2 : RImg × Int), 2 = x_2.snd ∧ (Nat.add 0 ((x_1.1.k.add x_1.snd).toNat.mul 1)).add 0 = (Nat.add 0 ((x_2.1.k.add 0).toNat.mul 1)).add 0 ∧ (↑x_1.1.l.length : Int).sub
  (x_1.1.k.add x_1.snd) = (↑x_2.1.l.length : Int).sub (x_2.1.k.add 0) ∧ x_1.1.cap.sub (x_1.1.k.add x_1.snd) = x_2.1.cap.sub (x_2.1.k.add 0) ∧ (true = true ↔ x_2.1.3) ∧ x_1.1.cap =
  x_2.1.cap ∧ ints x_1.1.l = ints x_2.1.l ∧ NumIn x_2 ∧ ∀ (y : Unit), True → ∃ (x_3 : RImg × Int), 1 = x_3.snd ∧ (Nat.add 0 ((x_2.1.k.add x_2.snd).toNat.mul 1)).add 0 = (Nat.add 0
  ((x_3.1.k.add 0).toNat.mul 1)).add 0 ∧ (↑x_2.1.l.length : Int).sub (x_2.1.k.add x_2.snd) = (↑x_3.1.l.length : Int).sub (x_3.1.k.add 0) ∧ x_2.1.cap.sub (x_2.1.k.add x_2.snd) =
  x_3.1.cap.sub (x_3.1.k.add 0) ∧ (x_2.1.3 ↔ x_3.1.3) ∧ x_2.1.cap = x_3.1.cap ∧ ints x_2.1.l = ints x_3.1.l ∧ NumIn x_3 ∧ ∀ (y : Unit), True → (ar.lt 32 (numB (dropk x_3.1.l
  x_3.1.k x_3.snd)) → ∃ (x_4 : RImg × Int), 0 = x_4.snd ∧ (Nat.add 0 ((x_3.1.k.add x_3.snd).toNat.mul 1)).add 0 = (Nat.add 0 ((x_4.1.k.add 0).toNat.mul 1)).add 0 ∧ (↑x_3.1.l.length
  : Int).sub (x_3.1.k.add x_3.snd) = (↑x_4.1.l.length : Int).sub (x_4.1.k.add 0) ∧ x_3.1.cap.sub (x_3.1.k.add x_3.snd) = x_4.1.cap.sub (x_4.1.k.add 0) ∧ (true = true ↔ x_4.1.3) ∧
  x_3.1.cap = x_4.1.cap ∧ ints x_3.1.l = ints x_4.1.l ∧ RImgOK x_4.fst x_4.snd ∧ ∀ (y : Unit), True → ar.le 0 x_4.1.k ∧ ar.le (ar.add x_4.1.k x_4.snd) (ar.ilen (ints x_4.1.l)) ∧ ∀
  (t : List UInt8), t = ar.bytes (ar.isub (ints x_4.1.l) x_4.1.k x_4.snd) → ∃ (x_5 : RImg × Int), 32 = x_5.snd ∧ (Nat.add 0 ((x_4.1.k.add x_4.snd).toNat.mul 1)).add 0 = (Nat.add 0
  ((x_5.1.k.add 0).toNat.mul 1)).add 0 ∧ (↑x_4.1.l.length : Int).sub (x_4.1.k.add x_4.snd) = (↑x_5.1.l.length : Int).sub (x_5.1.k.add 0) ∧ x_4.1.cap.sub (x_4.1.k.add x_4.snd) =
  x_5.1.cap.sub (x_5.1.k.add 0) ∧ (x_4.1.3 ↔ x_5.1.3) ∧ x_4.1.cap = x_5.1.cap ∧ ints x_4.1.l = ints x_5.1.l ∧ NouIn x_5 ∧ ∀ (y : Unit), True → (ar.eq x.snd.fst 2 → ∃ (x_6 : RImg ×
  Int), 4 = x_6.snd ∧ (Nat.add 0 ((x_5.1.k.add x_5.snd).toNat.mul 1)).add 0 = (Nat.add 0 ((x_6.1.k.add 0).toNat.mul 1)).add 0 ∧ (↑x_5.1.l.length : Int).sub (x_5.1.k.add x_5.snd) =
  (↑x_6.1.l.length : Int).sub (x_6.1.k.add 0) ∧ x_5.1.cap.sub (x_5.1.k.add x_5.snd) = x_6.1.cap.sub (x_6.1.k.add 0) ∧ (x_5.1.bad ∨ NZ (List.take x_5.snd.toNat (dropk x_5.1.l
  x_5.1.k x_5.snd)) ↔ x_6.1.3) ∧ x_5.1.cap = x_6.1.cap ∧ ints x_5.1.l = ints x_6.1.l ∧ NumIn x_6 ∧ ∀ (y : Unit), True → ∃ (y : Unit), True ∧ x.snd.fst = rdK x.fst x.snd.fst ∧
  x.snd.snd = rdN x.fst x.snd.snd ∧ numB (dropk x_2.1.l x_2.1.k x_2.snd) = rdP x.fst ∧ t = rdS x.fst ∧ numB (dropk x_6.1.l x_6.1.k x_6.snd) = rdZ x.fst x.snd.fst ∧ (Nat.add 0
  ((x_6.1.k.add x_6.snd).toNat.mul 1)).add 0 = (Nat.add 0 ((x.fst.k.add (rsz x.snd.fst)).toNat.mul 1)).add 0 ∧ (↑x_6.1.l.length : Int).sub (x_6.1.k.add x_6.snd) = (↑x.fst.l.length
  : Int).sub (x.fst.k.add (rsz x.snd.fst)) ∧ x_6.1.cap.sub (x_6.1.k.add x_6.snd) = x.fst.cap.sub (x.fst.k.add (rsz x.snd.fst)) ∧ (x_6.1.3 ↔ x.fst.bad ∨ BadRow x.fst x.snd.fst) ∧
  x_6.1.cap = x.fst.cap ∧ ints x_6.1.l = ints x.fst.l ∧ True) ∧ (¬ar.eq x.snd.fst 2 → ∃ (y : Unit), True ∧ x.snd.fst = rdK x.fst x.snd.fst ∧ x.snd.snd = rdN x.fst x.snd.snd ∧ numB
  (dropk x_2.1.l x_2.1.k x_2.snd) = rdP x.fst ∧ t = rdS x.fst ∧ 0 = rdZ x.fst x.snd.fst ∧ (Nat.add 0 ((x_5.1.k.add x_5.snd).toNat.mul 1)).add 0 = (Nat.add 0 ((x.fst.k.add (rsz
  x.snd.fst)).toNat.mul 1)).add 0 ∧ (↑x_5.1.l.length : Int).sub (x_5.1.k.add x_5.snd) = (↑x.fst.l.length : Int).sub (x.fst.k.add (rsz x.snd.fst)) ∧ x_5.1.cap.sub (x_5.1.k.add
  x_5.snd) = x.fst.cap.sub (x.fst.k.add (rsz x.snd.fst)) ∧ (x_5.1.bad ∨ NZ (List.take x_5.snd.toNat (dropk x_5.1.l x_5.1.k x_5.snd)) ↔ x.fst.bad ∨ BadRow x.fst x.snd.fst) ∧
  x_5.1.cap = x.fst.cap ∧ ints x_5.1.l = ints x.fst.l ∧ True)) ∧ (¬ar.lt 32 (numB (dropk x_3.1.l x_3.1.k x_3.snd)) → ∃ (x_4 : RImg × Int), numB (dropk x_3.1.l x_3.1.k x_3.snd) =
  x_4.snd ∧ (Nat.add 0 ((x_3.1.k.add x_3.snd).toNat.mul 1)).add 0 = (Nat.add 0 ((x_4.1.k.add 0).toNat.mul 1)).add 0 ∧ (↑x_3.1.l.length : Int).sub (x_3.1.k.add x_3.snd) =
  (↑x_4.1.l.length : Int).sub (x_4.1.k.add 0) ∧ x_3.1.cap.sub (x_3.1.k.add x_3.snd) = x_4.1.cap.sub (x_4.1.k.add 0) ∧ (x_3.1.3 ↔ x_4.1.3) ∧ x_3.1.cap = x_4.1.cap ∧ ints x_3.1.l =
  ints x_4.1.l ∧ RImgOK x_4.fst x_4.snd ∧ ∀ (y : Unit), True → ar.le 0 x_4.1.k ∧ ar.le (ar.add x_4.1.k x_4.snd) (ar.ilen (ints x_4.1.l)) ∧ ∀ (t : List UInt8), t = ar.bytes (ar.isub
  (ints x_4.1.l) x_4.1.k x_4.snd) → ∀ (z : Int), z = ar.wrap IntKind.i64 (ar.sub 32 (numB (dropk x_3.1.l x_3.1.k x_3.snd))) → ∃ (x_5 : RImg × Int), z = x_5.snd ∧ (Nat.add 0
  ((x_4.1.k.add x_4.snd).toNat.mul 1)).add 0 = (Nat.add 0 ((x_5.1.k.add 0).toNat.mul 1)).add 0 ∧ (↑x_4.1.l.length : Int).sub (x_4.1.k.add x_4.snd) = (↑x_5.1.l.length : Int).sub
  (x_5.1.k.add 0) ∧ x_4.1.cap.sub (x_4.1.k.add x_4.snd) = x_5.1.cap.sub (x_5.1.k.add 0) ∧ (x_4.1.3 ↔ x_5.1.3) ∧ x_4.1.cap = x_5.1.cap ∧ ints x_4.1.l = ints x_5.1.l ∧ NouIn x_5 ∧ ∀
  (y : Unit), True → (ar.eq x.snd.fst 2 → ∃ (x_6 : RImg × Int), 4 = x_6.snd ∧ (Nat.add 0 ((x_5.1.k.add x_5.snd).toNat.mul 1)).add 0 = (Nat.add 0 ((x_6.1.k.add 0).toNat.mul 1)).add
  0 ∧ (↑x_5.1.l.length : Int).sub (x_5.1.k.add x_5.snd) = (↑x_6.1.l.length : Int).sub (x_6.1.k.add 0) ∧ x_5.1.cap.sub (x_5.1.k.add x_5.snd) = x_6.1.cap.sub (x_6.1.k.add 0) ∧
  (x_5.1.bad ∨ NZ (List.take x_5.snd.toNat (dropk x_5.1.l x_5.1.k x_5.snd)) ↔ x_6.1.3) ∧ x_5.1.cap = x_6.1.cap ∧ ints x_5.1.l = ints x_6.1.l ∧ NumIn x_6 ∧ ∀ (y : Unit), True → ∃ (y
  : Unit), True ∧ x.snd.fst = rdK x.fst x.snd.fst ∧ x.snd.snd = rdN x.fst x.snd.snd ∧ numB (dropk x_2.1.l x_2.1.k x_2.snd) = rdP x.fst ∧ t = rdS x.fst ∧ numB (dropk x_6.1.l x_6.1.k
  x_6.snd) = rdZ x.fst x.snd.fst ∧ (Nat.add 0 ((x_6.1.k.add x_6.snd).toNat.mul 1)).add 0 = (Nat.add 0 ((x.fst.k.add (rsz x.snd.fst)).toNat.mul 1)).add 0 ∧ (↑x_6.1.l.length :
  Int).sub (x_6.1.k.add x_6.snd) = (↑x.fst.l.length : Int).sub (x.fst.k.add (rsz x.snd.fst)) ∧ x_6.1.cap.sub (x_6.1.k.add x_6.snd) = x.fst.cap.sub (x.fst.k.add (rsz x.snd.fst)) ∧
  (x_6.1.3 ↔ x.fst.bad ∨ BadRow x.fst x.snd.fst) ∧ x_6.1.cap = x.fst.cap ∧ ints x_6.1.l = ints x.fst.l ∧ True) ∧ (¬ar.eq x.snd.fst 2 → ∃ (y : Unit), True ∧ x.snd.fst = rdK x.fst
  x.snd.fst ∧ x.snd.snd = rdN x.fst x.snd.snd ∧ numB (dropk x_2.1.l x_2.1.k x_2.snd) = rdP x.fst ∧ t = rdS x.fst ∧ 0 = rdZ x.fst x.snd.fst ∧ (Nat.add 0 ((x_5.1.k.add
  x_5.snd).toNat.mul 1)).add 0 = (Nat.add 0 ((x.fst.k.add (rsz x.snd.fst)).toNat.mul 1)).add 0 ∧ (↑x_5.1.l.length : Int).sub (x_5.1.k.add x_5.snd) = (↑x.fst.l.length : Int).sub
  (x.fst.k.add (rsz x.snd.fst)) ∧ x_5.1.cap.sub (x_5.1.k.add x_5.snd) = x.fst.cap.sub (x.fst.k.add (rsz x.snd.fst)) ∧ (x_5.1.bad ∨ NZ (List.take x_5.snd.toNat (dropk x_5.1.l
  x_5.1.k x_5.snd)) ↔ x.fst.bad ∨ BadRow x.fst x.snd.fst) ∧ x_5.1.cap = x.fst.cap ∧ ints x_5.1.l = ints x.fst.l ∧ True)))))
theorem rowR_eq (ar : AR) (x : rowRSpec.X) : (run ar PP rowRSpecs noInv 1000 31 (rowRSpec.H x).length (Tryd.f31.body.getD .skip) (rowRSpec.A x ++ List.replicate (Tryd.f31.ntmps - (rowRSpec.A x).length) .any) (rowRSpec.H x) (endCall ar PP Tryd.f31.results.toList (rowRSpec.fin x))) = rowR_vc ar x := by
  kernel_rfl
theorem rowR_of (h : ∀ x, rowRSpec.pre x → rowR_vc ar0 x) : rowRSpec.OK PP 31 :=
  Spec.ok_of_run (fn := Tryd.f31) (c := Tryd.f31.body.getD .skip) (by kernel_rfl) (by kernel_rfl) (by kernel_rfl) rowRSpecs_ok (fun _ => noInv) 1000 (fun x hx => (rowR_eq ar0 x).mpr (h x hx))
theorem take_dropk (l : List UInt8) (k n : Int) : List.take n.toNat (dropk l k n) = dropk l k n := by
  rw [dropk, List.take_take, Nat.min_self]
theorem map_dropk (l : List UInt8) (k n : Int) : List.map (fun n : Int => UInt8.ofNat n.toNat) (List.take n.toNat (List.drop k.toNat (PL.ints l))) = dropk l k n := by
  simp only [dropk, PL.ints, ← List.map_drop, ← List.map_take, List.map_map]
  exact (List.map_congr_left (g := id) fun b _ => by simp).trans (List.map_id _)
theorem dropk_zero (l : List UInt8) (k : Int) : dropk l k 0 = [] := by simp [dropk]
theorem rowRSpec_ok : rowRSpec.OK PP 31 := by
  refine rowR_of fun x hx => ?_
  obtain ⟨m, kind, num⟩ := x
  obtain ⟨⟨h1, h2, h3, h4⟩, hk⟩ : NRowIn (m, kind, num) := hx
  simp only at h1 h2 h3 h4 hk
  unfold rowR_vc
  simp only [ars, ars2, ex_rimgB, true_and, and_true, exists_const, forall_const, iff_self, Int.add_zero, RImg.nou, RImg.row, take_dropk, map_dropk, forall_eq, PL.ints_length,
    show m.k + 1 + 2 = m.k + 3 by omega, show m.k + 3 + 1 = m.k + 4 by omega, show m.k + 4 + 32 = m.k + 36 by omega]
  simp only [true_or, true_iff]
  have hA := PL.numB_lt (l := dropk m.l m.k 1) (k := 1) (by simp [dropk]; omega)
  have hL := PL.numB_lt (l := dropk m.l (m.k + 3) 1) (k := 1) (by simp [dropk]; omega)
  simp only [show (256 : Int) ^ 1 = 256 from rfl] at hA hL
  have w : ¬ 32 < PL.numB (dropk m.l (m.k + 3) 1) → IntKind.i64.wrap (32 - PL.numB (dropk m.l (m.k + 3) 1)) = 32 - PL.numB (dropk m.l (m.k + 3) 1) := fun h => wrap_i64 (by omega) (by omega)
  have sz : m.k + 36 ≤ m.l.length ∧ (kind = 2 → m.k + 40 ≤ m.l.length) := by
    rcases hk with rfl | rfl
    · exact ⟨by simpa [rsz] using h4, fun h => by cases h⟩
    · have : m.k + 40 ≤ m.l.length := by simpa [rsz] using h4
      exact ⟨by omega, fun _ => this⟩
  obtain ⟨sz1, sz2⟩ := sz
  have rz : (kind = 2 ∧ rsz kind = 40) ∨ (¬ kind = 2 ∧ rsz kind = 36) := by
    unfold rsz; by_cases hk2 : kind = 2
    · rw [if_pos hk2]; exact .inl ⟨hk2, rfl⟩
    · rw [if_neg hk2]; exact .inr ⟨hk2, rfl⟩
  have e1 : ∀ L : Int, m.k + 4 + L + (32 - L) = m.k + 36 := fun L => by omega
  have e2 : m.k + 1 + 39 = m.k + 40 := by omega
  have e3 : m.k + 1 + 35 = m.k + 36 := by omega
  have e4 : m.k + 36 + 4 = m.k + 40 := by omega
  clear h4
  repeat' (first | refine And.intro ?_ ?_ | intro _)
  all_goals (try subst_vars)
  all_goals (try rw [w (by assumption)])
  all_goals first
    | omega
    | exact ⟨⟨by simp only; omega, by simp only; omega, by omega, by simp only; omega⟩, by simp only; omega⟩
    | exact ⟨by simp only; omega, by simp only; omega, by omega, by simp only; omega⟩
    | exact (rdK_0 (by assumption)).symm
    | exact (rdN_0 (by assumption)).symm
    | exact (rdP_0 (by assumption)).symm
    | exact (rdS_0 (by assumption)).symm
    | exact (rdZ_0 (by assumption)).symm
    | exact (rdK_1 (by assumption)).symm
    | exact (rdN_1 (by assumption)).symm
    | exact (rdP_1 (by assumption)).symm
    | exact (rdZ_1 (by assumption) (by assumption)).symm
    | exact (rdZ_2 (by assumption) rfl).symm
    | exact (rdS_2 (by assumption) (by assumption)).symm
    | exact ((rdS_1 (by assumption) (by assumption)).trans (dropk_zero _ _).symm).symm
    | (rw [rdZ_2 (by assumption) rfl, e1])
    | (rw [bad_0 (by assumption)]; rfl)
    | (rw [bad_0 (by assumption), show rsz kind - 1 = 35 by omega])
    | (rw [bad_0 (by assumption), show rsz 2 - 1 = 39 by omega])
    | exact .inr ((bad_1 (by assumption) (by assumption)).2 trivial)
    | exact .inr ((bad_2 (by assumption) (by assumption)).2 trivial)
    | (rw [bad_3 (by assumption) (by assumption)])
    | (exfalso; omega)
end Go.Eng
/- The reference: a row read; same. -/
namespace Go.PL
structure SRowIn (x : List UInt8 × Int × Int) : Prop where
  len : (x.1.length : Int) = rsz x.2.1
  kind : x.2.1 = 1 ∨ x.2.1 = 2
end Go.PL
set_option linter.unusedSectionVars false
set_option linter.unusedSimpArgs false
set_option linter.unusedVariables false
namespace Go.Eng
variable [CW : CWorld]
open Go.Proofs Go.PL
set_option maxRecDepth 100000
end Go.Eng
/- bytes.Trim of noughts. -/
namespace Go.PL
structure TrimIn (m : RImg) : Prop where
  cap : (m.l.length : Int) ≤ m.cap
  k0 : 0 ≤ m.k
  le : m.k ≤ m.l.length
  small : (m.l.length : Int) ≤ 140737488355328
structure TrimAt (m : RImg) (i : Nat) : Prop where
  le : m.k + i ≤ m.l.length
  nz : NZ (dropk m.l m.k (m.l.length - m.k)) → NZ (dropk m.l m.k i)
structure TrimGo (m : RImg) (i : Nat) : Prop where
  le : m.k + i ≤ m.l.length
  nz : NZ (dropk m.l m.k (m.l.length - m.k)) ↔ 0 < i
  last : 0 < i → NZ (dropk m.l m.k i)
structure TrimLIn (x : RImg × Int) : Prop where
  cap : (x.1.l.length : Int) ≤ x.1.cap
  k0 : 0 ≤ x.1.k
  n0 : 0 ≤ x.2
  le : x.1.k + x.2 ≤ x.1.l.length
  small : (x.1.l.length : Int) ≤ 140737488355328
  nz : 0 < x.2 → NZ (dropk x.1.l x.1.k x.2)
structure TrimLAt (x : RImg × Int) (j : Nat) : Prop where
  le : (j : Int) ≤ x.2
  nz : 0 < x.2 → NZ (dropk x.1.l (x.1.k + j) (x.2 - j))
structure TrimLGo (x : RImg × Int) (j : Nat) : Prop where
  lt : (j : Int) < x.2
theorem dropk_snoc {l : List UInt8} {k : Int} {i : Nat} (hk : 0 ≤ k) (h : k + i < l.length) : dropk l k ((i : Int) + 1) = dropk l k i ++ [l.getD (k + i).toNat 0] := by
  have h1 : i < (l.drop k.toNat).length := by rw [List.length_drop]; omega
  have e : ((i : Int) + 1).toNat = i + 1 := by omega
  rw [dropk, dropk, e, Int.toNat_natCast, take_snoc h1, List.getElem_drop]
  congr 2
  rw [List.getD, List.getElem?_eq_getElem (by omega : (k + (i : Int)).toNat < l.length), Option.getD_some]
  congr 1; omega
theorem dropk_cons {l : List UInt8} {k n : Int} (hk : 0 ≤ k) (hn : 0 < n) (h : k < l.length) : dropk l k n = l.getD k.toNat 0 :: dropk l (k + 1) (n - 1) := by
  have h1 : k.toNat < l.length := by omega
  rw [dropk, dropk, List.drop_eq_getElem_cons h1, show n.toNat = (n - 1).toNat + 1 by omega, List.take_succ_cons, show (k + 1).toNat = k.toNat + 1 by omega, List.getD, List.getElem?_eq_getElem h1, Option.getD_some]
theorem nz_cons {b : UInt8} {l : List UInt8} : NZ (b :: l) ↔ b ≠ 0 ∨ NZ l := by
  constructor
  · rintro ⟨c, hc, h⟩
    rcases List.mem_cons.1 hc with rfl | hc
    · exact .inl h
    · exact .inr ⟨c, hc, h⟩
  · rintro (h | ⟨c, hc, h⟩)
    · exact ⟨b, by simp, h⟩
    · exact ⟨c, List.mem_cons_of_mem _ hc, h⟩
end Go.PL
set_option linter.unusedSectionVars false
set_option linter.unusedSimpArgs false
set_option linter.unusedVariables false
namespace Go.Eng
variable [CW : CWorld]
open Go.Proofs Go.PL
set_option maxRecDepth 100000
def trimRSpec : Spec where
  X := RImg
  A m := [.slc 0 (.x 0 1 m.k 0) (.x (m.l.length - m.k)) (.x (m.cap - m.k)), .int .u8 (.l 0)]
  H m := [bytesB m.l m.cap]
  pre m := PL.TrimIn m
  outs := [{ Y _ := Nat, post m i := PL.TrimGo m i, R m i := .slc 0 (.x 0 1 m.k 0) (.x (i : Int)) (.x (m.cap - m.k)), H' m _ := [bytesB m.l m.cap] }]
def trimRInv (m : RImg) : Code → List SV → List Blk → List Inv := fun b fr hp => [
  { ι := Nat, fr := fun i => upd (havoc b fr) [(0, .slc 0 (.x 0 1 m.k 0) (.x (i : Int)) (.x (m.cap - m.k)))], hp := fun i => hp, μ := fun i => i, ok := fun i => PL.TrimAt m i }]
def trimRInvs (m : RImg) : Invs := fun f n => match f, n with
  | 62, 1 => some (trimRInv m)
  | _, _ => none
def trimR_vc (ar : AR) (x : trimRSpec.X) : Prop :=
  (∃ (i : Nat), TrimAt x i ∧ (Nat.add 0 (x.k.toNat.mul 1)).add 0 = (Nat.add 0 (x.k.toNat.mul 1)).add 0 ∧ (↑x.l.length : Int).sub x.k = (↑i : Int) ∧ x.cap.sub x.k = x.cap.sub x.k ∧
  x.cap = x.cap ∧ ints x.l = ints x.l ∧ True) ∧ ∀ (i : Nat), TrimAt x i → (ar.lt 0 (↑i : Int) → ∀ (z : Int), z = ar.wrap IntKind.i64 (ar.sub (↑i : Int) 1) → ar.le 0 z ∧ ar.lt z (↑i
  : Int) ∧ ar.le 0 x.k ∧ ar.le 0 (ar.add x.k z) ∧ ar.lt (ar.add x.k z) (ar.ilen (ints x.l)) ∧ (ar.eq (ar.iget (ints x.l) (ar.add x.k z)) 0 → ∀ (z : Int), z = ar.wrap IntKind.i64
  (ar.sub (↑i : Int) 1) → ar.le 0 z ∧ ar.le z (x.cap.sub x.k) ∧ ∃ (j : Nat), TrimAt x j ∧ j.lt i ∧ (Nat.add 0 (x.k.toNat.mul 1)).add 0 = (Nat.add 0 (x.k.toNat.mul 1)).add 0 ∧ z =
  (↑j : Int) ∧ x.cap.sub x.k = x.cap.sub x.k ∧ x.cap = x.cap ∧ ints x.l = ints x.l ∧ True) ∧ (¬ar.eq (ar.iget (ints x.l) (ar.add x.k z)) 0 → ∃ (y : Nat), TrimGo x y ∧ (Nat.add 0
  (x.k.toNat.mul 1)).add 0 = (Nat.add 0 (x.k.toNat.mul 1)).add 0 ∧ (↑i : Int) = (↑y : Int) ∧ x.cap.sub x.k = x.cap.sub x.k ∧ x.cap = x.cap ∧ ints x.l = ints x.l ∧ True)) ∧ (¬ar.lt
  0 (↑i : Int) → ∃ (y : Nat), TrimGo x y ∧ (Nat.add 0 (x.k.toNat.mul 1)).add 0 = (Nat.add 0 (x.k.toNat.mul 1)).add 0 ∧ (↑i : Int) = (↑y : Int) ∧ x.cap.sub x.k = x.cap.sub x.k ∧
  x.cap = x.cap ∧ ints x.l = ints x.l ∧ True)
theorem trimR_eq (ar : AR) (x : trimRSpec.X) : (run ar PP noSpec (trimRInvs x) 1000 62 (trimRSpec.H x).length (Tryd.f62.body.getD .skip) (trimRSpec.A x ++ List.replicate (Tryd.f62.ntmps - (trimRSpec.A x).length) .any) (trimRSpec.H x) (endCall ar PP Tryd.f62.results.toList (trimRSpec.fin x))) = trimR_vc ar x := by
  kernel_rfl
theorem trimR_of (h : ∀ x, trimRSpec.pre x → trimR_vc ar0 x) : trimRSpec.OK PP 62 :=
  Spec.ok_of_run (fn := Tryd.f62) (c := Tryd.f62.body.getD .skip) (by kernel_rfl) (by kernel_rfl) (by kernel_rfl) noSpec_ok trimRInvs 1000 (fun x hx => (trimR_eq ar0 x).mpr (h x hx))
theorem iget_zero {l : List UInt8} {k : Int} (h0 : 0 ≤ k) (h : k < l.length) : ((PL.ints l).getD k.toNat 0 = 0 ↔ l.getD k.toNat 0 = 0) := by
  have hk : k.toNat < l.length := by omega
  rw [PL.ints_get hk, List.getD, List.getElem?_eq_getElem hk, Option.getD_some]
  exact ⟨fun h => UInt8.toNat_inj.1 (by exact_mod_cast h), fun h => by rw [h]; rfl⟩
theorem trimRSpec_ok : trimRSpec.OK PP 62 := by
  refine trimR_of fun (m : RImg) hx => ?_
  obtain ⟨h1, h2, h3, h4⟩ : PL.TrimIn m := hx
  unfold trimR_vc
  simp only [ars, ars2, true_and, and_true]
  simp only [PL.ints_length]
  have e0 : dropk m.l m.k ((0 : Nat) : Int) = [] := by simp [dropk]
  refine ⟨⟨(m.l.length - m.k).toNat, ⟨by omega, fun h => by rwa [show (((m.l.length - m.k).toNat : Nat) : Int) = m.l.length - m.k by omega]⟩, by omega⟩, fun i hi => ?_⟩
  obtain ⟨hi, hz⟩ := hi
  refine ⟨fun hlt z hzz => ?_, fun hge => ⟨i, ⟨hi, ⟨fun h => ?_, fun h => by omega⟩, fun h => by omega⟩, rfl⟩⟩
  · rw [wrap_i64 (by omega) (by omega)] at hzz
    subst hzz
    obtain ⟨i, rfl⟩ : ∃ j, i = j + 1 := ⟨i - 1, by omega⟩
    have ez : ((i + 1 : Nat) : Int) - 1 = (i : Int) := by omega
    rw [ez, iget_zero (by omega) (by omega)]
    have sn := dropk_snoc (l := m.l) (i := i) h2 (by omega)
    have e1 : ((i + 1 : Nat) : Int) = (i : Int) + 1 := by omega
    rw [e1, sn] at hz
    refine ⟨by omega, by omega, by omega, by omega, by omega, fun hb z hz2 => ?_, fun hb => ⟨i + 1, ⟨hi, ⟨fun _ => by omega, fun _ => ?_⟩, fun _ => ?_⟩, rfl⟩⟩
    · rw [wrap_i64 (by omega) (by omega)] at hz2
      subst hz2
      refine ⟨by omega, by omega, i, ⟨by omega, fun h => ?_⟩, by omega, rfl⟩
      rcases nz_snoc.1 (hz h) with h | h
      · exact h
      · exact (h hb).elim
    · have hn := nz_snoc (l := dropk m.l m.k i) (b := m.l.getD (m.k + (i : Int)).toNat 0)
      have hh := hn.2 (.inr hb)
      rw [← sn] at hh
      obtain ⟨b, hb1, hb2⟩ := hh.nz
      refine ⟨b, ?_, hb2⟩
      have : dropk m.l m.k ((i : Int) + 1) = (dropk m.l m.k (m.l.length - m.k)).take (i + 1) := by
        rw [dropk, dropk, List.take_take]; congr 1; omega
      rw [this] at hb1
      exact List.mem_of_mem_take hb1
    · rw [e1, sn]; exact nz_snoc.2 (.inr hb)
  · have : i = 0 := by omega
    subst this
    have := hz h
    rw [e0] at this
    exact (nz_nil this).elim
def trimLSpec : Spec where
  X := RImg × Int
  A x := [.slc 0 (.x 0 1 x.1.k 0) (.x x.2) (.x (x.1.cap - x.1.k)), .int .u8 (.l 0)]
  H x := [bytesB x.1.l x.1.cap]
  pre x := PL.TrimLIn x
  outs := [{ Y _ := Unit, post x _ := ¬ 0 < x.2, R _ _ := .nslc, H' x _ := [bytesB x.1.l x.1.cap] },
    { Y _ := Nat, post x j := PL.TrimLGo x j, R x j := .slc 0 (.x 0 1 (x.1.k + j) 0) (.x (x.2 - j)) (.x (x.1.cap - (x.1.k + j))), H' x _ := [bytesB x.1.l x.1.cap] }]
def trimLInv (x : RImg × Int) : Code → List SV → List Blk → List Inv := fun b fr hp => [
  { ι := Nat, fr := fun j => upd (havoc b fr) [(0, .slc 0 (.x 0 1 (x.1.k + (j : Int)) 0) (.x (x.2 - (j : Int))) (.x (x.1.cap - (x.1.k + (j : Int)))))], hp := fun i => hp, μ := fun j => (x.2 - j).toNat, ok := fun j => PL.TrimLAt x j }]
def trimLInvs (x : RImg × Int) : Invs := fun f n => match f, n with
  | 61, 1 => some (trimLInv x)
  | _, _ => none
def trimL_vc (ar : AR) (x : trimLSpec.X) : Prop :=
  (∃ (i : Nat), TrimLAt x i ∧ (Nat.add 0 (x.fst.k.toNat.mul 1)).add 0 = (Nat.add 0 ((x.fst.k.add (↑i : Int)).toNat.mul 1)).add 0 ∧ x.snd = x.snd.sub (↑i : Int) ∧ x.fst.cap.sub
  x.fst.k = x.fst.cap.sub (x.fst.k.add (↑i : Int)) ∧ x.fst.cap = x.fst.cap ∧ ints x.fst.l = ints x.fst.l ∧ True) ∧ ∀ (i : Nat), TrimLAt x i → (ar.lt 0 (x.snd.sub (↑i : Int)) →
  ar.lt 0 (x.snd.sub (↑i : Int)) ∧ ar.le 0 (x.fst.k.add (↑i : Int)) ∧ ar.lt (x.fst.k.add (↑i : Int)) (ar.ilen (ints x.fst.l)) ∧ (ar.eq (ar.iget (ints x.fst.l) (x.fst.k.add (↑i :
  Int))) 0 → ar.le 1 (x.snd.sub (↑i : Int)) ∧ ar.le 0 (x.fst.k.add (↑i : Int)) ∧ ∃ (j : Nat), TrimLAt x j ∧ (x.snd.sub (↑j : Int)).toNat.lt (x.snd.sub (↑i : Int)).toNat ∧ (Nat.add
  0 ((ar.add (x.fst.k.add (↑i : Int)) 1).toNat.mul 1)).add 0 = (Nat.add 0 ((x.fst.k.add (↑j : Int)).toNat.mul 1)).add 0 ∧ ar.sub (x.snd.sub (↑i : Int)) 1 = x.snd.sub (↑j : Int) ∧
  ar.sub (x.fst.cap.sub (x.fst.k.add (↑i : Int))) 1 = x.fst.cap.sub (x.fst.k.add (↑j : Int)) ∧ x.fst.cap = x.fst.cap ∧ ints x.fst.l = ints x.fst.l ∧ True) ∧ (¬ar.eq (ar.iget (ints
  x.fst.l) (x.fst.k.add (↑i : Int))) 0 → (ar.eq (x.snd.sub (↑i : Int)) 0 → (∃ (y : Unit), (Int.lt 0 x.snd → False) ∧ x.fst.cap = x.fst.cap ∧ ints x.fst.l = ints x.fst.l ∧ True) ∨ ∃
  (y : Nat), TrimLGo x y ∧ 0 = x.snd.sub (↑y : Int) ∧ 0 = x.fst.cap.sub (x.fst.k.add (↑y : Int)) ∧ x.fst.cap = x.fst.cap ∧ ints x.fst.l = ints x.fst.l ∧ True) ∧ (¬ar.eq (x.snd.sub
  (↑i : Int)) 0 → (∃ (y : Unit), (Int.lt 0 x.snd → False) ∧ False) ∨ ∃ (y : Nat), TrimLGo x y ∧ (Nat.add 0 ((x.fst.k.add (↑i : Int)).toNat.mul 1)).add 0 = (Nat.add 0 ((x.fst.k.add
  (↑y : Int)).toNat.mul 1)).add 0 ∧ x.snd.sub (↑i : Int) = x.snd.sub (↑y : Int) ∧ x.fst.cap.sub (x.fst.k.add (↑i : Int)) = x.fst.cap.sub (x.fst.k.add (↑y : Int)) ∧ x.fst.cap =
  x.fst.cap ∧ ints x.fst.l = ints x.fst.l ∧ True))) ∧ (¬ar.lt 0 (x.snd.sub (↑i : Int)) → (ar.eq (x.snd.sub (↑i : Int)) 0 → (∃ (y : Unit), (Int.lt 0 x.snd → False) ∧ x.fst.cap =
  x.fst.cap ∧ ints x.fst.l = ints x.fst.l ∧ True) ∨ ∃ (y : Nat), TrimLGo x y ∧ 0 = x.snd.sub (↑y : Int) ∧ 0 = x.fst.cap.sub (x.fst.k.add (↑y : Int)) ∧ x.fst.cap = x.fst.cap ∧ ints
  x.fst.l = ints x.fst.l ∧ True) ∧ (¬ar.eq (x.snd.sub (↑i : Int)) 0 → (∃ (y : Unit), (Int.lt 0 x.snd → False) ∧ False) ∨ ∃ (y : Nat), TrimLGo x y ∧ (Nat.add 0 ((x.fst.k.add (↑i :
  Int)).toNat.mul 1)).add 0 = (Nat.add 0 ((x.fst.k.add (↑y : Int)).toNat.mul 1)).add 0 ∧ x.snd.sub (↑i : Int) = x.snd.sub (↑y : Int) ∧ x.fst.cap.sub (x.fst.k.add (↑i : Int)) =
  x.fst.cap.sub (x.fst.k.add (↑y : Int)) ∧ x.fst.cap = x.fst.cap ∧ ints x.fst.l = ints x.fst.l ∧ True))
theorem trimL_eq (ar : AR) (x : trimLSpec.X) : (run ar PP noSpec (trimLInvs x) 1000 61 (trimLSpec.H x).length (Tryd.f61.body.getD .skip) (trimLSpec.A x ++ List.replicate (Tryd.f61.ntmps - (trimLSpec.A x).length) .any) (trimLSpec.H x) (endCall ar PP Tryd.f61.results.toList (trimLSpec.fin x))) = trimL_vc ar x := by
  kernel_rfl
theorem trimL_of (h : ∀ x, trimLSpec.pre x → trimL_vc ar0 x) : trimLSpec.OK PP 61 :=
  Spec.ok_of_run (fn := Tryd.f61) (c := Tryd.f61.body.getD .skip) (by kernel_rfl) (by kernel_rfl) (by kernel_rfl) noSpec_ok trimLInvs 1000 (fun x hx => (trimL_eq ar0 x).mpr (h x hx))
theorem trimLSpec_ok : trimLSpec.OK PP 61 := by
  refine trimL_of fun x hx => ?_
  obtain ⟨m, n⟩ := x
  obtain ⟨h1, h2, h3, h4, h5, h6⟩ : PL.TrimLIn (m, n) := hx
  simp only at h1 h2 h3 h4 h5 h6
  unfold trimL_vc
  simp only [ars, ars2, true_and, and_true]
  simp only [PL.ints_length]
  refine ⟨⟨0, ⟨by simpa using h3, fun h => by simpa using h6 h⟩, by simp, by simp, by simp⟩, fun i hi => ?_⟩
  obtain ⟨hi, hz⟩ := hi
  simp only at hi hz
  refine ⟨fun hlt => ?_, fun hge => ⟨fun _ => .inl ⟨(), fun h => ?_⟩, fun h => by omega⟩⟩
  · rw [iget_zero (by omega) (by omega)]
    have hc := dropk_cons (l := m.l) (k := m.k + i) (n := n - i) (by omega) (by omega) (by omega)
    refine ⟨by omega, by omega, by omega, fun hb => ⟨by omega, by omega, i + 1, ⟨by simp only; omega, fun h => ?_⟩, by omega, by omega, by omega, by omega⟩, fun hb => ⟨fun h => by omega, fun h => .inr ⟨i, ⟨by simp only; omega⟩, rfl, rfl, rfl⟩⟩⟩
    have := hz h
    rw [hc] at this
    rcases nz_cons.1 this with h | h
    · exact (h hb).elim
    · simp only
      rwa [show m.k + ((i + 1 : Nat) : Int) = m.k + i + 1 by omega, show n - ((i + 1 : Nat) : Int) = n - i - 1 by omega]
  · have := hz h
    rw [show n - (i : Int) = 0 by omega] at this
    exact nz_nil (by simpa [dropk] using this)
end Go.Eng
/- The reference's same. -/
namespace Go.PL
end Go.PL
set_option linter.unusedSectionVars false
set_option linter.unusedSimpArgs false
set_option linter.unusedVariables false
namespace Go.Eng
variable [CW : CWorld]
open Go.Proofs Go.PL
set_option maxRecDepth 100000
end Go.Eng
namespace Go.PL
structure AllLen (l : List (List UInt8)) (n : Int) : Prop where
  all : ∀ j, j < l.length → ((l.getD j []).length : Int) = n
structure LensIn (x : Txts × Int) : Prop where
  len : (x.1.l.length : Int) = x.1.len
  le : x.1.len ≤ 140737488351232
structure LensAt (x : Txts × Int) (i : Nat) : Prop where
  le : i ≤ x.1.l.length
  all : ∀ j, j < i → ((x.1.l.getD j []).length : Int) = x.2
structure LensPost (x : Txts × Int) (y : Int) : Prop where
  iff : 0 ≤ y ↔ ¬ AllLen x.1.l x.2
end Go.PL
set_option linter.unusedSectionVars false
set_option linter.unusedSimpArgs false
set_option linter.unusedVariables false
namespace Go.Eng
variable [CW : CWorld]
open Go.Proofs Go.PL
set_option maxRecDepth 100000
def lensSpec : Spec where
  X := Txts × Int
  A x := [.cs [.strs x.1.l] (.x x.1.len) (.x x.1.cap), .fn 30 [.ptr 0 (.l 0)]]
  H x := [.mk 3 [.one (.int .i64 (.x x.2))]]
  pre x := PL.LensIn x
  outs := [{ Y _ := Int, post x y := PL.LensPost x y, R x y := .int .i64 (.x y), H' x _ := [.mk 3 [.one (.int .i64 (.x x.2))]] }]
def lensInv (x : Txts × Int) : Code → List SV → List Blk → List Inv := fun b fr hp => [
  { ι := Nat, fr := fun i => upd (havoc b fr) [(8, .int .i64 (.x (i : Int)))], hp := fun i => hp, μ := fun i => x.1.l.length - i, ok := fun i => PL.LensAt x i }]
def lensInvs (x : Txts × Int) : Invs := fun f n => match f, n with
  | 59, 2 => some (lensInv x)
  | _, _ => none
def lens_vc (ar : AR) (x : lensSpec.X) : Prop :=
  (∃ (i : Nat), LensAt x i ∧ x.fst.l = x.fst.l ∧ x.fst.len = x.fst.len ∧ x.fst.cap = x.fst.cap ∧ x.fst.l = x.fst.l ∧ x.fst.len = x.fst.len ∧ x.fst.cap = x.fst.cap ∧ x.fst.len =
  x.fst.len ∧ 0 = (↑i : Int) ∧ x.snd = x.snd ∧ True) ∧ ∀ (i : Nat), LensAt x i → (ar.lt (↑i : Int) x.fst.len → ar.le 0 (↑i : Int) ∧ ar.lt (↑i : Int) x.fst.len ∧ (¬ar.eq (ar.slen
  (ar.tget x.fst.l (↑i : Int))) x.snd → ∃ (y : Int), LensPost x y ∧ (↑i : Int) = y ∧ x.snd = x.snd ∧ True) ∧ (¬¬ar.eq (ar.slen (ar.tget x.fst.l (↑i : Int))) x.snd → ∀ (z : Int), z
  = ar.wrap IntKind.i64 (ar.add (↑i : Int) 1) → ∃ (j : Nat), LensAt x j ∧ (x.fst.l.length.sub j).lt (x.fst.l.length.sub i) ∧ x.fst.l = x.fst.l ∧ x.fst.len = x.fst.len ∧ x.fst.cap =
  x.fst.cap ∧ x.fst.l = x.fst.l ∧ x.fst.len = x.fst.len ∧ x.fst.cap = x.fst.cap ∧ x.fst.len = x.fst.len ∧ z = (↑j : Int) ∧ x.snd = x.snd ∧ True)) ∧ (¬ar.lt (↑i : Int) x.fst.len → ∃
  (y : Int), LensPost x y ∧ -1 = y ∧ x.snd = x.snd ∧ True)
theorem lens_eq (ar : AR) (x : lensSpec.X) : (run ar PP noSpec (lensInvs x) 1000 59 (lensSpec.H x).length (Tryd.f59.body.getD .skip) (lensSpec.A x ++ List.replicate (Tryd.f59.ntmps - (lensSpec.A x).length) .any) (lensSpec.H x) (endCall ar PP Tryd.f59.results.toList (lensSpec.fin x))) = lens_vc ar x := by
  kernel_rfl
theorem lens_of (h : ∀ x, lensSpec.pre x → lens_vc ar0 x) : lensSpec.OK PP 59 :=
  Spec.ok_of_run (fn := Tryd.f59) (c := Tryd.f59.body.getD .skip) (by kernel_rfl) (by kernel_rfl) (by kernel_rfl) noSpec_ok lensInvs 1000 (fun x hx => (lens_eq ar0 x).mpr (h x hx))
theorem lensSpec_ok : lensSpec.OK PP 59 := by
  refine lens_of fun x hx => ?_
  obtain ⟨⟨l, n, c⟩, b⟩ := x
  obtain ⟨h1, h2⟩ : PL.LensIn (⟨l, n, c⟩, b) := hx
  simp only at h1 h2
  unfold lens_vc
  simp only [ars, ars2, true_and, and_true]
  refine ⟨⟨0, ⟨Nat.zero_le _, fun j hj => by omega⟩, by simp⟩, fun i hi => ?_⟩
  obtain ⟨hi, ha⟩ := hi
  simp only at hi ha
  have g : ∀ j : Nat, ar0.tget l (j : Int) = l.getD j [] := fun j => by show l.getD (j : Int).toNat [] = _; rw [Int.toNat_natCast]
  refine ⟨fun hlt => ⟨by omega, hlt, fun hne => ⟨(i : Int), ⟨⟨fun _ h => hne ?_, fun _ => by omega⟩⟩, rfl⟩, fun he z hz => ?_⟩, fun hge => ⟨-1, ⟨⟨fun h => by omega, fun h => (h ⟨fun j hj => ?_⟩).elim⟩⟩, rfl⟩⟩
  · have := h.all i (by simp only; omega)
    simpa only [Int.toNat_natCast] using this
  · rw [wrap_i64 (by omega) (by omega)] at hz
    refine ⟨i + 1, ⟨by simp only; omega, fun j hj => ?_⟩, by omega, by omega⟩
    by_cases e : j = i
    · subst e
      simpa only [Int.toNat_natCast, Classical.not_not] using he
    · exact ha j (by omega)
  · exact ha j (by simp only at hj; omega)
def clenSpec : Spec where
  X := Txts × Int
  A x := [.cs [.strs x.1.l] (.x x.1.len) (.x x.1.cap), .fn 30 [.ptr 0 (.l 0)]]
  H x := [.mk 3 [.one (.int .i64 (.x x.2))]]
  pre x := PL.LensIn x
  outs := [{ Y _ := Unit, post x y := True, R x y := .bool (.x (¬ PL.AllLen x.1.l x.2)), H' x _ := [.mk 3 [.one (.int .i64 (.x x.2))]] }]
noncomputable def clenSpecs : Specs := fun f xs hp => match f with
  | 59 => some lensSpec
  | _ => noSpec f xs hp
theorem clenSpecs_ok : SpecsOK PP clenSpecs := by
  intro CW f xs hp S h
  unfold clenSpecs at h
  split at h
  · cases h; exact lensSpec_ok
  · exact noSpec_ok CW f xs hp S h
def clen_vc (ar : AR) (x : clenSpec.X) : Prop :=
  ∃ (x_1 : Txts × Int), x.fst.l = x_1.1.l ∧ x.fst.len = x_1.1.len ∧ x.fst.cap = x_1.1.cap ∧ x.snd = x_1.snd ∧ LensIn x_1 ∧ ∀ (y : Int), LensPost x_1 y → ∃ (y_1 : Unit), True ∧
  (ar.le 0 y ↔ AllLen x.fst.l x.snd → False) ∧ x_1.snd = x.snd ∧ True
theorem clen_eq (ar : AR) (x : clenSpec.X) : (run ar PP clenSpecs noInv 1000 29 (clenSpec.H x).length (Tryd.f29.body.getD .skip) (clenSpec.A x ++ List.replicate (Tryd.f29.ntmps - (clenSpec.A x).length) .any) (clenSpec.H x) (endCall ar PP Tryd.f29.results.toList (clenSpec.fin x))) = clen_vc ar x := by
  kernel_rfl
theorem clen_of (h : ∀ x, clenSpec.pre x → clen_vc ar0 x) : clenSpec.OK PP 29 :=
  Spec.ok_of_run (fn := Tryd.f29) (c := Tryd.f29.body.getD .skip) (by kernel_rfl) (by kernel_rfl) (by kernel_rfl) clenSpecs_ok (fun _ => noInv) 1000 (fun x hx => (clen_eq ar0 x).mpr (h x hx))
theorem clenSpec_ok : clenSpec.OK PP 29 := by
  refine clen_of fun x hx => ?_
  obtain ⟨⟨l, n, c⟩, b⟩ := x
  obtain ⟨h1, h2⟩ : PL.LensIn (⟨l, n, c⟩, b) := hx
  unfold clen_vc
  simp only [ars, ars2, true_and, and_true, exists_const]
  refine ⟨(⟨l, n, c⟩, b), rfl, rfl, rfl, rfl, ⟨h1, h2⟩, fun y hy => ?_⟩
  first
    | exact ⟨hy.iff, rfl⟩
    | exact hy.iff
end Go.Eng

