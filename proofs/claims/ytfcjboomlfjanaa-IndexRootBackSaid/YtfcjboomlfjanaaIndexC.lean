/- Index: the law of the root there and back. -/
import Derived.Test.YtfcjboomlfjanaaIndexB
set_option linter.unusedVariables false
set_option linter.unusedSimpArgs false

/- Index: made inputs: mod, Made, sixteen, refs. -/
namespace Go.PL
def made (c : Cfg) : Cfg := ⟨1 + c.slots % 64, 1 + c.files % 64, c.dirs % 64, c.most % 65537, 16 + c.least % 65521, 64 + c.page % 1024⟩
structure ModIn (x : Int × Int) : Prop where
  n : -9223372036854775808 ≤ x.1 ∧ x.1 < 9223372036854775808
  m : 0 < x.2 ∧ x.2 ≤ 4611686018427387904
structure I64 (n : Int) : Prop where
  lo : -9223372036854775808 ≤ n
  hi : n < 9223372036854775808
structure CfgI64 (c : Cfg) : Prop where
  i1 : I64 c.slots
  i2 : I64 c.files
  i3 : I64 c.dirs
  i4 : I64 c.most
  i5 : I64 c.least
  i6 : I64 c.page
structure Len16 (s : List UInt8) : Prop where
  len : s.length = 16
structure SixAt (i : Nat × Int × List UInt8 × Int) : Prop where
  le : i.1 ≤ 16
  len : i.2.2.1.length = i.1
  cap : (i.1 : Int) ≤ i.2.2.2
  n : I64 i.2.1
/-- A slice of whole numbers. -/
structure Nums where
  l : List Int
  len : Int
  cap : Int
structure NumsOK (x : Nums) : Prop where
  len : (x.l.length : Int) = x.len
  i : ∀ n ∈ x.l, I64 n
  b : x.len ≤ 4611686018427387904
structure RefsIn (x : Cfg × Nums) : Prop where
  nums : NumsOK x.2
structure RefsPost (x : Cfg × Nums) (r : Refs) : Prop where
  ok : RefsOK r
  len : r.len = pagesOr0 x.1
  good : Good r
  cap : r.len ≤ r.cap
structure RefsAt (x : Cfg × Nums) (r : Refs) : Prop where
  ok : RefsOK r
  len : r.len ≤ pagesOr0 x.1
  good : Good r
  cap : r.len ≤ r.cap
theorem made_in (c : Cfg) : CfgIn (made c) := by
  have h1 := Int.emod_nonneg c.slots (b := 64) (by omega)
  have h2 := Int.emod_lt_of_pos c.slots (b := 64) (by omega)
  refine ⟨?_, ?_, ?_, ?_, ?_, ?_⟩ <;> simp only [made] <;> omega
theorem made_ok (c : Cfg) : CfgOK (made c) := by
  have h := made_in c
  refine ⟨h, ?_⟩
  have g1 : (made c).slots ≤ 64 := h.slots.2
  have g2 : (made c).files ≤ 64 := by simp only [made]; omega
  have g3 : (made c).dirs ≤ 63 := by simp only [made]; omega
  have g4 := h.page.1
  have g5 : lenI (made c) ≤ 36 * 63 + 40 * 64 + 44 * 128 + 4 := by unfold lenI; omega
  have g6 : 0 ≤ lenI (made c) := by have := h.files.1; have := h.dirs.1; have := h.slots.1; unfold lenI; omega
  unfold pagesI
  rw [Int.ediv_le_iff_le_mul (by omega)]
  omega
theorem good_snoc {r : Refs} {a b : List UInt8} {cap : Int} (hr : RefsOK r) (h : Good r) (ha : a.length = 16) (hb : b.length = 16) : Good ⟨r.N ++ [a], r.T ++ [b], r.len + 1, cap⟩ := by
  have h1 := hr.n
  have h2 := hr.t
  refine ⟨fun i hi => ?_⟩
  simp only at hi
  simp only [SixT]
  by_cases e : (i : Int) < r.len
  · have := h.all i e
    simp only [SixT, List.getD] at this ⊢
    rw [List.getElem?_append_left (by omega), List.getElem?_append_left (by omega)]
    exact this
  · have e1 : i = r.N.length := by omega
    have e2 : i = r.T.length := by omega
    constructor
    · rw [e1]; simp [List.getD, ha]
    · rw [e2]; simp [List.getD, hb]
end Go.PL
set_option linter.unusedSectionVars false
set_option linter.unusedSimpArgs false
set_option linter.unusedVariables false
namespace Go.Eng
variable [CW : CWorld]
open Go.Proofs
open Go.PL (Cfg CfgIn CfgOK CfgBad Img RImg Refs Root Nums)
set_option maxRecDepth 100000
attribute [local irreducible] run
theorem ars3 : (∀ a b : Int, a.emod b = a % b) ∧ (∀ a b : Nat, a.mod b = a % b) := ⟨fun _ _ => rfl, fun _ _ => rfl⟩
theorem go_mod {n m : Int} (h3 : 0 < m) : -m < n.tmod m ∧ n.tmod m < m ∧ (n.tmod m + m).tmod m = n % m := by
  have ha := Int.tmod_lt_of_pos n h3
  have hb : -m < n.tmod m := by
    rcases Int.le_total 0 n with h | h
    · have := Int.tmod_nonneg m h; omega
    · have h1 := Int.tmod_lt_of_pos (-n) h3
      rw [Int.neg_tmod] at h1
      omega
  refine ⟨hb, ha, ?_⟩
  rw [Int.tmod_eq_emod_of_nonneg (by omega), Int.tmod_def, show n - m * n.tdiv m + m = n + m * (1 - n.tdiv m) by rw [Int.mul_sub]; omega, Int.add_mul_emod_self_left]
theorem tdiv_lit {n d : Int} (hd : 0 < d) : n.tdiv d = if 0 ≤ n then n / d else -((-n) / d) := by
  split
  · exact Int.tdiv_eq_ediv_of_nonneg ‹_›
  · have h : n.tdiv d = -((-n).tdiv d) := by rw [Int.neg_tdiv, Int.neg_neg]
    rw [h, Int.tdiv_eq_ediv_of_nonneg (by omega)]
theorem wrap_range (n : Int) : PL.I64 (IntKind.i64.wrap n) := by
  have h : IntKind.i64.wrap n = (if (true && decide (n % (2 ^ 64 : Int) ≥ (2 ^ 63 : Int))) = true then n % (2 ^ 64 : Int) - (2 ^ 64 : Int) else n % (2 ^ 64 : Int)) := rfl
  rw [show (2 : Int) ^ 64 = 18446744073709551616 by decide, show (2 : Int) ^ 63 = 9223372036854775808 by decide] at h
  rw [h]
  by_cases hc : n % 18446744073709551616 ≥ 9223372036854775808
  · rw [if_pos (by simpa using hc)]; exact ⟨by omega, by omega⟩
  · rw [if_neg (by simpa using hc)]; exact ⟨by omega, by omega⟩
def modSpec : Spec where
  X := Int × Int
  A x := [.int .i64 (.x x.1), .int .i64 (.x x.2)]
  H _ := []
  pre x := PL.ModIn x
  outs := [{ Y _ := Unit, post _ _ := True, R x _ := .int .i64 (.x (x.1 % x.2)), H' _ _ := [] }]
def mod_vc (ar : AR) (x : modSpec.X) : Prop :=
  ¬ar.eq x.snd 0 ∧ ∀ (z : Int), z = ar.rem x.fst x.snd → ∀ (z_1 : Int), z_1 = ar.wrap IntKind.i64 (ar.add z x.snd) → ¬ar.eq x.snd 0 ∧ ∀ (z : Int), z = ar.rem z_1 x.snd → ∃ (y :
  Unit), True ∧ z = x.fst.emod x.snd ∧ True
theorem mod_eq (ar : AR) (x : modSpec.X) : (run ar PP noSpec noInv 1000 19 (modSpec.H x).length (Try.f19.body.getD .skip) (modSpec.A x ++ List.replicate (Try.f19.ntmps - (modSpec.A x).length) .any) (modSpec.H x) (endCall ar PP Try.f19.results.toList (modSpec.fin x))) = mod_vc ar x := by
  kernel_rfl
theorem mod_of (h : ∀ x, modSpec.pre x → mod_vc ar0 x) : modSpec.OK PP 19 :=
  Spec.ok_of_run (fn := Try.f19) (c := Try.f19.body.getD .skip) (by kernel_rfl) (by kernel_rfl) (by kernel_rfl) noSpec_ok (fun _ => noInv) 1000 (fun x hx => (mod_eq ar0 x).mpr (h x hx))
theorem modSpec_ok : modSpec.OK PP 19 := by
  refine mod_of fun x hx => ?_
  obtain ⟨n, m⟩ := x
  obtain ⟨⟨h1, h2⟩, h3, h4⟩ : PL.ModIn (n, m) := hx
  unfold mod_vc
  simp only [ars, ars2, true_and, and_true, exists_const]
  simp only at h1 h2 h3 h4
  have h0 : ¬ m = 0 := by omega
  obtain ⟨ha, hb, hc⟩ := go_mod (n := n) h3
  refine ⟨h0, fun z hz z1 hz1 => ⟨h0, fun z2 hz2 => ?_⟩⟩
  subst hz
  rw [wrap_i64 (by omega) (by omega)] at hz1
  subst hz1
  rw [hc] at hz2
  exact hz2
noncomputable def mdSpecs : Specs := fun f xs hp => match f with
  | 19 => some modSpec
  | _ => noSpec f xs hp
theorem mdSpecs_ok : SpecsOK PP mdSpecs := by
  intro CW f xs hp S h
  unfold mdSpecs at h
  split at h
  · cases h; exact modSpec_ok
  · exact noSpec_ok CW f xs hp S h
def madeSpec : Spec where
  X := Cfg
  A x := [.agg (cfgL x)]
  H _ := []
  pre x := PL.CfgI64 x
  outs := [{ Y _ := Unit, post _ _ := True, R x _ := .agg (cfgL (PL.made x)), H' _ _ := [] }]
def made_vc (ar : AR) (x : madeSpec.X) : Prop :=
  ∃ (x_1 : Int × Int), x.slots = x_1.fst ∧ 64 = x_1.snd ∧ PL.ModIn x_1 ∧ ∀ (y : Unit), True → ∀ (z : Int), z = ar.wrap IntKind.i64 (ar.add 1 (x_1.fst.emod x_1.snd)) → ∃ (x_2 : Int
  × Int), x.files = x_2.fst ∧ 64 = x_2.snd ∧ PL.ModIn x_2 ∧ ∀ (y : Unit), True → ∀ (z_1 : Int), z_1 = ar.wrap IntKind.i64 (ar.add 1 (x_2.fst.emod x_2.snd)) → ∃ (x_3 : Int × Int),
  x.dirs = x_3.fst ∧ 64 = x_3.snd ∧ PL.ModIn x_3 ∧ ∀ (y : Unit), True → ∃ (x_4 : Int × Int), x.most = x_4.fst ∧ 65537 = x_4.snd ∧ PL.ModIn x_4 ∧ ∀ (y : Unit), True → ∃ (x_5 : Int ×
  Int), x.least = x_5.fst ∧ 65521 = x_5.snd ∧ PL.ModIn x_5 ∧ ∀ (y : Unit), True → ∀ (z_2 : Int), z_2 = ar.wrap IntKind.i64 (ar.add 16 (x_5.fst.emod x_5.snd)) → ∃ (x_6 : Int × Int),
  x.page = x_6.fst ∧ 1024 = x_6.snd ∧ PL.ModIn x_6 ∧ ∀ (y : Unit), True → ∀ (z_3 : Int), z_3 = ar.wrap IntKind.i64 (ar.add 64 (x_6.fst.emod x_6.snd)) → ∃ (y : Unit), True ∧ z =
  Int.add 1 (x.slots.emod 64) ∧ z_1 = Int.add 1 (x.files.emod 64) ∧ x_3.fst.emod x_3.snd = x.dirs.emod 64 ∧ x_4.fst.emod x_4.snd = x.most.emod 65537 ∧ z_2 = Int.add 16
  (x.least.emod 65521) ∧ z_3 = Int.add 64 (x.page.emod 1024) ∧ True
theorem made_eq (ar : AR) (x : madeSpec.X) : (run ar PP mdSpecs noInv 1000 17 (madeSpec.H x).length (Try.f17.body.getD .skip) (madeSpec.A x ++ List.replicate (Try.f17.ntmps - (madeSpec.A x).length) .any) (madeSpec.H x) (endCall ar PP Try.f17.results.toList (madeSpec.fin x))) = made_vc ar x := by
  kernel_rfl
theorem made_of (h : ∀ x, madeSpec.pre x → made_vc ar0 x) : madeSpec.OK PP 17 :=
  Spec.ok_of_run (fn := Try.f17) (c := Try.f17.body.getD .skip) (by kernel_rfl) (by kernel_rfl) (by kernel_rfl) mdSpecs_ok (fun _ => noInv) 1000 (fun x hx => (made_eq ar0 x).mpr (h x hx))
theorem madeSpec_ok : madeSpec.OK PP 17 := by
  refine made_of fun (x : Cfg) hx => ?_
  obtain ⟨⟨a1, a2⟩, ⟨b1, b2⟩, ⟨c1, c2⟩, ⟨d1, d2⟩, ⟨e1, e2⟩, ⟨f1, f2⟩⟩ : PL.CfgI64 x := hx
  have mi : ∀ n m : Int, -9223372036854775808 ≤ n → n < 9223372036854775808 → 0 < m → m ≤ 100000 → PL.ModIn (n, m) := fun n m h1 h2 h3 h4 => ⟨⟨h1, h2⟩, by simp only; omega⟩
  unfold made_vc
  simp only [ars, ars2, ars3, ex_pair, true_and, and_true, exists_const, forall_const, forall_eq]
  refine ⟨mi _ _ a1 a2 (by omega) (by omega), mi _ _ b1 b2 (by omega) (by omega), mi _ _ c1 c2 (by omega) (by omega), mi _ _ d1 d2 (by omega) (by omega), mi _ _ e1 e2 (by omega) (by omega), mi _ _ f1 f2 (by omega) (by omega), ?_⟩
  and_intros <;> first | rfl | (rw [wrap_i64 (by omega) (by omega)])
def sixSpec : Spec where
  X := Int
  A x := [.int .i64 (.x x)]
  H _ := []
  pre x := PL.I64 x
  outs := [{ Y _ := List UInt8, post _ y := PL.Len16 y, R x y := .str y, H' _ _ := [] }]
def sixInv (x : Int) : Code → List SV → List Blk → List Inv := fun b fr hp => [
  { ι := Nat × Int × List UInt8 × Int, fr := fun i => only b fr 0 [] [(0, .int .i64 (.x i.2.1)), (3, .slc 0 (.l 0) (.x (i.1 : Int)) (.x i.2.2.2)), (4, .int .i64 (.x (i.1 : Int)))],
    hp := fun i => [bytesB i.2.2.1 i.2.2.2], μ := fun i => 16 - i.1, ok := fun i => PL.SixAt i }]
def sixInvs (x : Int) : Invs := fun f n => match f, n with
  | 40, 3 => some (sixInv x)
  | _, _ => none
def six_vc (ar : AR) (x : sixSpec.X) : Prop :=
  (∃ (i : Nat × Int × List UInt8 × Int), PL.SixAt i ∧ x = i.2.fst ∧ 0 = (↑i.fst : Int) ∧ 0 = i.snd.snd.snd ∧ 0 = (↑i.fst : Int) ∧ i.snd.snd.snd = 0 ∧ PL.ints i.snd.snd.fst = [] ∧
  True) ∧ ∀ (i : Nat × Int × List UInt8 × Int), PL.SixAt i → (ar.lt (↑i.fst : Int) 16 → ∃ (x : Int × Int), i.2.fst = x.fst ∧ 256 = x.snd ∧ PL.ModIn x ∧ ∀ (y : Unit), True → ∀ (z :
  Int), z = ar.wrap IntKind.u8 (x.fst.emod x.snd) → ar.le (ar.add 0 (↑i.fst : Int)) (ar.ilen (PL.ints i.snd.snd.fst)) ∧ i.snd.snd.snd = i.snd.snd.snd ∧ ar.le (ar.mul (ar.add
  (↑i.fst : Int) 1) 1) 140737488355328 ∧ ∀ (c : Int), ar.le (ar.add (↑i.fst : Int) 1) c → ∀ (z_1 : Int), z_1 = ar.wrap IntKind.i64 (ar.quo i.2.fst 3) → ∀ (z_2 : Int), z_2 = ar.wrap
  IntKind.i64 (ar.add z_1 (↑i.fst : Int)) → ∀ (z_3 : Int), z_3 = ar.wrap IntKind.i64 (ar.add (↑i.fst : Int) 1) → ∃ (j : Nat × Int × List UInt8 × Int), PL.SixAt j ∧ (Nat.sub 16
  j.fst).lt (Nat.sub 16 i.fst) ∧ z_2 = j.2.fst ∧ ar.add (↑i.fst : Int) 1 = (↑j.fst : Int) ∧ c = j.snd.snd.snd ∧ z_3 = (↑j.fst : Int) ∧ c = j.snd.snd.snd ∧ ar.iapp (ar.isub (PL.ints
  i.snd.snd.fst) 0 (↑i.fst : Int)) [z] = PL.ints j.snd.snd.fst ∧ True) ∧ (¬ar.lt (↑i.fst : Int) 16 → ar.le 0 0 ∧ ar.le (ar.add 0 (↑i.fst : Int)) (ar.ilen (PL.ints i.snd.snd.fst)) ∧
  ∀ (t : List UInt8), t = ar.bytes (ar.isub (PL.ints i.snd.snd.fst) 0 (↑i.fst : Int)) → ∃ (y : List UInt8), PL.Len16 y ∧ t = y ∧ True)
theorem six_eq (ar : AR) (x : sixSpec.X) : (run ar PP mdSpecs (sixInvs x) 1000 40 (sixSpec.H x).length (Try.f40.body.getD .skip) (sixSpec.A x ++ List.replicate (Try.f40.ntmps - (sixSpec.A x).length) .any) (sixSpec.H x) (endCall ar PP Try.f40.results.toList (sixSpec.fin x))) = six_vc ar x := by
  kernel_rfl
theorem six_of (h : ∀ x, sixSpec.pre x → six_vc ar0 x) : sixSpec.OK PP 40 :=
  Spec.ok_of_run (fn := Try.f40) (c := Try.f40.body.getD .skip) (by kernel_rfl) (by kernel_rfl) (by kernel_rfl) mdSpecs_ok sixInvs 1000 (fun x hx => (six_eq ar0 x).mpr (h x hx))
theorem sixSpec_ok : sixSpec.OK PP 40 := by
  refine six_of fun (x : Int) hx => ?_
  obtain ⟨h1, h2⟩ : PL.I64 x := hx
  unfold six_vc
  simp only [ars, ars2, ars3, ex_pair, true_and, and_true, exists_const, forall_const, forall_eq, Int.toNat_natCast, Int.reduceToNat, List.drop_zero, PL.ints_length]
  refine ⟨⟨(0, x, [], 0), ⟨by simp, rfl, by simp, ⟨h1, h2⟩⟩, rfl, rfl, rfl, rfl, rfl, rfl⟩, ?_⟩
  rintro ⟨k, n, l, cap⟩ ⟨g1, g2, g3, g4, g5⟩
  simp only at g1 g2 g3 g4 g5 ⊢
  have hd : -9223372036854775808 ≤ n.tdiv 3 + k ∧ n.tdiv 3 + k < 9223372036854775808 ∧ -9223372036854775808 ≤ n.tdiv 3 ∧ n.tdiv 3 < 9223372036854775808 := by
    rw [tdiv_lit (by omega)]
    split <;> omega
  refine ⟨fun hlt => ⟨⟨⟨g4, g5⟩, by simp⟩, by omega, by omega, fun c hc => ⟨(k + 1, n.tdiv 3 + k, l ++ [PL.b8 (n % 256)], c), ⟨by simp only; omega, by simp [g2], by simp only; omega, ⟨by simp only; omega, by simp only; omega⟩⟩, by simp only; omega, ?_, by simp only; omega, rfl, ?_, rfl, ?_⟩⟩, fun hge => ⟨by omega, by omega, l, ⟨by omega⟩, ?_⟩⟩
  · rw [wrap_i64 (n := n.tdiv 3) (by omega) (by omega), wrap_i64 (by omega) (by omega)]
  · rw [wrap_i64 (by omega) (by omega)]; simp
  · rw [List.take_of_length_le (by rw [PL.ints_length]; omega), wrap_b8, PL.ints_append]; rfl
  · rw [List.take_of_length_le (by rw [PL.ints_length]; omega), PL.bytes_ints]
noncomputable def rfSpecs : Specs := fun f xs hp => match f with
  | 40 => some sixSpec
  | _ => cSpecs f xs hp
theorem rfSpecs_ok : SpecsOK PP rfSpecs := by
  intro CW f xs hp S h
  unfold rfSpecs at h
  split at h
  · cases h; exact sixSpec_ok
  · exact cSpecs_ok CW f xs hp S h
def numsS (x : Nums) : SV := .cs [.ints .i64 x.l] (.x x.len) (.x x.cap)
noncomputable def refsSpec : Spec where
  X := Cfg × Nums
  A x := [.agg (cfgL x.1), numsS x.2]
  H _ := []
  pre x := PL.RefsIn x
  outs := [{ Y _ := Refs, post x y := PL.RefsPost x y, R x y := .slc 0 (.l 0) (.x y.len) (.x y.cap), H' _ y := [refsB y] }]
  frz := true
def refsInv (x : Cfg × Nums) : Code → List SV → List Blk → List Inv := fun b fr hp => [
  { ι := Refs, fr := fun i => only b fr 0 [1, 5] [(7, .slc 0 (.l 0) (.x i.len) (.x i.cap)), (8, .int .i64 (.x i.len))],
    hp := fun i => [refsB i], μ := fun i => 1024 - i.len.toNat, ok := fun i => PL.RefsAt x i }]
def refsInvs (x : Cfg × Nums) : Invs := fun f n => match f, n with
  | 18, 4 => some (refsInv x)
  | _, _ => none
def refs_vc (ar : AR) (x : refsSpec.X) : Prop :=
  ∃ (x_1 : Cfg), x.fst.slots = x_1.slots ∧ x.fst.files = x_1.files ∧ x.fst.dirs = x_1.dirs ∧ x.fst.most = x_1.most ∧ x.fst.least = x_1.least ∧ x.fst.page = x_1.page ∧ PL.CfgAny x_1
  ∧ ∀ (y : Unit), True → (∃ (i : Refs), PL.RefsAt x i ∧ x.snd.l = x.snd.l ∧ x.snd.len = x.snd.len ∧ x.snd.cap = x.snd.cap ∧ PL.pagesOr0 x_1 = PL.pagesOr0 x_1 ∧ 0 = i.len ∧ 0 =
  i.cap ∧ 0 = i.len ∧ i.cap = 0 ∧ i.N = [] ∧ i.T = [] ∧ True) ∧ ∀ (i : Refs), PL.RefsAt x i → (ar.lt i.len (PL.pagesOr0 x_1) → (ar.lt i.len 1024 → (ar.lt 0 x.snd.len → ¬ar.eq
  x.snd.len 0 ∧ ∀ (z : Int), z = ar.rem i.len x.snd.len → ar.le 0 z ∧ ar.lt z x.snd.len ∧ ∀ (z_1 : Int), z_1 = ar.wrap IntKind.i64 (ar.add (ar.iget x.snd.l z) i.len) → ∃ (x_2 :
  Int), z_1 = x_2 ∧ PL.I64 x_2 ∧ ∀ (y : List UInt8), PL.Len16 y → ∀ (z : Int), z = ar.wrap IntKind.i64 (ar.quo z_1 5) → ∃ (x_3 : Int), z = x_3 ∧ PL.I64 x_3 ∧ ∀ (y_1 : List UInt8),
  PL.Len16 y_1 → ar.le (ar.add 0 i.len) (ar.tlen i.N) ∧ ar.le (ar.add 0 i.len) (ar.tlen i.T) ∧ i.cap = i.cap ∧ ar.le (ar.mul (ar.add i.len 1) 32) 140737488355328 ∧ ∀ (c : Int),
  ar.le (ar.add i.len 1) c → ∀ (z : Int), z = ar.wrap IntKind.i64 (ar.add i.len 1) → ∃ (j : Refs), PL.RefsAt x j ∧ (Nat.sub 1024 j.len.toNat).lt (Nat.sub 1024 i.len.toNat) ∧
  x.snd.l = x.snd.l ∧ x.snd.len = x.snd.len ∧ x.snd.cap = x.snd.cap ∧ PL.pagesOr0 x_1 = PL.pagesOr0 x_1 ∧ ar.add i.len 1 = j.len ∧ c = j.cap ∧ z = j.len ∧ c = j.cap ∧ ar.tapp
  (ar.tsub i.N 0 i.len) [y] = j.N ∧ ar.tapp (ar.tsub i.T 0 i.len) [y_1] = j.T ∧ True) ∧ (¬ar.lt 0 x.snd.len → ∃ (x_2 : Int), i.len = x_2 ∧ PL.I64 x_2 ∧ ∀ (y : List UInt8), PL.Len16
  y → ∀ (z : Int), z = ar.wrap IntKind.i64 (ar.quo i.len 5) → ∃ (x_3 : Int), z = x_3 ∧ PL.I64 x_3 ∧ ∀ (y_1 : List UInt8), PL.Len16 y_1 → ar.le (ar.add 0 i.len) (ar.tlen i.N) ∧
  ar.le (ar.add 0 i.len) (ar.tlen i.T) ∧ i.cap = i.cap ∧ ar.le (ar.mul (ar.add i.len 1) 32) 140737488355328 ∧ ∀ (c : Int), ar.le (ar.add i.len 1) c → ∀ (z : Int), z = ar.wrap
  IntKind.i64 (ar.add i.len 1) → ∃ (j : Refs), PL.RefsAt x j ∧ (Nat.sub 1024 j.len.toNat).lt (Nat.sub 1024 i.len.toNat) ∧ x.snd.l = x.snd.l ∧ x.snd.len = x.snd.len ∧ x.snd.cap =
  x.snd.cap ∧ PL.pagesOr0 x_1 = PL.pagesOr0 x_1 ∧ ar.add i.len 1 = j.len ∧ c = j.cap ∧ z = j.len ∧ c = j.cap ∧ ar.tapp (ar.tsub i.N 0 i.len) [y] = j.N ∧ ar.tapp (ar.tsub i.T 0
  i.len) [y_1] = j.T ∧ True)) ∧ (¬ar.lt i.len 1024 → ∃ (y : Refs), PL.RefsPost x y ∧ i.len = y.len ∧ i.cap = y.cap ∧ i.cap = y.cap ∧ i.N = y.N ∧ i.T = y.T ∧ True)) ∧ (¬ar.lt i.len
  (PL.pagesOr0 x_1) → ∃ (y : Refs), PL.RefsPost x y ∧ i.len = y.len ∧ i.cap = y.cap ∧ i.cap = y.cap ∧ i.N = y.N ∧ i.T = y.T ∧ True)
theorem refs_eq (ar : AR) (x : refsSpec.X) : (run ar PP rfSpecs (refsInvs x) 1000 18 (refsSpec.H x).length (Try.f18.body.getD .skip) (refsSpec.A x ++ List.replicate (Try.f18.ntmps - (refsSpec.A x).length) .any) (refsSpec.H x) (endCall ar PP Try.f18.results.toList (refsSpec.fin x))) = refs_vc ar x := by
  kernel_rfl
theorem refs_of (h : ∀ x, refsSpec.pre x → refs_vc ar0 x) : refsSpec.OK PP 18 :=
  Spec.ok_of_run (fn := Try.f18) (c := Try.f18.body.getD .skip) (by kernel_rfl) (by kernel_rfl) (by kernel_rfl) rfSpecs_ok refsInvs 1000 (fun x hx => (refs_eq ar0 x).mpr (h x hx))
theorem refsSpec_ok : refsSpec.OK PP 18 := by
  refine refs_of fun x hx => ?_
  obtain ⟨c, ⟨rl, rn, rc⟩⟩ := x
  obtain ⟨⟨h1, h2, h3⟩⟩ : PL.RefsIn (c, ⟨rl, rn, rc⟩) := hx
  simp only at h1 h2 h3
  unfold refs_vc
  simp only [ars, ars2, ars3, ex_cfg6, ex_list, cfg_eta, cfgAny, true_and, and_true, exists_const, forall_const, forall_eq, Int.toNat_natCast, Int.reduceToNat, List.drop_zero]
  have hp : 0 ≤ PL.pagesOr0 c ∧ PL.pagesOr0 c ≤ 1024 := by
    by_cases hc : CfgOK c
    · rw [PL.pagesOr0_ok hc]; have := PL.pages_range hc; omega
    · rw [PL.pagesOr0_bad hc]; omega
  refine ⟨⟨⟨[], [], 0, 0⟩, ⟨⟨rfl, rfl, by simp⟩, by simp only; omega, ⟨fun i hi => by simp only at hi; omega⟩, by simp⟩, rfl, rfl, rfl, rfl, rfl, rfl⟩, ?_⟩
  rintro ⟨N, T, k, cap⟩ ⟨⟨g1, g2, g3⟩, g4, g5, g6⟩
  simp only at g1 g2 g3 g4 g6 ⊢
  have hk : 0 ≤ k := by omega
  have fin : ∀ a b : List UInt8, PL.Len16 a → PL.Len16 b → k < PL.pagesOr0 c → 0 + k ≤ (N.length : Int) ∧ 0 + k ≤ (T.length : Int) ∧ (k + 1) * 32 ≤ 140737488355328 ∧ ∀ c_1 : Int, k + 1 ≤ c_1 → ∃ j : Refs, PL.RefsAt (c, ⟨rl, rn, rc⟩) j ∧ 1024 - j.len.toNat < 1024 - k.toNat ∧ k + 1 = j.len ∧ c_1 = j.cap ∧ IntKind.i64.wrap (k + 1) = j.len ∧ c_1 = j.cap ∧
      List.take k.toNat N ++ [a] = j.N ∧ List.take k.toNat T ++ [b] = j.T := fun a b ha hb hlt => by
    refine ⟨by omega, by omega, by omega, fun c1 hc1 => ⟨⟨N ++ [a], T ++ [b], k + 1, c1⟩, ⟨⟨by simp; omega, by simp; omega, by simp only; omega⟩, by simp only; omega, PL.good_snoc ⟨g1, g2, g3⟩ g5 ha.len hb.len, by simp only; omega⟩, by simp only; omega, rfl, rfl, ?_, rfl, ?_, ?_⟩⟩
    · rw [wrap_i64 (by omega) (by omega)]
    · rw [List.take_of_length_le (by omega)]
    · rw [List.take_of_length_le (by omega)]
  have end_ : ¬ k < PL.pagesOr0 c → ∃ y : Refs, PL.RefsPost (c, ⟨rl, rn, rc⟩) y ∧ k = y.len ∧ cap = y.cap ∧ cap = y.cap ∧ N = y.N ∧ T = y.T := fun h =>
    ⟨⟨N, T, k, cap⟩, ⟨⟨g1, g2, g3⟩, by simp only; omega, g5, g6⟩, rfl, rfl, rfl, rfl, rfl⟩
  refine ⟨fun hlt => ⟨fun _ => ⟨fun hr => ?_, fun hr => ⟨k, rfl, ⟨by omega, by omega⟩, fun a ha => ⟨_, rfl, wrap_range _, fun b hb => fin a b ha hb hlt⟩⟩⟩, fun h => absurd hlt (by omega)⟩, end_⟩
  have hm := Int.tmod_lt_of_pos k hr
  have hm0 := Int.tmod_nonneg rn hk
  exact ⟨by omega, hm0, hm, _, rfl, wrap_range _, fun a ha => ⟨_, rfl, wrap_range _, fun b hb => fin a b ha hb hlt⟩⟩
end Go.Eng

namespace Go.PL
structure BackX where
  raw : Cfg
  rows : Nums
  place : Int
  by_ : Int
  other : Cfg
structure BackIn (x : BackX) : Prop where
  raw : CfgI64 x.raw
  rows : NumsOK x.rows
  place : I64 x.place
  by_ : I64 x.by_
  other : CfgI64 x.other
theorem flat_get : ∀ (j : Nat) (N T : List (List UInt8)), (hN : j < N.length) → (hT : j < T.length) → (∀ i, i < N.length → (N.getD i []).length = 16 ∧ (T.getD i []).length = 16) →
    (flat2 N T).drop (32 * j) = (N[j] ++ T[j]) ++ flat2 (N.drop (j + 1)) (T.drop (j + 1))
  | _, [], _, hN, _, _ => by simp at hN
  | _, _ :: _, [], _, hT, _ => by simp at hT
  | 0, a :: N, b :: T, _, _, _ => by simp [flat2]
  | j + 1, a :: N, b :: T, hN, hT, h => by
    have h0 := h 0 (by simp)
    simp only [List.getD_cons_zero] at h0
    have ih := flat_get j N T (by simpa using hN) (by simpa using hT) (fun i hi => by simpa using h (i + 1) (by simpa using hi))
    have e : flat2 (a :: N) (b :: T) = (a ++ b) ++ flat2 N T := by simp [flat2]
    rw [e, show 32 * (j + 1) = 32 + 32 * j by omega, ← List.drop_drop]
    have e2 : List.drop 32 ((a ++ b) ++ flat2 N T) = flat2 N T := by
      rw [List.drop_append_of_le_length (by simp; omega), List.drop_eq_nil_of_le (by simp; omega)]; rfl
    rw [e2, ih]
    simp
theorem sub_app {a b c : List UInt8} {k n : Nat} (ha : a.length = k) (hb : b.length = n) : sub (a ++ (b ++ c)) k n = b := by
  unfold sub
  rw [← ha, List.drop_left, ← hb, List.take_left]
structure Written (c : Cfg) (r : Refs) (s : List UInt8) : Prop where
  len : (s.length : Int) = 27 + 32 * r.len
  i : DecI s
  cfg : decCfg s = c
  cnt : decCnt s = r.len
  N : decN s r.len.toNat = r.N
  T : decT s r.len.toNat = r.T
theorem written {c : Cfg} {r : Refs} (hc : CfgOK c) (hr : RefsOK r) (hg : Good r) (hl : r.len = pagesI c) : Written c r (rootBytes c r) := by
  have hp := pages_range hc
  have hf := good_flat hr hg
  have h1 := hr.n
  have h2 := hr.t
  obtain ⟨⟨k1, k1'⟩, ⟨k2, k2'⟩, ⟨k3, k3'⟩, ⟨k4, k4'⟩, ⟨k5, k5'⟩, ⟨k6, k6'⟩⟩ := hc.ok
  have p4 : (256 : Int) ^ 4 = 4294967296 := by decide
  have p2 : (256 : Int) ^ 2 = 65536 := by decide
  have hlen : ((rootBytes c r).length : Int) = 27 + 32 * r.len := by
    simp only [rootBytes, List.length_append, rootHead_length, big_length]
    omega
  have n4 : ∀ (pre rest : List UInt8) (v : Int) (k : Nat), rootBytes c r = pre ++ (big v 4 ++ rest) → pre.length = k → 0 ≤ v → v < 4294967296 → num4 (rootBytes c r) k = v := fun pre rest v k he hk h0 h1 => by
    rw [num4, he, sub_app hk (big_length _ _), numB_big 4 v h0 (by omega)]
  have e1 : num4 (rootBytes c r) 1 = c.slots := n4 [82] _ c.slots 1 (by simp only [rootBytes, rootHead, List.cons_append, List.nil_append, List.append_assoc]; rfl) rfl (by omega) (by omega)
  have e2 : num4 (rootBytes c r) 5 = c.files := n4 (82 :: big c.slots 4) _ c.files 5 (by simp only [rootBytes, rootHead, List.cons_append, List.append_assoc]; rfl) (by simp [big_length]) (by omega) (by omega)
  have e3 : num4 (rootBytes c r) 9 = c.dirs := n4 (82 :: (big c.slots 4 ++ big c.files 4)) _ c.dirs 9 (by simp only [rootBytes, rootHead, List.cons_append, List.append_assoc]; rfl) (by simp [big_length]) (by omega) (by omega)
  have e4 : num4 (rootBytes c r) 13 = c.most := n4 (82 :: (big c.slots 4 ++ (big c.files 4 ++ big c.dirs 4))) _ c.most 13 (by simp only [rootBytes, rootHead, List.cons_append, List.append_assoc]; rfl) (by simp [big_length]) (by omega) (by omega)
  have e5 : num4 (rootBytes c r) 17 = c.least := n4 (82 :: (big c.slots 4 ++ (big c.files 4 ++ (big c.dirs 4 ++ big c.most 4)))) _ c.least 17 (by simp only [rootBytes, rootHead, List.cons_append, List.append_assoc]; rfl) (by simp [big_length]) (by omega) (by omega)
  have e6 : num4 (rootBytes c r) 21 = c.page := n4 (82 :: (big c.slots 4 ++ (big c.files 4 ++ (big c.dirs 4 ++ (big c.most 4 ++ big c.least 4))))) _ c.page 21 (by simp only [rootBytes, rootHead, List.cons_append, List.append_assoc]; rfl) (by simp [big_length]) (by omega) (by omega)
  have hcfg : decCfg (rootBytes c r) = c := by unfold decCfg; rw [e1, e2, e3, e4, e5, e6]
  have hcnt : decCnt (rootBytes c r) = r.len := by
    rw [decCnt, rootBytes, sub_app (rootHead_length c) (big_length _ _), numB_big 2 _ (by omega) (by omega)]
  have hd27 : (rootBytes c r).drop 27 = flat2 r.N r.T := by
    rw [rootBytes, ← List.append_assoc, List.drop_append_of_le_length (by simp [rootHead_length, big_length]), List.drop_eq_nil_of_le (by simp [rootHead_length, big_length])]
    rfl
  have six : ∀ i, i < r.N.length → (r.N.getD i []).length = 16 ∧ (r.T.getD i []).length = 16 := fun i hi => hg.all i (by omega)
  have piece : ∀ j (hj : j < r.N.length) (hj' : j < r.T.length), sub (rootBytes c r) (27 + 32 * j) 16 = r.N[j] ∧ sub (rootBytes c r) (43 + 32 * j) 16 = r.T[j] := fun j hj hj' => by
    have h3 := flat_get j r.N r.T hj hj' six
    have h4 := six j hj
    simp only [List.getD, List.getElem?_eq_getElem hj, List.getElem?_eq_getElem hj', Option.getD_some] at h4
    constructor
    · rw [sub, ← List.drop_drop, hd27, h3, List.append_assoc, ← h4.1, List.take_left]
    · rw [sub, show 43 + 32 * j = 27 + (32 * j + 16) by omega, ← List.drop_drop, hd27, ← List.drop_drop, h3, List.append_assoc]
      conv => lhs; arg 2; rw [← h4.1, List.drop_left]
      conv => lhs; rw [← h4.2, List.take_left]
  refine ⟨hlen, ⟨⟨by omega, rfl⟩, by rw [hcfg]; exact hc, by rw [hcfg, hcnt, hl], by rw [hcnt]; omega⟩, hcfg, hcnt, ?_, ?_⟩
  · apply List.ext_getElem
    · rw [decN_length]; omega
    · intro j h3 h4
      simp only [decN, List.getElem_map, List.getElem_range]
      exact (piece j h4 (by omega)).1
  · apply List.ext_getElem
    · rw [decT_length]; omega
    · intro j h3 h4
      simp only [decT, List.getElem_map, List.getElem_range]
      exact (piece j (by omega) h4).2
def turn (s : List UInt8) (place b : Int) : List UInt8 := s.take (place % s.length).toNat ++ ([s.getD (place % s.length).toNat 0 ^^^ b8 (1 + b % 255)] ++ s.drop ((place % s.length).toNat + 1))
theorem turn_set {s : List UInt8} {place b : Int} (h : 0 < s.length) : ∃ (k : Nat) (v : UInt8), (k : Int) = place % s.length ∧ ∃ hk : k < s.length, turn s place b = s.set k v ∧ v = s[k] ^^^ b8 (1 + b % 255) := by
  have h0 := Int.emod_nonneg place (b := s.length) (by omega)
  have h1 := Int.emod_lt_of_pos place (b := s.length) (by omega)
  refine ⟨(place % s.length).toNat, _, by omega, by omega, ?_, rfl⟩
  unfold turn
  rw [List.set_eq_take_append_cons_drop, if_pos (by omega)]
  have : s.getD (place % s.length).toNat 0 = s[(place % s.length).toNat]'(by omega) := by
    simp [List.getD, List.getElem?_eq_getElem (show (place % s.length).toNat < s.length by omega)]
  rw [this]
  rfl
theorem xor_ne {a b : UInt8} (h : b ≠ 0) : a ^^^ b ≠ a := fun e => h (by
  have : a ^^^ (a ^^^ b) = a ^^^ a := by rw [e]
  rw [← UInt8.xor_assoc, UInt8.xor_self, UInt8.zero_xor] at this
  exact this)
theorem b8_ne {n : Int} (h0 : 0 < n) (h1 : n < 256) : b8 n ≠ 0 := fun e => by
  have := b8_toNat n
  rw [e] at this
  simp at this
  omega
theorem sub_set {s : List UInt8} {k a n : Nat} {v : UInt8} (h : a + n ≤ k) : sub (s.set k v) a n = sub s a n := by
  unfold sub
  rw [List.take_drop, List.take_drop, List.take_set_of_le h]
theorem head27 (c : Cfg) (r : Refs) : (rootBytes c r).take 27 = rootHead c ++ big r.len 2 := by
  rw [rootBytes, ← List.append_assoc, List.take_append_of_le_length (by simp [rootHead_length, big_length]), List.take_of_length_le (by simp [rootHead_length, big_length])]
/-- A byte of a root turned. -/
theorem turned {c : Cfg} {r : Refs} {s : List UInt8} {k : Nat} {v : UInt8} (hc : CfgOK c) (hs : rootBytes c r = s) (W : Written c r s) (hk : k < s.length) (hv : v ≠ s[k]) (hl : r.len = pagesI c) :
    (DecOK c (s.set k v) → 27 ≤ k ∧ ∀ y, DecPost (c, s.set k v) y → ¬ SameR y ⟨c, r⟩) ∧ (¬ DecOK c (s.set k v) → k < 27) := by
  have hp := pages_range hc
  have hne : s.set k v ≠ s := fun e => hv (by
    have h1 := congrArg (fun l => l[k]?) e
    simp [List.getElem?_set_self hk, List.getElem?_eq_getElem hk] at h1
    exact h1)
  have hlen := W.len
  have tl : (s.set k v).length = s.length := List.length_set
  have a2 := head27 c r
  rw [hs] at a2
  constructor
  · intro hD
    have hcnt : decCnt (s.set k v) = r.len := by rw [hD.i.cnt, hD.cfg, hl]
    have hR := root_dec (cap := r.cap) hD.i.head (n := r.len.toNat) (by rw [hcnt]; omega) (by omega)
    rw [hD.cfg] at hR
    have hn : ((r.len.toNat : Nat) : Int) = r.len := Int.toNat_of_nonneg (by omega)
    constructor
    · refine Classical.byContradiction fun hlt => ?_
      have a1 := congrArg (List.take 27) hR
      rw [head27] at a1
      simp only [hn] at a1
      have h1 : (s.set k v).take 27 = s.take 27 := by rw [← a1, a2]
      have h2 := congrArg (fun l => l[k]?) h1
      simp only [List.getElem?_take, show k < 27 by omega, if_true, List.getElem?_set_self hk, List.getElem?_eq_getElem hk, Option.some.injEq] at h2
      exact hv h2
    · intro y hy hsame
      obtain ⟨cap, he, _⟩ := hy.eq
      rw [decR_ok hD] at he
      apply hne
      have hN := hsame.N
      have hT := hsame.T
      rw [he] at hN hT
      simp only [hcnt] at hN hT
      rw [hN, hT, hn] at hR
      rw [← hR]
      exact hs
  · intro hD
    refine Classical.byContradiction fun hge => hD ?_
    have e : ∀ a n, a + n ≤ 27 → sub (s.set k v) a n = sub s a n := fun a n h => sub_set (by omega)
    have e1 : decCfg (s.set k v) = decCfg s := by
      simp only [decCfg, num4]
      rw [e 1 4 (by omega), e 5 4 (by omega), e 9 4 (by omega), e 13 4 (by omega), e 17 4 (by omega), e 21 4 (by omega)]
    rw [W.cfg] at e1
    have e2 : decCnt (s.set k v) = r.len := by rw [decCnt, e 25 2 (by omega)]; exact W.cnt
    have e3 : (s.set k v).getD 0 0 = 82 := by
      rw [List.getD, List.getElem?_set_ne (by omega)]
      exact W.i.head.mark
    exact ⟨hc, ⟨⟨by omega, e3⟩, by rw [e1]; exact hc, by rw [e1, e2, hl], by rw [e2, tl]; omega⟩, e1⟩
theorem decE_cases {c : Cfg} {s : List UInt8} (hc : CfgOK c) (h : ¬ DecOK c s) : decE c s = 141 ∨ decE c s = 140 := by
  by_cases hi : DecI s
  · by_cases he : decCfg s = c
    · exact absurd ⟨hc, hi, he⟩ h
    · exact .inr (decE_o hc hi he)
  · exact .inl (decE_i hc hi)
end Go.PL
set_option linter.unusedSectionVars false
set_option linter.unusedSimpArgs false
set_option linter.unusedVariables false
namespace Go.Eng
variable [CW : CWorld]
open Go.Proofs
open Go.PL (Cfg CfgIn CfgOK CfgBad Img RImg Refs Root Nums BackX)
set_option maxRecDepth 100000
attribute [local irreducible] run
theorem ex_CR {a1 a2 a3 a4 a5 a6 b1 b2 b3 b4 b5 b6 l k : Int} {N T : List (List UInt8)} {p q r : Prop} {Q : Cfg × Root → Prop} :
    (∃ x : Cfg × Root, a1 = x.1.slots ∧ a2 = x.1.files ∧ a3 = x.1.dirs ∧ a4 = x.1.most ∧ a5 = x.1.least ∧ a6 = x.1.page ∧ b1 = x.2.cfg.slots ∧ b2 = x.2.cfg.files ∧ b3 = x.2.cfg.dirs ∧ b4 = x.2.cfg.most ∧ b5 = x.2.cfg.least ∧ b6 = x.2.cfg.page ∧ p ∧ q ∧ r ∧ N = x.2.refs.N ∧ T = x.2.refs.T ∧ l = x.2.refs.len ∧ k = x.2.refs.cap ∧ Q x) ↔
      (p ∧ q ∧ r ∧ Q (⟨a1, a2, a3, a4, a5, a6⟩, ⟨⟨b1, b2, b3, b4, b5, b6⟩, ⟨N, T, l, k⟩⟩)) := by
  constructor
  · rintro ⟨⟨⟨c1, c2, c3, c4, c5, c6⟩, ⟨⟨d1, d2, d3, d4, d5, d6⟩, ⟨e1, e2, e3, e4⟩⟩⟩, h1, h2, h3, h4, h5, h6, g1, g2, g3, g4, g5, g6, hp, hq, hr, i1, i2, i3, i4, h⟩
    simp only at h1 h2 h3 h4 h5 h6 g1 g2 g3 g4 g5 g6 i1 i2 i3 i4
    subst h1 h2 h3 h4 h5 h6 g1 g2 g3 g4 g5 g6 i1 i2 i3 i4
    exact ⟨hp, hq, hr, h⟩
  · rintro ⟨hp, hq, hr, h⟩
    exact ⟨_, rfl, rfl, rfl, rfl, rfl, rfl, rfl, rfl, rfl, rfl, rfl, rfl, hp, hq, hr, rfl, rfl, rfl, rfl, h⟩
theorem ex_RR {a1 a2 a3 a4 a5 a6 b1 b2 b3 b4 b5 b6 l k l' k' : Int} {N T N' T' : List (List UInt8)} {p q r p' q' r' : Prop} {Q : Root × Root → Prop} :
    (∃ x : Root × Root, a1 = x.1.cfg.slots ∧ a2 = x.1.cfg.files ∧ a3 = x.1.cfg.dirs ∧ a4 = x.1.cfg.most ∧ a5 = x.1.cfg.least ∧ a6 = x.1.cfg.page ∧ p ∧ q ∧ r ∧ N = x.1.refs.N ∧ T = x.1.refs.T ∧ l = x.1.refs.len ∧ k = x.1.refs.cap ∧ b1 = x.2.cfg.slots ∧ b2 = x.2.cfg.files ∧ b3 = x.2.cfg.dirs ∧ b4 = x.2.cfg.most ∧ b5 = x.2.cfg.least ∧ b6 = x.2.cfg.page ∧ p' ∧ q' ∧ r' ∧ N' = x.2.refs.N ∧ T' = x.2.refs.T ∧ l' = x.2.refs.len ∧ k' = x.2.refs.cap ∧ Q x) ↔
      (p ∧ q ∧ r ∧ p' ∧ q' ∧ r' ∧ Q (⟨⟨a1, a2, a3, a4, a5, a6⟩, ⟨N, T, l, k⟩⟩, ⟨⟨b1, b2, b3, b4, b5, b6⟩, ⟨N', T', l', k'⟩⟩)) := by
  constructor
  · rintro ⟨⟨⟨⟨c1, c2, c3, c4, c5, c6⟩, ⟨e1, e2, e3, e4⟩⟩, ⟨⟨d1, d2, d3, d4, d5, d6⟩, ⟨f1, f2, f3, f4⟩⟩⟩, h1, h2, h3, h4, h5, h6, hp, hq, hr, i1, i2, i3, i4, g1, g2, g3, g4, g5, g6, hp', hq', hr', j1, j2, j3, j4, h⟩
    simp only at h1 h2 h3 h4 h5 h6 g1 g2 g3 g4 g5 g6 i1 i2 i3 i4 j1 j2 j3 j4
    subst h1 h2 h3 h4 h5 h6 g1 g2 g3 g4 g5 g6 i1 i2 i3 i4 j1 j2 j3 j4
    exact ⟨hp, hq, hr, hp', hq', hr', h⟩
  · rintro ⟨hp, hq, hr, hp', hq', hr', h⟩
    exact ⟨_, rfl, rfl, rfl, rfl, rfl, rfl, hp, hq, hr, rfl, rfl, rfl, rfl, rfl, rfl, rfl, rfl, rfl, rfl, hp', hq', hr', rfl, rfl, rfl, rfl, h⟩
theorem ex_CS {a1 a2 a3 a4 a5 a6 : Int} {s : List UInt8} {Q : Cfg × List UInt8 → Prop} : (∃ x : Cfg × List UInt8, a1 = x.1.slots ∧ a2 = x.1.files ∧ a3 = x.1.dirs ∧ a4 = x.1.most ∧ a5 = x.1.least ∧ a6 = x.1.page ∧ s = x.2 ∧ Q x) ↔ Q (⟨a1, a2, a3, a4, a5, a6⟩, s) := by
  constructor
  · rintro ⟨⟨⟨c1, c2, c3, c4, c5, c6⟩, t⟩, h1, h2, h3, h4, h5, h6, h7, h⟩
    simp only at h1 h2 h3 h4 h5 h6 h7
    subst h1 h2 h3 h4 h5 h6 h7
    exact h
  · exact fun h => ⟨_, rfl, rfl, rfl, rfl, rfl, rfl, rfl, h⟩
theorem ex_CN {a1 a2 a3 a4 a5 a6 n m : Int} {l : List Int} {Q : Cfg × Nums → Prop} : (∃ x : Cfg × Nums, a1 = x.1.slots ∧ a2 = x.1.files ∧ a3 = x.1.dirs ∧ a4 = x.1.most ∧ a5 = x.1.least ∧ a6 = x.1.page ∧ l = x.2.l ∧ n = x.2.len ∧ m = x.2.cap ∧ Q x) ↔ Q (⟨a1, a2, a3, a4, a5, a6⟩, ⟨l, n, m⟩) := by
  constructor
  · rintro ⟨⟨⟨c1, c2, c3, c4, c5, c6⟩, ⟨t1, t2, t3⟩⟩, h1, h2, h3, h4, h5, h6, h7, h8, h9, h⟩
    simp only at h1 h2 h3 h4 h5 h6 h7 h8 h9
    subst h1 h2 h3 h4 h5 h6 h7 h8 h9
    exact h
  · exact fun h => ⟨_, rfl, rfl, rfl, rfl, rfl, rfl, rfl, rfl, rfl, h⟩
theorem ex_int {a : Int} {Q : Int → Prop} : (∃ x, a = x ∧ Q x) ↔ Q a := by
  constructor
  · rintro ⟨x, rfl, h⟩; exact h
  · exact fun h => ⟨a, rfl, h⟩
theorem made_fold (c : Cfg) : (⟨1 + c.slots % 64, 1 + c.files % 64, c.dirs % 64, c.most % 65537, 16 + c.least % 65521, 64 + c.page % 1024⟩ : Cfg) = PL.made c := rfl
theorem refs_eta (r : Refs) : (⟨r.N, r.T, r.len, r.cap⟩ : Refs) = r := rfl
theorem root_eta (r : Root) : (⟨r.cfg, r.refs⟩ : Root) = r := rfl
theorem nums_eta (r : Nums) : (⟨r.l, r.len, r.cap⟩ : Nums) = r := rfl
noncomputable def bkSpecs : Specs := fun f xs hp => match f with
  | 19 => some modSpec
  | 17 => some madeSpec
  | 18 => some refsSpec
  | _ => lwSpecs f xs hp
theorem bkSpecs_ok : SpecsOK PP bkSpecs := by
  intro CW f xs hp S h
  unfold bkSpecs at h
  split at h
  · cases h; exact modSpec_ok
  · cases h; exact madeSpec_ok
  · cases h; exact refsSpec_ok
  · exact lwSpecs_ok CW f xs hp S h
noncomputable def backSpec : Spec where
  X := BackX
  A x := [.agg (cfgL x.raw), numsS x.rows, .int .i64 (.x x.place), .int .i64 (.x x.by_), .agg (cfgL x.other)]
  H _ := []
  pre x := PL.BackIn x
  outs := [lawOut _]
def strOf : SV → List UInt8
  | .str s => s
  | _ => []
def rootB (c : Cfg) (n : Nat) (y : Refs) : Blk := .mk 35 ((cfgL c).map .one ++ [.one (.slc n (.l 0) (.x y.len) (.x y.cap))])
def backCut2 (x : BackX) : Code → List SV → List Blk → List Inv := fun b fr hp => [
  { ι := Refs, fr := fun i => only b fr 0 [2, 3, 5, 9, 11] [(12, .ptr 3 (.l 0))], hp := fun i => [hp.getD 0 .gone, hp.getD 1 .gone, hp.getD 2 .gone, rootB (PL.made x.raw) 4 i, refsB i], μ := fun i => 0, ok := fun i => PL.RefsPost (PL.made x.raw, x.rows) i }]
noncomputable def backCut13 (x : BackX) : Code → List SV → List Blk → List Inv := fun b fr hp => [
  { ι := Unit, fr := fun i => only b fr 0 [2, 3, 5, 9, 11, 12, 13] [(21, .int .i64 (.x (PL.decE (PL.made x.raw) ((strOf (fr.getD 13 .any)).take ((strOf (fr.getD 13 .any)).length - 1)))))],
    hp := fun i => hp.take 5, μ := fun i => 0, ok := fun i => PL.True1 i }]
noncomputable def backCut18 (x : BackX) : Code → List SV → List Blk → List Inv := fun b fr hp => [
  { ι := Root, fr := fun i => only b fr 0 [5, 9, 11, 12, 24] [(25, .ptr 5 (.l 0)), (26, .int .i64 (.x (PL.decE (PL.made x.raw) (PL.turn (strOf (fr.getD 13 .any)) x.place x.by_))))],
    hp := fun i => hp.take 5 ++ [rootB i.cfg 6 i.refs, refsB i.refs], μ := fun i => 0, ok := fun i => PL.DecPost (PL.made x.raw, PL.turn (strOf (fr.getD 13 .any)) x.place x.by_) i }]
noncomputable def backInvs (x : BackX) : Invs := fun f n => match f, n with
  | 5, 1000002 => some (backCut2 x)
  | 5, 1000013 => some (backCut13 x)
  | 5, 1000018 => some (backCut18 x)
  | _, _ => none
def back_vc (ar : AR) (x : backSpec.X) : Prop :=
  ∃ (x_1 : Cfg), x.raw.slots = x_1.slots ∧ x.raw.files = x_1.files ∧ x.raw.dirs = x_1.dirs ∧ x.raw.most = x_1.most ∧ x.raw.least = x_1.least ∧ x.raw.page = x_1.page ∧ PL.CfgI64 x_1
  ∧ ∀ (y : Unit), True → ((∃ (x_2 : Cfg × Nums), Int.add 1 (x_1.slots.emod 64) = x_2.1.slots ∧ Int.add 1 (x_1.files.emod 64) = x_2.1.files ∧ x_1.dirs.emod 64 = x_2.1.dirs ∧
  x_1.most.emod 65537 = x_2.1.most ∧ Int.add 16 (x_1.least.emod 65521) = x_2.1.least ∧ Int.add 64 (x_1.page.emod 1024) = x_2.1.page ∧ x.rows.l = x_2.2.l ∧ x.rows.len = x_2.2.len ∧
  x.rows.cap = x_2.2.cap ∧ PL.RefsIn x_2 ∧ ∀ (y : Refs), PL.RefsPost x_2 y → ∃ (i : Refs), PL.RefsPost (PL.made x.raw, x.rows) i ∧ x.place = x.place ∧ x.by_ = x.by_ ∧ x.raw.slots =
  x.raw.slots ∧ x.raw.files = x.raw.files ∧ x.raw.dirs = x.raw.dirs ∧ x.raw.most = x.raw.most ∧ x.raw.least = x.raw.least ∧ x.raw.page = x.raw.page ∧ x.other.slots = x.other.slots
  ∧ x.other.files = x.other.files ∧ x.other.dirs = x.other.dirs ∧ x.other.most = x.other.most ∧ x.other.least = x.other.least ∧ x.other.page = x.other.page ∧ Int.add 1
  (x_1.slots.emod 64) = Int.add 1 (x_1.slots.emod 64) ∧ Int.add 1 (x_1.files.emod 64) = Int.add 1 (x_1.files.emod 64) ∧ x_1.dirs.emod 64 = x_1.dirs.emod 64 ∧ x_1.most.emod 65537 =
  x_1.most.emod 65537 ∧ Int.add 16 (x_1.least.emod 65521) = Int.add 16 (x_1.least.emod 65521) ∧ Int.add 64 (x_1.page.emod 1024) = Int.add 64 (x_1.page.emod 1024) ∧ Int.add 1
  (x_1.slots.emod 64) = Int.add 1 (x.raw.slots.emod 64) ∧ Int.add 1 (x_1.files.emod 64) = Int.add 1 (x.raw.files.emod 64) ∧ x_1.dirs.emod 64 = x.raw.dirs.emod 64 ∧ x_1.most.emod
  65537 = x.raw.most.emod 65537 ∧ Int.add 16 (x_1.least.emod 65521) = Int.add 16 (x.raw.least.emod 65521) ∧ Int.add 64 (x_1.page.emod 1024) = Int.add 64 (x.raw.page.emod 1024) ∧
  y.len = i.len ∧ y.cap = i.cap ∧ y.cap = i.cap ∧ y.N = i.N ∧ y.T = i.T ∧ True) ∧ ∃ (x_2 : Cfg × Nums), Int.add 1 (x_1.slots.emod 64) = x_2.1.slots ∧ Int.add 1 (x_1.files.emod 64)
  = x_2.1.files ∧ x_1.dirs.emod 64 = x_2.1.dirs ∧ x_1.most.emod 65537 = x_2.1.most ∧ Int.add 16 (x_1.least.emod 65521) = x_2.1.least ∧ Int.add 64 (x_1.page.emod 1024) = x_2.1.page
  ∧ x.rows.l = x_2.2.l ∧ x.rows.len = x_2.2.len ∧ x.rows.cap = x_2.2.cap ∧ PL.RefsIn x_2 ∧ ∀ (y : Refs), PL.RefsPost x_2 y → ∃ (i : Refs), PL.RefsPost (PL.made x.raw, x.rows) i ∧
  x.place = x.place ∧ x.by_ = x.by_ ∧ x.raw.slots = x.raw.slots ∧ x.raw.files = x.raw.files ∧ x.raw.dirs = x.raw.dirs ∧ x.raw.most = x.raw.most ∧ x.raw.least = x.raw.least ∧
  x.raw.page = x.raw.page ∧ x.other.slots = x.other.slots ∧ x.other.files = x.other.files ∧ x.other.dirs = x.other.dirs ∧ x.other.most = x.other.most ∧ x.other.least =
  x.other.least ∧ x.other.page = x.other.page ∧ Int.add 1 (x_1.slots.emod 64) = Int.add 1 (x_1.slots.emod 64) ∧ Int.add 1 (x_1.files.emod 64) = Int.add 1 (x_1.files.emod 64) ∧
  x_1.dirs.emod 64 = x_1.dirs.emod 64 ∧ x_1.most.emod 65537 = x_1.most.emod 65537 ∧ Int.add 16 (x_1.least.emod 65521) = Int.add 16 (x_1.least.emod 65521) ∧ Int.add 64
  (x_1.page.emod 1024) = Int.add 64 (x_1.page.emod 1024) ∧ Int.add 1 (x_1.slots.emod 64) = Int.add 1 (x.raw.slots.emod 64) ∧ Int.add 1 (x_1.files.emod 64) = Int.add 1
  (x.raw.files.emod 64) ∧ x_1.dirs.emod 64 = x.raw.dirs.emod 64 ∧ x_1.most.emod 65537 = x.raw.most.emod 65537 ∧ Int.add 16 (x_1.least.emod 65521) = Int.add 16 (x.raw.least.emod
  65521) ∧ Int.add 64 (x_1.page.emod 1024) = Int.add 64 (x.raw.page.emod 1024) ∧ y.len = i.len ∧ y.cap = i.cap ∧ y.cap = i.cap ∧ y.N = i.N ∧ y.T = i.T ∧ True) ∧ ∀ (i : Refs),
  PL.RefsPost (PL.made x.raw, x.rows) i → ∃ (x_2 : Cfg × Root), Int.add 1 (x_1.slots.emod 64) = x_2.1.slots ∧ Int.add 1 (x_1.files.emod 64) = x_2.1.files ∧ x_1.dirs.emod 64 =
  x_2.1.dirs ∧ x_1.most.emod 65537 = x_2.1.most ∧ Int.add 16 (x_1.least.emod 65521) = x_2.1.least ∧ Int.add 64 (x_1.page.emod 1024) = x_2.1.page ∧ Int.add 1 (x.raw.slots.emod 64) =
  x_2.snd.cfg.slots ∧ Int.add 1 (x.raw.files.emod 64) = x_2.snd.cfg.files ∧ x.raw.dirs.emod 64 = x_2.snd.cfg.dirs ∧ x.raw.most.emod 65537 = x_2.snd.cfg.most ∧ Int.add 16
  (x.raw.least.emod 65521) = x_2.snd.cfg.least ∧ Int.add 64 (x.raw.page.emod 1024) = x_2.snd.cfg.page ∧ ar.le 0 0 ∧ ar.le (ar.add 0 i.len) (ar.tlen i.N) ∧ ar.le (ar.add 0 i.len)
  (ar.tlen i.T) ∧ ar.tsub i.N 0 i.len = x_2.snd.refs.N ∧ ar.tsub i.T 0 i.len = x_2.snd.refs.T ∧ i.len = x_2.snd.refs.len ∧ i.cap = x_2.snd.refs.cap ∧ PL.RootIn x_2 ∧ ∀ (y : Unit),
  True → ∃ (x_3 : Int), PL.encE x_2.fst x_2.snd = x_3 ∧ PL.Ints3 (x_3, x_3, x_3) ∧ ∀ (y : Unit), True → ((¬ar.eq x_3 0 → False) → ∀ (z : Int), z = ar.wrap IntKind.i64 (ar.mul 32
  i.len) → ∀ (z_1 : Int), z_1 = ar.wrap IntKind.i64 (ar.add 27 z) → (¬ar.eq (ar.slen (PL.encS x_2.fst x_2.snd)) z_1 → ∃ (y : Unit), True ∧ False) ∧ (¬¬ar.eq (ar.slen (PL.encS
  x_2.fst x_2.snd)) z_1 → ∃ (x_4 : Cfg × List UInt8), Int.add 1 (x_1.slots.emod 64) = x_4.1.slots ∧ Int.add 1 (x_1.files.emod 64) = x_4.1.files ∧ x_1.dirs.emod 64 = x_4.1.dirs ∧
  x_1.most.emod 65537 = x_4.1.most ∧ Int.add 16 (x_1.least.emod 65521) = x_4.1.least ∧ Int.add 64 (x_1.page.emod 1024) = x_4.1.page ∧ PL.encS x_2.fst x_2.snd = x_4.snd ∧ PL.DecIn
  x_4 ∧ ∀ (y : Root), PL.DecPost x_4 y → ∃ (x_5 : Int), PL.decE x_4.fst x_4.snd = x_5 ∧ PL.Ints3 (x_5, x_5, x_5) ∧ ∀ (y_1 : Unit), True → ((¬ar.eq x_5 0 → False) → ∃ (x_6 : Root ×
  Root), y.1.slots = x_6.fst.cfg.slots ∧ y.1.files = x_6.fst.cfg.files ∧ y.1.dirs = x_6.fst.cfg.dirs ∧ y.1.most = x_6.fst.cfg.most ∧ y.1.least = x_6.fst.cfg.least ∧ y.1.page =
  x_6.fst.cfg.page ∧ ar.le 0 0 ∧ ar.le (ar.add 0 y.2.len) (ar.tlen y.2.N) ∧ ar.le (ar.add 0 y.2.len) (ar.tlen y.2.T) ∧ ar.tsub y.2.N 0 y.2.len = x_6.fst.refs.N ∧ ar.tsub y.2.T 0
  y.2.len = x_6.fst.refs.T ∧ y.2.len = x_6.fst.refs.len ∧ y.2.cap = x_6.fst.refs.cap ∧ Int.add 1 (x.raw.slots.emod 64) = x_6.snd.cfg.slots ∧ Int.add 1 (x.raw.files.emod 64) =
  x_6.snd.cfg.files ∧ x.raw.dirs.emod 64 = x_6.snd.cfg.dirs ∧ x.raw.most.emod 65537 = x_6.snd.cfg.most ∧ Int.add 16 (x.raw.least.emod 65521) = x_6.snd.cfg.least ∧ Int.add 64
  (x.raw.page.emod 1024) = x_6.snd.cfg.page ∧ ar.le 0 0 ∧ ar.le (ar.add 0 i.len) (ar.tlen i.N) ∧ ar.le (ar.add 0 i.len) (ar.tlen i.T) ∧ ar.tsub i.N 0 i.len = x_6.snd.refs.N ∧
  ar.tsub i.T 0 i.len = x_6.snd.refs.T ∧ i.len = x_6.snd.refs.len ∧ i.cap = x_6.snd.refs.cap ∧ PL.SameIn x_6 ∧ ∀ (y : Unit), True → (¬PL.SameR x_6.fst x_6.snd → ∃ (y : Unit), True
  ∧ False) ∧ (¬¬PL.SameR x_6.fst x_6.snd → ∃ (x_7 : Cfg), x.other.slots = x_7.slots ∧ x.other.files = x_7.files ∧ x.other.dirs = x_7.dirs ∧ x.other.most = x_7.most ∧ x.other.least
  = x_7.least ∧ x.other.page = x_7.page ∧ PL.CfgI64 x_7 ∧ ∀ (y : Unit), True → ∃ (x_8 : Cfg × List UInt8), Int.add 1 (x_7.slots.emod 64) = x_8.1.slots ∧ Int.add 1 (x_7.files.emod
  64) = x_8.1.files ∧ x_7.dirs.emod 64 = x_8.1.dirs ∧ x_7.most.emod 65537 = x_8.1.most ∧ Int.add 16 (x_7.least.emod 65521) = x_8.1.least ∧ Int.add 64 (x_7.page.emod 1024) =
  x_8.1.page ∧ PL.encS x_2.fst x_2.snd = x_8.snd ∧ PL.DecIn x_8 ∧ ∀ (y : Root), PL.DecPost x_8 y → ((ar.eq (Int.add 1 (x_7.slots.emod 64)) (Int.add 1 (x_1.slots.emod 64)) ∧ ar.eq
  (Int.add 1 (x_7.files.emod 64)) (Int.add 1 (x_1.files.emod 64)) ∧ ar.eq (x_7.dirs.emod 64) (x_1.dirs.emod 64) ∧ ar.eq (x_7.most.emod 65537) (x_1.most.emod 65537) ∧ ar.eq (Int.add
  16 (x_7.least.emod 65521)) (Int.add 16 (x_1.least.emod 65521)) ∧ ar.eq (Int.add 64 (x_7.page.emod 1024)) (Int.add 64 (x_1.page.emod 1024)) → False) → ∃ (x_9 : Int), PL.decE
  x_8.fst x_8.snd = x_9 ∧ PL.Ints3 (x_9, x_9, x_9) ∧ ∀ (y : Unit), True → (¬ar.eq x_9 140 → ∃ (y : Unit), True ∧ False) ∧ (¬¬ar.eq x_9 140 → (∀ (z : Int), z = ar.wrap IntKind.i64
  (ar.sub (ar.slen (PL.encS x_2.fst x_2.snd)) 1) → ar.le 0 z ∧ ar.le z (ar.slen (PL.encS x_2.fst x_2.snd)) ∧ ∀ (t : List UInt8), t = ar.sext (PL.encS x_2.fst x_2.snd) 0 z → (∃
  (x_10 : Cfg × List UInt8), Int.add 1 (x_1.slots.emod 64) = x_10.1.slots ∧ Int.add 1 (x_1.files.emod 64) = x_10.1.files ∧ x_1.dirs.emod 64 = x_10.1.dirs ∧ x_1.most.emod 65537 =
  x_10.1.most ∧ Int.add 16 (x_1.least.emod 65521) = x_10.1.least ∧ Int.add 64 (x_1.page.emod 1024) = x_10.1.page ∧ t = x_10.snd ∧ PL.DecIn x_10 ∧ ∀ (y : Root), PL.DecPost x_10 y →
  ∃ (i_1 : Unit), PL.True1 i_1 ∧ x.place = x.place ∧ x.by_ = x.by_ ∧ PL.encS x_2.fst x_2.snd = PL.encS x_2.fst x_2.snd ∧ PL.decE x_10.fst x_10.snd = PL.decE (PL.made x.raw)
  (List.take ((PL.encS x_2.fst x_2.snd).length.sub 1) (PL.encS x_2.fst x_2.snd)) ∧ x.raw.slots = x.raw.slots ∧ x.raw.files = x.raw.files ∧ x.raw.dirs = x.raw.dirs ∧ x.raw.most =
  x.raw.most ∧ x.raw.least = x.raw.least ∧ x.raw.page = x.raw.page ∧ x.other.slots = x.other.slots ∧ x.other.files = x.other.files ∧ x.other.dirs = x.other.dirs ∧ x.other.most =
  x.other.most ∧ x.other.least = x.other.least ∧ x.other.page = x.other.page ∧ Int.add 1 (x_1.slots.emod 64) = Int.add 1 (x_1.slots.emod 64) ∧ Int.add 1 (x_1.files.emod 64) =
  Int.add 1 (x_1.files.emod 64) ∧ x_1.dirs.emod 64 = x_1.dirs.emod 64 ∧ x_1.most.emod 65537 = x_1.most.emod 65537 ∧ Int.add 16 (x_1.least.emod 65521) = Int.add 16 (x_1.least.emod
  65521) ∧ Int.add 64 (x_1.page.emod 1024) = Int.add 64 (x_1.page.emod 1024) ∧ Int.add 1 (x.raw.slots.emod 64) = Int.add 1 (x.raw.slots.emod 64) ∧ Int.add 1 (x.raw.files.emod 64) =
  Int.add 1 (x.raw.files.emod 64) ∧ x.raw.dirs.emod 64 = x.raw.dirs.emod 64 ∧ x.raw.most.emod 65537 = x.raw.most.emod 65537 ∧ Int.add 16 (x.raw.least.emod 65521) = Int.add 16
  (x.raw.least.emod 65521) ∧ Int.add 64 (x.raw.page.emod 1024) = Int.add 64 (x.raw.page.emod 1024) ∧ i.len = i.len ∧ i.cap = i.cap ∧ i.cap = i.cap ∧ i.N = i.N ∧ i.T = i.T ∧ True) ∧
  ∃ (x_10 : Cfg × List UInt8), Int.add 1 (x_1.slots.emod 64) = x_10.1.slots ∧ Int.add 1 (x_1.files.emod 64) = x_10.1.files ∧ x_1.dirs.emod 64 = x_10.1.dirs ∧ x_1.most.emod 65537 =
  x_10.1.most ∧ Int.add 16 (x_1.least.emod 65521) = x_10.1.least ∧ Int.add 64 (x_1.page.emod 1024) = x_10.1.page ∧ t = x_10.snd ∧ PL.DecIn x_10 ∧ ∀ (y : Root), PL.DecPost x_10 y →
  ∃ (i_1 : Unit), PL.True1 i_1 ∧ x.place = x.place ∧ x.by_ = x.by_ ∧ PL.encS x_2.fst x_2.snd = PL.encS x_2.fst x_2.snd ∧ PL.decE x_10.fst x_10.snd = PL.decE (PL.made x.raw)
  (List.take ((PL.encS x_2.fst x_2.snd).length.sub 1) (PL.encS x_2.fst x_2.snd)) ∧ x.raw.slots = x.raw.slots ∧ x.raw.files = x.raw.files ∧ x.raw.dirs = x.raw.dirs ∧ x.raw.most =
  x.raw.most ∧ x.raw.least = x.raw.least ∧ x.raw.page = x.raw.page ∧ x.other.slots = x.other.slots ∧ x.other.files = x.other.files ∧ x.other.dirs = x.other.dirs ∧ x.other.most =
  x.other.most ∧ x.other.least = x.other.least ∧ x.other.page = x.other.page ∧ Int.add 1 (x_1.slots.emod 64) = Int.add 1 (x_1.slots.emod 64) ∧ Int.add 1 (x_1.files.emod 64) =
  Int.add 1 (x_1.files.emod 64) ∧ x_1.dirs.emod 64 = x_1.dirs.emod 64 ∧ x_1.most.emod 65537 = x_1.most.emod 65537 ∧ Int.add 16 (x_1.least.emod 65521) = Int.add 16 (x_1.least.emod
  65521) ∧ Int.add 64 (x_1.page.emod 1024) = Int.add 64 (x_1.page.emod 1024) ∧ Int.add 1 (x.raw.slots.emod 64) = Int.add 1 (x.raw.slots.emod 64) ∧ Int.add 1 (x.raw.files.emod 64) =
  Int.add 1 (x.raw.files.emod 64) ∧ x.raw.dirs.emod 64 = x.raw.dirs.emod 64 ∧ x.raw.most.emod 65537 = x.raw.most.emod 65537 ∧ Int.add 16 (x.raw.least.emod 65521) = Int.add 16
  (x.raw.least.emod 65521) ∧ Int.add 64 (x.raw.page.emod 1024) = Int.add 64 (x.raw.page.emod 1024) ∧ i.len = i.len ∧ i.cap = i.cap ∧ i.cap = i.cap ∧ i.N = i.N ∧ i.T = i.T ∧ True) ∧
  ∀ (i_1 : Unit), PL.True1 i_1 → ar.le (ar.add (ar.slen (PL.encS x_2.fst x_2.snd)) (ar.slen [UInt8.ofNat 0])) 9223372036854775807 ∧ ∀ (t : List UInt8), t = ar.sapp (PL.encS x_2.fst
  x_2.snd) [UInt8.ofNat 0] → ∃ (x_10 : Cfg × List UInt8), Int.add 1 (x_1.slots.emod 64) = x_10.1.slots ∧ Int.add 1 (x_1.files.emod 64) = x_10.1.files ∧ x_1.dirs.emod 64 =
  x_10.1.dirs ∧ x_1.most.emod 65537 = x_10.1.most ∧ Int.add 16 (x_1.least.emod 65521) = x_10.1.least ∧ Int.add 64 (x_1.page.emod 1024) = x_10.1.page ∧ t = x_10.snd ∧ PL.DecIn x_10
  ∧ ∀ (y : Root), PL.DecPost x_10 y → ∃ (x_11 : Int), PL.decE (PL.made x.raw) (List.take ((PL.encS x_2.fst x_2.snd).length.sub 1) (PL.encS x_2.fst x_2.snd)) = x_11 ∧ PL.Ints3
  (x_11, x_11, x_11) ∧ ∀ (y : Unit), True → ((¬ar.eq x_11 141 → False) → ∃ (x_12 : Int), PL.decE x_10.fst x_10.snd = x_12 ∧ PL.Ints3 (x_12, x_12, x_12) ∧ ∀ (y : Unit), True →
  (¬ar.eq x_12 141 → ∃ (y : Unit), True ∧ False) ∧ (¬¬ar.eq x_12 141 → ∃ (x_13 : Int × Int), x.place = x_13.fst ∧ ar.slen (PL.encS x_2.fst x_2.snd) = x_13.snd ∧ PL.ModIn x_13 ∧ ∀
  (y : Unit), True → (ar.le 0 (x_13.fst.emod x_13.snd) ∧ ar.le (x_13.fst.emod x_13.snd) (ar.slen (PL.encS x_2.fst x_2.snd)) ∧ ∀ (t : List UInt8), t = ar.sext (PL.encS x_2.fst
  x_2.snd) 0 (x_13.fst.emod x_13.snd) → ar.le 0 (x_13.fst.emod x_13.snd) ∧ ar.lt (x_13.fst.emod x_13.snd) (ar.slen (PL.encS x_2.fst x_2.snd)) ∧ ∀ (z : Int), z = ar.sget (PL.encS
  x_2.fst x_2.snd) (x_13.fst.emod x_13.snd) → ∀ (z_2 : Int), z_2 = ar.wrap IntKind.i64 (ar.add (x_13.fst.emod x_13.snd) 1) → ar.le 0 z_2 ∧ ar.le z_2 (ar.slen (PL.encS x_2.fst
  x_2.snd)) ∧ ∀ (t_1 : List UInt8), t_1 = ar.sext (PL.encS x_2.fst x_2.snd) z_2 (ar.slen (PL.encS x_2.fst x_2.snd)) → (∃ (x_14 : Int × Int), x.by_ = x_14.fst ∧ 255 = x_14.snd ∧
  PL.ModIn x_14 ∧ ∀ (y : Unit), True → ∀ (z_3 : Int), z_3 = ar.wrap IntKind.i64 (ar.add 1 (x_14.fst.emod x_14.snd)) → ∀ (z_4 : Int), z_4 = ar.wrap IntKind.u8 z_3 → ∀ (z_5 : Int),
  z_5 = ar.bxor IntKind.u8 z z_4 → (∀ (t_2 : List UInt8), t_2 = ar.bytes [z_5] → ar.le (ar.add (ar.slen t) (ar.slen t_2)) 9223372036854775807 ∧ ∀ (t_3 : List UInt8), t_3 = ar.sapp
  t t_2 → ar.le (ar.add (ar.slen t_3) (ar.slen t_1)) 9223372036854775807 ∧ ∀ (t : List UInt8), t = ar.sapp t_3 t_1 → (∃ (x_15 : Cfg × List UInt8), Int.add 1 (x_1.slots.emod 64) =
  x_15.1.slots ∧ Int.add 1 (x_1.files.emod 64) = x_15.1.files ∧ x_1.dirs.emod 64 = x_15.1.dirs ∧ x_1.most.emod 65537 = x_15.1.most ∧ Int.add 16 (x_1.least.emod 65521) =
  x_15.1.least ∧ Int.add 64 (x_1.page.emod 1024) = x_15.1.page ∧ t = x_15.snd ∧ PL.DecIn x_15 ∧ ∀ (y : Root), PL.DecPost x_15 y → ∃ (i_2 : Root), PL.DecPost (PL.made x.raw, PL.turn
  (PL.encS x_2.fst x_2.snd) x.place x.by_) i_2 ∧ x_13.fst.emod x_13.snd = x_13.fst.emod x_13.snd ∧ PL.decE x_15.fst x_15.snd = PL.decE (PL.made x.raw) (PL.turn (PL.encS x_2.fst
  x_2.snd) x.place x.by_) ∧ x.raw.slots = x.raw.slots ∧ x.raw.files = x.raw.files ∧ x.raw.dirs = x.raw.dirs ∧ x.raw.most = x.raw.most ∧ x.raw.least = x.raw.least ∧ x.raw.page =
  x.raw.page ∧ x.other.slots = x.other.slots ∧ x.other.files = x.other.files ∧ x.other.dirs = x.other.dirs ∧ x.other.most = x.other.most ∧ x.other.least = x.other.least ∧
  x.other.page = x.other.page ∧ Int.add 1 (x_1.slots.emod 64) = Int.add 1 (x_1.slots.emod 64) ∧ Int.add 1 (x_1.files.emod 64) = Int.add 1 (x_1.files.emod 64) ∧ x_1.dirs.emod 64 =
  x_1.dirs.emod 64 ∧ x_1.most.emod 65537 = x_1.most.emod 65537 ∧ Int.add 16 (x_1.least.emod 65521) = Int.add 16 (x_1.least.emod 65521) ∧ Int.add 64 (x_1.page.emod 1024) = Int.add
  64 (x_1.page.emod 1024) ∧ Int.add 1 (x.raw.slots.emod 64) = Int.add 1 (x.raw.slots.emod 64) ∧ Int.add 1 (x.raw.files.emod 64) = Int.add 1 (x.raw.files.emod 64) ∧ x.raw.dirs.emod
  64 = x.raw.dirs.emod 64 ∧ x.raw.most.emod 65537 = x.raw.most.emod 65537 ∧ Int.add 16 (x.raw.least.emod 65521) = Int.add 16 (x.raw.least.emod 65521) ∧ Int.add 64 (x.raw.page.emod
  1024) = Int.add 64 (x.raw.page.emod 1024) ∧ i.len = i.len ∧ i.cap = i.cap ∧ i.cap = i.cap ∧ i.N = i.N ∧ i.T = i.T ∧ y.1.slots = i_2.1.slots ∧ y.1.files = i_2.1.files ∧ y.1.dirs =
  i_2.1.dirs ∧ y.1.most = i_2.1.most ∧ y.1.least = i_2.1.least ∧ y.1.page = i_2.1.page ∧ y.2.len = i_2.2.len ∧ y.2.cap = i_2.2.cap ∧ y.2.cap = i_2.2.cap ∧ y.2.N = i_2.2.N ∧ y.2.T =
  i_2.2.T ∧ True) ∧ ∃ (x_15 : Cfg × List UInt8), Int.add 1 (x_1.slots.emod 64) = x_15.1.slots ∧ Int.add 1 (x_1.files.emod 64) = x_15.1.files ∧ x_1.dirs.emod 64 = x_15.1.dirs ∧
  x_1.most.emod 65537 = x_15.1.most ∧ Int.add 16 (x_1.least.emod 65521) = x_15.1.least ∧ Int.add 64 (x_1.page.emod 1024) = x_15.1.page ∧ t = x_15.snd ∧ PL.DecIn x_15 ∧ ∀ (y :
  Root), PL.DecPost x_15 y → ∃ (i_2 : Root), PL.DecPost (PL.made x.raw, PL.turn (PL.encS x_2.fst x_2.snd) x.place x.by_) i_2 ∧ x_13.fst.emod x_13.snd = x_13.fst.emod x_13.snd ∧
  PL.decE x_15.fst x_15.snd = PL.decE (PL.made x.raw) (PL.turn (PL.encS x_2.fst x_2.snd) x.place x.by_) ∧ x.raw.slots = x.raw.slots ∧ x.raw.files = x.raw.files ∧ x.raw.dirs =
  x.raw.dirs ∧ x.raw.most = x.raw.most ∧ x.raw.least = x.raw.least ∧ x.raw.page = x.raw.page ∧ x.other.slots = x.other.slots ∧ x.other.files = x.other.files ∧ x.other.dirs =
  x.other.dirs ∧ x.other.most = x.other.most ∧ x.other.least = x.other.least ∧ x.other.page = x.other.page ∧ Int.add 1 (x_1.slots.emod 64) = Int.add 1 (x_1.slots.emod 64) ∧ Int.add
  1 (x_1.files.emod 64) = Int.add 1 (x_1.files.emod 64) ∧ x_1.dirs.emod 64 = x_1.dirs.emod 64 ∧ x_1.most.emod 65537 = x_1.most.emod 65537 ∧ Int.add 16 (x_1.least.emod 65521) =
  Int.add 16 (x_1.least.emod 65521) ∧ Int.add 64 (x_1.page.emod 1024) = Int.add 64 (x_1.page.emod 1024) ∧ Int.add 1 (x.raw.slots.emod 64) = Int.add 1 (x.raw.slots.emod 64) ∧
  Int.add 1 (x.raw.files.emod 64) = Int.add 1 (x.raw.files.emod 64) ∧ x.raw.dirs.emod 64 = x.raw.dirs.emod 64 ∧ x.raw.most.emod 65537 = x.raw.most.emod 65537 ∧ Int.add 16
  (x.raw.least.emod 65521) = Int.add 16 (x.raw.least.emod 65521) ∧ Int.add 64 (x.raw.page.emod 1024) = Int.add 64 (x.raw.page.emod 1024) ∧ i.len = i.len ∧ i.cap = i.cap ∧ i.cap =
  i.cap ∧ i.N = i.N ∧ i.T = i.T ∧ y.1.slots = i_2.1.slots ∧ y.1.files = i_2.1.files ∧ y.1.dirs = i_2.1.dirs ∧ y.1.most = i_2.1.most ∧ y.1.least = i_2.1.least ∧ y.1.page =
  i_2.1.page ∧ y.2.len = i_2.2.len ∧ y.2.cap = i_2.2.cap ∧ y.2.cap = i_2.2.cap ∧ y.2.N = i_2.2.N ∧ y.2.T = i_2.2.T ∧ True) ∧ ∀ (t_2 : List UInt8), t_2 = ar.bytes [z_5] → ar.le
  (ar.add (ar.slen t) (ar.slen t_2)) 9223372036854775807 ∧ ∀ (t_3 : List UInt8), t_3 = ar.sapp t t_2 → ar.le (ar.add (ar.slen t_3) (ar.slen t_1)) 9223372036854775807 ∧ ∀ (t : List
  UInt8), t = ar.sapp t_3 t_1 → ∃ (x_15 : Cfg × List UInt8), Int.add 1 (x_1.slots.emod 64) = x_15.1.slots ∧ Int.add 1 (x_1.files.emod 64) = x_15.1.files ∧ x_1.dirs.emod 64 =
  x_15.1.dirs ∧ x_1.most.emod 65537 = x_15.1.most ∧ Int.add 16 (x_1.least.emod 65521) = x_15.1.least ∧ Int.add 64 (x_1.page.emod 1024) = x_15.1.page ∧ t = x_15.snd ∧ PL.DecIn x_15
  ∧ ∀ (y : Root), PL.DecPost x_15 y → ∃ (i_2 : Root), PL.DecPost (PL.made x.raw, PL.turn (PL.encS x_2.fst x_2.snd) x.place x.by_) i_2 ∧ x_13.fst.emod x_13.snd = x_13.fst.emod
  x_13.snd ∧ PL.decE x_15.fst x_15.snd = PL.decE (PL.made x.raw) (PL.turn (PL.encS x_2.fst x_2.snd) x.place x.by_) ∧ x.raw.slots = x.raw.slots ∧ x.raw.files = x.raw.files ∧
  x.raw.dirs = x.raw.dirs ∧ x.raw.most = x.raw.most ∧ x.raw.least = x.raw.least ∧ x.raw.page = x.raw.page ∧ x.other.slots = x.other.slots ∧ x.other.files = x.other.files ∧
  x.other.dirs = x.other.dirs ∧ x.other.most = x.other.most ∧ x.other.least = x.other.least ∧ x.other.page = x.other.page ∧ Int.add 1 (x_1.slots.emod 64) = Int.add 1
  (x_1.slots.emod 64) ∧ Int.add 1 (x_1.files.emod 64) = Int.add 1 (x_1.files.emod 64) ∧ x_1.dirs.emod 64 = x_1.dirs.emod 64 ∧ x_1.most.emod 65537 = x_1.most.emod 65537 ∧ Int.add 16
  (x_1.least.emod 65521) = Int.add 16 (x_1.least.emod 65521) ∧ Int.add 64 (x_1.page.emod 1024) = Int.add 64 (x_1.page.emod 1024) ∧ Int.add 1 (x.raw.slots.emod 64) = Int.add 1
  (x.raw.slots.emod 64) ∧ Int.add 1 (x.raw.files.emod 64) = Int.add 1 (x.raw.files.emod 64) ∧ x.raw.dirs.emod 64 = x.raw.dirs.emod 64 ∧ x.raw.most.emod 65537 = x.raw.most.emod
  65537 ∧ Int.add 16 (x.raw.least.emod 65521) = Int.add 16 (x.raw.least.emod 65521) ∧ Int.add 64 (x.raw.page.emod 1024) = Int.add 64 (x.raw.page.emod 1024) ∧ i.len = i.len ∧ i.cap
  = i.cap ∧ i.cap = i.cap ∧ i.N = i.N ∧ i.T = i.T ∧ y.1.slots = i_2.1.slots ∧ y.1.files = i_2.1.files ∧ y.1.dirs = i_2.1.dirs ∧ y.1.most = i_2.1.most ∧ y.1.least = i_2.1.least ∧
  y.1.page = i_2.1.page ∧ y.2.len = i_2.2.len ∧ y.2.cap = i_2.2.cap ∧ y.2.cap = i_2.2.cap ∧ y.2.N = i_2.2.N ∧ y.2.T = i_2.2.T ∧ True) ∧ ∃ (x_14 : Int × Int), x.by_ = x_14.fst ∧ 255
  = x_14.snd ∧ PL.ModIn x_14 ∧ ∀ (y : Unit), True → ∀ (z_3 : Int), z_3 = ar.wrap IntKind.i64 (ar.add 1 (x_14.fst.emod x_14.snd)) → ∀ (z_4 : Int), z_4 = ar.wrap IntKind.u8 z_3 → ∀
  (z_5 : Int), z_5 = ar.bxor IntKind.u8 z z_4 → ∀ (t_2 : List UInt8), t_2 = ar.bytes [z_5] → ar.le (ar.add (ar.slen t) (ar.slen t_2)) 9223372036854775807 ∧ ∀ (t_3 : List UInt8),
  t_3 = ar.sapp t t_2 → ar.le (ar.add (ar.slen t_3) (ar.slen t_1)) 9223372036854775807 ∧ ∀ (t : List UInt8), t = ar.sapp t_3 t_1 → ∃ (x_15 : Cfg × List UInt8), Int.add 1
  (x_1.slots.emod 64) = x_15.1.slots ∧ Int.add 1 (x_1.files.emod 64) = x_15.1.files ∧ x_1.dirs.emod 64 = x_15.1.dirs ∧ x_1.most.emod 65537 = x_15.1.most ∧ Int.add 16
  (x_1.least.emod 65521) = x_15.1.least ∧ Int.add 64 (x_1.page.emod 1024) = x_15.1.page ∧ t = x_15.snd ∧ PL.DecIn x_15 ∧ ∀ (y : Root), PL.DecPost x_15 y → ∃ (i_2 : Root),
  PL.DecPost (PL.made x.raw, PL.turn (PL.encS x_2.fst x_2.snd) x.place x.by_) i_2 ∧ x_13.fst.emod x_13.snd = x_13.fst.emod x_13.snd ∧ PL.decE x_15.fst x_15.snd = PL.decE (PL.made
  x.raw) (PL.turn (PL.encS x_2.fst x_2.snd) x.place x.by_) ∧ x.raw.slots = x.raw.slots ∧ x.raw.files = x.raw.files ∧ x.raw.dirs = x.raw.dirs ∧ x.raw.most = x.raw.most ∧ x.raw.least
  = x.raw.least ∧ x.raw.page = x.raw.page ∧ x.other.slots = x.other.slots ∧ x.other.files = x.other.files ∧ x.other.dirs = x.other.dirs ∧ x.other.most = x.other.most ∧
  x.other.least = x.other.least ∧ x.other.page = x.other.page ∧ Int.add 1 (x_1.slots.emod 64) = Int.add 1 (x_1.slots.emod 64) ∧ Int.add 1 (x_1.files.emod 64) = Int.add 1
  (x_1.files.emod 64) ∧ x_1.dirs.emod 64 = x_1.dirs.emod 64 ∧ x_1.most.emod 65537 = x_1.most.emod 65537 ∧ Int.add 16 (x_1.least.emod 65521) = Int.add 16 (x_1.least.emod 65521) ∧
  Int.add 64 (x_1.page.emod 1024) = Int.add 64 (x_1.page.emod 1024) ∧ Int.add 1 (x.raw.slots.emod 64) = Int.add 1 (x.raw.slots.emod 64) ∧ Int.add 1 (x.raw.files.emod 64) = Int.add
  1 (x.raw.files.emod 64) ∧ x.raw.dirs.emod 64 = x.raw.dirs.emod 64 ∧ x.raw.most.emod 65537 = x.raw.most.emod 65537 ∧ Int.add 16 (x.raw.least.emod 65521) = Int.add 16
  (x.raw.least.emod 65521) ∧ Int.add 64 (x.raw.page.emod 1024) = Int.add 64 (x.raw.page.emod 1024) ∧ i.len = i.len ∧ i.cap = i.cap ∧ i.cap = i.cap ∧ i.N = i.N ∧ i.T = i.T ∧
  y.1.slots = i_2.1.slots ∧ y.1.files = i_2.1.files ∧ y.1.dirs = i_2.1.dirs ∧ y.1.most = i_2.1.most ∧ y.1.least = i_2.1.least ∧ y.1.page = i_2.1.page ∧ y.2.len = i_2.2.len ∧
  y.2.cap = i_2.2.cap ∧ y.2.cap = i_2.2.cap ∧ y.2.N = i_2.2.N ∧ y.2.T = i_2.2.T ∧ True) ∧ ∀ (i_2 : Root), PL.DecPost (PL.made x.raw, PL.turn (PL.encS x_2.fst x_2.snd) x.place
  x.by_) i_2 → ∃ (x_14 : Int), PL.decE (PL.made x.raw) (PL.turn (PL.encS x_2.fst x_2.snd) x.place x.by_) = x_14 ∧ PL.Ints3 (x_14, x_14, x_14) ∧ ∀ (y : Unit), True → (ar.eq x_14 0 →
  (ar.le 27 (x_13.fst.emod x_13.snd) → ∃ (x_15 : Root × Root), i_2.1.slots = x_15.fst.cfg.slots ∧ i_2.1.files = x_15.fst.cfg.files ∧ i_2.1.dirs = x_15.fst.cfg.dirs ∧ i_2.1.most =
  x_15.fst.cfg.most ∧ i_2.1.least = x_15.fst.cfg.least ∧ i_2.1.page = x_15.fst.cfg.page ∧ ar.le 0 0 ∧ ar.le (ar.add 0 i_2.2.len) (ar.tlen i_2.2.N) ∧ ar.le (ar.add 0 i_2.2.len)
  (ar.tlen i_2.2.T) ∧ ar.tsub i_2.2.N 0 i_2.2.len = x_15.fst.refs.N ∧ ar.tsub i_2.2.T 0 i_2.2.len = x_15.fst.refs.T ∧ i_2.2.len = x_15.fst.refs.len ∧ i_2.2.cap = x_15.fst.refs.cap
  ∧ Int.add 1 (x.raw.slots.emod 64) = x_15.snd.cfg.slots ∧ Int.add 1 (x.raw.files.emod 64) = x_15.snd.cfg.files ∧ x.raw.dirs.emod 64 = x_15.snd.cfg.dirs ∧ x.raw.most.emod 65537 =
  x_15.snd.cfg.most ∧ Int.add 16 (x.raw.least.emod 65521) = x_15.snd.cfg.least ∧ Int.add 64 (x.raw.page.emod 1024) = x_15.snd.cfg.page ∧ ar.le 0 0 ∧ ar.le (ar.add 0 i.len) (ar.tlen
  i.N) ∧ ar.le (ar.add 0 i.len) (ar.tlen i.T) ∧ ar.tsub i.N 0 i.len = x_15.snd.refs.N ∧ ar.tsub i.T 0 i.len = x_15.snd.refs.T ∧ i.len = x_15.snd.refs.len ∧ i.cap =
  x_15.snd.refs.cap ∧ PL.SameIn x_15 ∧ ∀ (y : Unit), True → ∃ (y : Unit), True ∧ (PL.SameR x_15.fst x_15.snd → False ↔ true = true) ∧ True) ∧ (¬ar.le 27 (x_13.fst.emod x_13.snd) →
  ∃ (y : Unit), True ∧ False)) ∧ (¬ar.eq x_14 0 → (ar.lt (x_13.fst.emod x_13.snd) 27 → (ar.eq i_2.2.len 0 → ∃ (x_15 : Int), PL.decE (PL.made x.raw) (PL.turn (PL.encS x_2.fst
  x_2.snd) x.place x.by_) = x_15 ∧ PL.Ints3 (x_15, x_15, x_15) ∧ ∀ (y : Unit), True → ((ar.eq x_15 141 → False) → ∃ (x_16 : Int), PL.decE (PL.made x.raw) (PL.turn (PL.encS x_2.fst
  x_2.snd) x.place x.by_) = x_16 ∧ PL.Ints3 (x_16, x_16, x_16) ∧ ∀ (y : Unit), True → ∃ (y : Unit), True ∧ (ar.eq x_16 140 ↔ true = true) ∧ True) ∧ (¬(ar.eq x_15 141 → False) → ∃
  (y : Unit), True ∧ True)) ∧ (¬ar.eq i_2.2.len 0 → False)) ∧ (¬ar.lt (x_13.fst.emod x_13.snd) 27 → False)))) ∧ (¬(¬ar.eq x_11 141 → False) → ∃ (y : Unit), True ∧ False))) ∧
  (¬(ar.eq (Int.add 1 (x_7.slots.emod 64)) (Int.add 1 (x_1.slots.emod 64)) ∧ ar.eq (Int.add 1 (x_7.files.emod 64)) (Int.add 1 (x_1.files.emod 64)) ∧ ar.eq (x_7.dirs.emod 64)
  (x_1.dirs.emod 64) ∧ ar.eq (x_7.most.emod 65537) (x_1.most.emod 65537) ∧ ar.eq (Int.add 16 (x_7.least.emod 65521)) (Int.add 16 (x_1.least.emod 65521)) ∧ ar.eq (Int.add 64
  (x_7.page.emod 1024)) (Int.add 64 (x_1.page.emod 1024)) → False) → (∀ (z : Int), z = ar.wrap IntKind.i64 (ar.sub (ar.slen (PL.encS x_2.fst x_2.snd)) 1) → ar.le 0 z ∧ ar.le z
  (ar.slen (PL.encS x_2.fst x_2.snd)) ∧ ∀ (t : List UInt8), t = ar.sext (PL.encS x_2.fst x_2.snd) 0 z → (∃ (x_9 : Cfg × List UInt8), Int.add 1 (x_1.slots.emod 64) = x_9.1.slots ∧
  Int.add 1 (x_1.files.emod 64) = x_9.1.files ∧ x_1.dirs.emod 64 = x_9.1.dirs ∧ x_1.most.emod 65537 = x_9.1.most ∧ Int.add 16 (x_1.least.emod 65521) = x_9.1.least ∧ Int.add 64
  (x_1.page.emod 1024) = x_9.1.page ∧ t = x_9.snd ∧ PL.DecIn x_9 ∧ ∀ (y : Root), PL.DecPost x_9 y → ∃ (i_1 : Unit), PL.True1 i_1 ∧ x.place = x.place ∧ x.by_ = x.by_ ∧ PL.encS
  x_2.fst x_2.snd = PL.encS x_2.fst x_2.snd ∧ PL.decE x_9.fst x_9.snd = PL.decE (PL.made x.raw) (List.take ((PL.encS x_2.fst x_2.snd).length.sub 1) (PL.encS x_2.fst x_2.snd)) ∧
  x.raw.slots = x.raw.slots ∧ x.raw.files = x.raw.files ∧ x.raw.dirs = x.raw.dirs ∧ x.raw.most = x.raw.most ∧ x.raw.least = x.raw.least ∧ x.raw.page = x.raw.page ∧ x.other.slots =
  x.other.slots ∧ x.other.files = x.other.files ∧ x.other.dirs = x.other.dirs ∧ x.other.most = x.other.most ∧ x.other.least = x.other.least ∧ x.other.page = x.other.page ∧ Int.add
  1 (x_1.slots.emod 64) = Int.add 1 (x_1.slots.emod 64) ∧ Int.add 1 (x_1.files.emod 64) = Int.add 1 (x_1.files.emod 64) ∧ x_1.dirs.emod 64 = x_1.dirs.emod 64 ∧ x_1.most.emod 65537
  = x_1.most.emod 65537 ∧ Int.add 16 (x_1.least.emod 65521) = Int.add 16 (x_1.least.emod 65521) ∧ Int.add 64 (x_1.page.emod 1024) = Int.add 64 (x_1.page.emod 1024) ∧ Int.add 1
  (x.raw.slots.emod 64) = Int.add 1 (x.raw.slots.emod 64) ∧ Int.add 1 (x.raw.files.emod 64) = Int.add 1 (x.raw.files.emod 64) ∧ x.raw.dirs.emod 64 = x.raw.dirs.emod 64 ∧
  x.raw.most.emod 65537 = x.raw.most.emod 65537 ∧ Int.add 16 (x.raw.least.emod 65521) = Int.add 16 (x.raw.least.emod 65521) ∧ Int.add 64 (x.raw.page.emod 1024) = Int.add 64
  (x.raw.page.emod 1024) ∧ i.len = i.len ∧ i.cap = i.cap ∧ i.cap = i.cap ∧ i.N = i.N ∧ i.T = i.T ∧ True) ∧ ∃ (x_9 : Cfg × List UInt8), Int.add 1 (x_1.slots.emod 64) = x_9.1.slots ∧
  Int.add 1 (x_1.files.emod 64) = x_9.1.files ∧ x_1.dirs.emod 64 = x_9.1.dirs ∧ x_1.most.emod 65537 = x_9.1.most ∧ Int.add 16 (x_1.least.emod 65521) = x_9.1.least ∧ Int.add 64
  (x_1.page.emod 1024) = x_9.1.page ∧ t = x_9.snd ∧ PL.DecIn x_9 ∧ ∀ (y : Root), PL.DecPost x_9 y → ∃ (i_1 : Unit), PL.True1 i_1 ∧ x.place = x.place ∧ x.by_ = x.by_ ∧ PL.encS
  x_2.fst x_2.snd = PL.encS x_2.fst x_2.snd ∧ PL.decE x_9.fst x_9.snd = PL.decE (PL.made x.raw) (List.take ((PL.encS x_2.fst x_2.snd).length.sub 1) (PL.encS x_2.fst x_2.snd)) ∧
  x.raw.slots = x.raw.slots ∧ x.raw.files = x.raw.files ∧ x.raw.dirs = x.raw.dirs ∧ x.raw.most = x.raw.most ∧ x.raw.least = x.raw.least ∧ x.raw.page = x.raw.page ∧ x.other.slots =
  x.other.slots ∧ x.other.files = x.other.files ∧ x.other.dirs = x.other.dirs ∧ x.other.most = x.other.most ∧ x.other.least = x.other.least ∧ x.other.page = x.other.page ∧ Int.add
  1 (x_1.slots.emod 64) = Int.add 1 (x_1.slots.emod 64) ∧ Int.add 1 (x_1.files.emod 64) = Int.add 1 (x_1.files.emod 64) ∧ x_1.dirs.emod 64 = x_1.dirs.emod 64 ∧ x_1.most.emod 65537
  = x_1.most.emod 65537 ∧ Int.add 16 (x_1.least.emod 65521) = Int.add 16 (x_1.least.emod 65521) ∧ Int.add 64 (x_1.page.emod 1024) = Int.add 64 (x_1.page.emod 1024) ∧ Int.add 1
  (x.raw.slots.emod 64) = Int.add 1 (x.raw.slots.emod 64) ∧ Int.add 1 (x.raw.files.emod 64) = Int.add 1 (x.raw.files.emod 64) ∧ x.raw.dirs.emod 64 = x.raw.dirs.emod 64 ∧
  x.raw.most.emod 65537 = x.raw.most.emod 65537 ∧ Int.add 16 (x.raw.least.emod 65521) = Int.add 16 (x.raw.least.emod 65521) ∧ Int.add 64 (x.raw.page.emod 1024) = Int.add 64
  (x.raw.page.emod 1024) ∧ i.len = i.len ∧ i.cap = i.cap ∧ i.cap = i.cap ∧ i.N = i.N ∧ i.T = i.T ∧ True) ∧ ∀ (i_1 : Unit), PL.True1 i_1 → ar.le (ar.add (ar.slen (PL.encS x_2.fst
  x_2.snd)) (ar.slen [UInt8.ofNat 0])) 9223372036854775807 ∧ ∀ (t : List UInt8), t = ar.sapp (PL.encS x_2.fst x_2.snd) [UInt8.ofNat 0] → ∃ (x_9 : Cfg × List UInt8), Int.add 1
  (x_1.slots.emod 64) = x_9.1.slots ∧ Int.add 1 (x_1.files.emod 64) = x_9.1.files ∧ x_1.dirs.emod 64 = x_9.1.dirs ∧ x_1.most.emod 65537 = x_9.1.most ∧ Int.add 16 (x_1.least.emod
  65521) = x_9.1.least ∧ Int.add 64 (x_1.page.emod 1024) = x_9.1.page ∧ t = x_9.snd ∧ PL.DecIn x_9 ∧ ∀ (y : Root), PL.DecPost x_9 y → ∃ (x_10 : Int), PL.decE (PL.made x.raw)
  (List.take ((PL.encS x_2.fst x_2.snd).length.sub 1) (PL.encS x_2.fst x_2.snd)) = x_10 ∧ PL.Ints3 (x_10, x_10, x_10) ∧ ∀ (y : Unit), True → ((¬ar.eq x_10 141 → False) → ∃ (x_11 :
  Int), PL.decE x_9.fst x_9.snd = x_11 ∧ PL.Ints3 (x_11, x_11, x_11) ∧ ∀ (y : Unit), True → (¬ar.eq x_11 141 → ∃ (y : Unit), True ∧ False) ∧ (¬¬ar.eq x_11 141 → ∃ (x_12 : Int ×
  Int), x.place = x_12.fst ∧ ar.slen (PL.encS x_2.fst x_2.snd) = x_12.snd ∧ PL.ModIn x_12 ∧ ∀ (y : Unit), True → (ar.le 0 (x_12.fst.emod x_12.snd) ∧ ar.le (x_12.fst.emod x_12.snd)
  (ar.slen (PL.encS x_2.fst x_2.snd)) ∧ ∀ (t : List UInt8), t = ar.sext (PL.encS x_2.fst x_2.snd) 0 (x_12.fst.emod x_12.snd) → ar.le 0 (x_12.fst.emod x_12.snd) ∧ ar.lt
  (x_12.fst.emod x_12.snd) (ar.slen (PL.encS x_2.fst x_2.snd)) ∧ ∀ (z : Int), z = ar.sget (PL.encS x_2.fst x_2.snd) (x_12.fst.emod x_12.snd) → ∀ (z_2 : Int), z_2 = ar.wrap
  IntKind.i64 (ar.add (x_12.fst.emod x_12.snd) 1) → ar.le 0 z_2 ∧ ar.le z_2 (ar.slen (PL.encS x_2.fst x_2.snd)) ∧ ∀ (t_1 : List UInt8), t_1 = ar.sext (PL.encS x_2.fst x_2.snd) z_2
  (ar.slen (PL.encS x_2.fst x_2.snd)) → (∃ (x_13 : Int × Int), x.by_ = x_13.fst ∧ 255 = x_13.snd ∧ PL.ModIn x_13 ∧ ∀ (y : Unit), True → ∀ (z_3 : Int), z_3 = ar.wrap IntKind.i64
  (ar.add 1 (x_13.fst.emod x_13.snd)) → ∀ (z_4 : Int), z_4 = ar.wrap IntKind.u8 z_3 → ∀ (z_5 : Int), z_5 = ar.bxor IntKind.u8 z z_4 → (∀ (t_2 : List UInt8), t_2 = ar.bytes [z_5] →
  ar.le (ar.add (ar.slen t) (ar.slen t_2)) 9223372036854775807 ∧ ∀ (t_3 : List UInt8), t_3 = ar.sapp t t_2 → ar.le (ar.add (ar.slen t_3) (ar.slen t_1)) 9223372036854775807 ∧ ∀ (t :
  List UInt8), t = ar.sapp t_3 t_1 → (∃ (x_14 : Cfg × List UInt8), Int.add 1 (x_1.slots.emod 64) = x_14.1.slots ∧ Int.add 1 (x_1.files.emod 64) = x_14.1.files ∧ x_1.dirs.emod 64 =
  x_14.1.dirs ∧ x_1.most.emod 65537 = x_14.1.most ∧ Int.add 16 (x_1.least.emod 65521) = x_14.1.least ∧ Int.add 64 (x_1.page.emod 1024) = x_14.1.page ∧ t = x_14.snd ∧ PL.DecIn x_14
  ∧ ∀ (y : Root), PL.DecPost x_14 y → ∃ (i_2 : Root), PL.DecPost (PL.made x.raw, PL.turn (PL.encS x_2.fst x_2.snd) x.place x.by_) i_2 ∧ x_12.fst.emod x_12.snd = x_12.fst.emod
  x_12.snd ∧ PL.decE x_14.fst x_14.snd = PL.decE (PL.made x.raw) (PL.turn (PL.encS x_2.fst x_2.snd) x.place x.by_) ∧ x.raw.slots = x.raw.slots ∧ x.raw.files = x.raw.files ∧
  x.raw.dirs = x.raw.dirs ∧ x.raw.most = x.raw.most ∧ x.raw.least = x.raw.least ∧ x.raw.page = x.raw.page ∧ x.other.slots = x.other.slots ∧ x.other.files = x.other.files ∧
  x.other.dirs = x.other.dirs ∧ x.other.most = x.other.most ∧ x.other.least = x.other.least ∧ x.other.page = x.other.page ∧ Int.add 1 (x_1.slots.emod 64) = Int.add 1
  (x_1.slots.emod 64) ∧ Int.add 1 (x_1.files.emod 64) = Int.add 1 (x_1.files.emod 64) ∧ x_1.dirs.emod 64 = x_1.dirs.emod 64 ∧ x_1.most.emod 65537 = x_1.most.emod 65537 ∧ Int.add 16
  (x_1.least.emod 65521) = Int.add 16 (x_1.least.emod 65521) ∧ Int.add 64 (x_1.page.emod 1024) = Int.add 64 (x_1.page.emod 1024) ∧ Int.add 1 (x.raw.slots.emod 64) = Int.add 1
  (x.raw.slots.emod 64) ∧ Int.add 1 (x.raw.files.emod 64) = Int.add 1 (x.raw.files.emod 64) ∧ x.raw.dirs.emod 64 = x.raw.dirs.emod 64 ∧ x.raw.most.emod 65537 = x.raw.most.emod
  65537 ∧ Int.add 16 (x.raw.least.emod 65521) = Int.add 16 (x.raw.least.emod 65521) ∧ Int.add 64 (x.raw.page.emod 1024) = Int.add 64 (x.raw.page.emod 1024) ∧ i.len = i.len ∧ i.cap
  = i.cap ∧ i.cap = i.cap ∧ i.N = i.N ∧ i.T = i.T ∧ y.1.slots = i_2.1.slots ∧ y.1.files = i_2.1.files ∧ y.1.dirs = i_2.1.dirs ∧ y.1.most = i_2.1.most ∧ y.1.least = i_2.1.least ∧
  y.1.page = i_2.1.page ∧ y.2.len = i_2.2.len ∧ y.2.cap = i_2.2.cap ∧ y.2.cap = i_2.2.cap ∧ y.2.N = i_2.2.N ∧ y.2.T = i_2.2.T ∧ True) ∧ ∃ (x_14 : Cfg × List UInt8), Int.add 1
  (x_1.slots.emod 64) = x_14.1.slots ∧ Int.add 1 (x_1.files.emod 64) = x_14.1.files ∧ x_1.dirs.emod 64 = x_14.1.dirs ∧ x_1.most.emod 65537 = x_14.1.most ∧ Int.add 16
  (x_1.least.emod 65521) = x_14.1.least ∧ Int.add 64 (x_1.page.emod 1024) = x_14.1.page ∧ t = x_14.snd ∧ PL.DecIn x_14 ∧ ∀ (y : Root), PL.DecPost x_14 y → ∃ (i_2 : Root),
  PL.DecPost (PL.made x.raw, PL.turn (PL.encS x_2.fst x_2.snd) x.place x.by_) i_2 ∧ x_12.fst.emod x_12.snd = x_12.fst.emod x_12.snd ∧ PL.decE x_14.fst x_14.snd = PL.decE (PL.made
  x.raw) (PL.turn (PL.encS x_2.fst x_2.snd) x.place x.by_) ∧ x.raw.slots = x.raw.slots ∧ x.raw.files = x.raw.files ∧ x.raw.dirs = x.raw.dirs ∧ x.raw.most = x.raw.most ∧ x.raw.least
  = x.raw.least ∧ x.raw.page = x.raw.page ∧ x.other.slots = x.other.slots ∧ x.other.files = x.other.files ∧ x.other.dirs = x.other.dirs ∧ x.other.most = x.other.most ∧
  x.other.least = x.other.least ∧ x.other.page = x.other.page ∧ Int.add 1 (x_1.slots.emod 64) = Int.add 1 (x_1.slots.emod 64) ∧ Int.add 1 (x_1.files.emod 64) = Int.add 1
  (x_1.files.emod 64) ∧ x_1.dirs.emod 64 = x_1.dirs.emod 64 ∧ x_1.most.emod 65537 = x_1.most.emod 65537 ∧ Int.add 16 (x_1.least.emod 65521) = Int.add 16 (x_1.least.emod 65521) ∧
  Int.add 64 (x_1.page.emod 1024) = Int.add 64 (x_1.page.emod 1024) ∧ Int.add 1 (x.raw.slots.emod 64) = Int.add 1 (x.raw.slots.emod 64) ∧ Int.add 1 (x.raw.files.emod 64) = Int.add
  1 (x.raw.files.emod 64) ∧ x.raw.dirs.emod 64 = x.raw.dirs.emod 64 ∧ x.raw.most.emod 65537 = x.raw.most.emod 65537 ∧ Int.add 16 (x.raw.least.emod 65521) = Int.add 16
  (x.raw.least.emod 65521) ∧ Int.add 64 (x.raw.page.emod 1024) = Int.add 64 (x.raw.page.emod 1024) ∧ i.len = i.len ∧ i.cap = i.cap ∧ i.cap = i.cap ∧ i.N = i.N ∧ i.T = i.T ∧
  y.1.slots = i_2.1.slots ∧ y.1.files = i_2.1.files ∧ y.1.dirs = i_2.1.dirs ∧ y.1.most = i_2.1.most ∧ y.1.least = i_2.1.least ∧ y.1.page = i_2.1.page ∧ y.2.len = i_2.2.len ∧
  y.2.cap = i_2.2.cap ∧ y.2.cap = i_2.2.cap ∧ y.2.N = i_2.2.N ∧ y.2.T = i_2.2.T ∧ True) ∧ ∀ (t_2 : List UInt8), t_2 = ar.bytes [z_5] → ar.le (ar.add (ar.slen t) (ar.slen t_2))
  9223372036854775807 ∧ ∀ (t_3 : List UInt8), t_3 = ar.sapp t t_2 → ar.le (ar.add (ar.slen t_3) (ar.slen t_1)) 9223372036854775807 ∧ ∀ (t : List UInt8), t = ar.sapp t_3 t_1 → ∃
  (x_14 : Cfg × List UInt8), Int.add 1 (x_1.slots.emod 64) = x_14.1.slots ∧ Int.add 1 (x_1.files.emod 64) = x_14.1.files ∧ x_1.dirs.emod 64 = x_14.1.dirs ∧ x_1.most.emod 65537 =
  x_14.1.most ∧ Int.add 16 (x_1.least.emod 65521) = x_14.1.least ∧ Int.add 64 (x_1.page.emod 1024) = x_14.1.page ∧ t = x_14.snd ∧ PL.DecIn x_14 ∧ ∀ (y : Root), PL.DecPost x_14 y →
  ∃ (i_2 : Root), PL.DecPost (PL.made x.raw, PL.turn (PL.encS x_2.fst x_2.snd) x.place x.by_) i_2 ∧ x_12.fst.emod x_12.snd = x_12.fst.emod x_12.snd ∧ PL.decE x_14.fst x_14.snd =
  PL.decE (PL.made x.raw) (PL.turn (PL.encS x_2.fst x_2.snd) x.place x.by_) ∧ x.raw.slots = x.raw.slots ∧ x.raw.files = x.raw.files ∧ x.raw.dirs = x.raw.dirs ∧ x.raw.most =
  x.raw.most ∧ x.raw.least = x.raw.least ∧ x.raw.page = x.raw.page ∧ x.other.slots = x.other.slots ∧ x.other.files = x.other.files ∧ x.other.dirs = x.other.dirs ∧ x.other.most =
  x.other.most ∧ x.other.least = x.other.least ∧ x.other.page = x.other.page ∧ Int.add 1 (x_1.slots.emod 64) = Int.add 1 (x_1.slots.emod 64) ∧ Int.add 1 (x_1.files.emod 64) =
  Int.add 1 (x_1.files.emod 64) ∧ x_1.dirs.emod 64 = x_1.dirs.emod 64 ∧ x_1.most.emod 65537 = x_1.most.emod 65537 ∧ Int.add 16 (x_1.least.emod 65521) = Int.add 16 (x_1.least.emod
  65521) ∧ Int.add 64 (x_1.page.emod 1024) = Int.add 64 (x_1.page.emod 1024) ∧ Int.add 1 (x.raw.slots.emod 64) = Int.add 1 (x.raw.slots.emod 64) ∧ Int.add 1 (x.raw.files.emod 64) =
  Int.add 1 (x.raw.files.emod 64) ∧ x.raw.dirs.emod 64 = x.raw.dirs.emod 64 ∧ x.raw.most.emod 65537 = x.raw.most.emod 65537 ∧ Int.add 16 (x.raw.least.emod 65521) = Int.add 16
  (x.raw.least.emod 65521) ∧ Int.add 64 (x.raw.page.emod 1024) = Int.add 64 (x.raw.page.emod 1024) ∧ i.len = i.len ∧ i.cap = i.cap ∧ i.cap = i.cap ∧ i.N = i.N ∧ i.T = i.T ∧
  y.1.slots = i_2.1.slots ∧ y.1.files = i_2.1.files ∧ y.1.dirs = i_2.1.dirs ∧ y.1.most = i_2.1.most ∧ y.1.least = i_2.1.least ∧ y.1.page = i_2.1.page ∧ y.2.len = i_2.2.len ∧
  y.2.cap = i_2.2.cap ∧ y.2.cap = i_2.2.cap ∧ y.2.N = i_2.2.N ∧ y.2.T = i_2.2.T ∧ True) ∧ ∃ (x_13 : Int × Int), x.by_ = x_13.fst ∧ 255 = x_13.snd ∧ PL.ModIn x_13 ∧ ∀ (y : Unit),
  True → ∀ (z_3 : Int), z_3 = ar.wrap IntKind.i64 (ar.add 1 (x_13.fst.emod x_13.snd)) → ∀ (z_4 : Int), z_4 = ar.wrap IntKind.u8 z_3 → ∀ (z_5 : Int), z_5 = ar.bxor IntKind.u8 z z_4
  → ∀ (t_2 : List UInt8), t_2 = ar.bytes [z_5] → ar.le (ar.add (ar.slen t) (ar.slen t_2)) 9223372036854775807 ∧ ∀ (t_3 : List UInt8), t_3 = ar.sapp t t_2 → ar.le (ar.add (ar.slen
  t_3) (ar.slen t_1)) 9223372036854775807 ∧ ∀ (t : List UInt8), t = ar.sapp t_3 t_1 → ∃ (x_14 : Cfg × List UInt8), Int.add 1 (x_1.slots.emod 64) = x_14.1.slots ∧ Int.add 1
  (x_1.files.emod 64) = x_14.1.files ∧ x_1.dirs.emod 64 = x_14.1.dirs ∧ x_1.most.emod 65537 = x_14.1.most ∧ Int.add 16 (x_1.least.emod 65521) = x_14.1.least ∧ Int.add 64
  (x_1.page.emod 1024) = x_14.1.page ∧ t = x_14.snd ∧ PL.DecIn x_14 ∧ ∀ (y : Root), PL.DecPost x_14 y → ∃ (i_2 : Root), PL.DecPost (PL.made x.raw, PL.turn (PL.encS x_2.fst x_2.snd)
  x.place x.by_) i_2 ∧ x_12.fst.emod x_12.snd = x_12.fst.emod x_12.snd ∧ PL.decE x_14.fst x_14.snd = PL.decE (PL.made x.raw) (PL.turn (PL.encS x_2.fst x_2.snd) x.place x.by_) ∧
  x.raw.slots = x.raw.slots ∧ x.raw.files = x.raw.files ∧ x.raw.dirs = x.raw.dirs ∧ x.raw.most = x.raw.most ∧ x.raw.least = x.raw.least ∧ x.raw.page = x.raw.page ∧ x.other.slots =
  x.other.slots ∧ x.other.files = x.other.files ∧ x.other.dirs = x.other.dirs ∧ x.other.most = x.other.most ∧ x.other.least = x.other.least ∧ x.other.page = x.other.page ∧ Int.add
  1 (x_1.slots.emod 64) = Int.add 1 (x_1.slots.emod 64) ∧ Int.add 1 (x_1.files.emod 64) = Int.add 1 (x_1.files.emod 64) ∧ x_1.dirs.emod 64 = x_1.dirs.emod 64 ∧ x_1.most.emod 65537
  = x_1.most.emod 65537 ∧ Int.add 16 (x_1.least.emod 65521) = Int.add 16 (x_1.least.emod 65521) ∧ Int.add 64 (x_1.page.emod 1024) = Int.add 64 (x_1.page.emod 1024) ∧ Int.add 1
  (x.raw.slots.emod 64) = Int.add 1 (x.raw.slots.emod 64) ∧ Int.add 1 (x.raw.files.emod 64) = Int.add 1 (x.raw.files.emod 64) ∧ x.raw.dirs.emod 64 = x.raw.dirs.emod 64 ∧
  x.raw.most.emod 65537 = x.raw.most.emod 65537 ∧ Int.add 16 (x.raw.least.emod 65521) = Int.add 16 (x.raw.least.emod 65521) ∧ Int.add 64 (x.raw.page.emod 1024) = Int.add 64
  (x.raw.page.emod 1024) ∧ i.len = i.len ∧ i.cap = i.cap ∧ i.cap = i.cap ∧ i.N = i.N ∧ i.T = i.T ∧ y.1.slots = i_2.1.slots ∧ y.1.files = i_2.1.files ∧ y.1.dirs = i_2.1.dirs ∧
  y.1.most = i_2.1.most ∧ y.1.least = i_2.1.least ∧ y.1.page = i_2.1.page ∧ y.2.len = i_2.2.len ∧ y.2.cap = i_2.2.cap ∧ y.2.cap = i_2.2.cap ∧ y.2.N = i_2.2.N ∧ y.2.T = i_2.2.T ∧
  True) ∧ ∀ (i_2 : Root), PL.DecPost (PL.made x.raw, PL.turn (PL.encS x_2.fst x_2.snd) x.place x.by_) i_2 → ∃ (x_13 : Int), PL.decE (PL.made x.raw) (PL.turn (PL.encS x_2.fst
  x_2.snd) x.place x.by_) = x_13 ∧ PL.Ints3 (x_13, x_13, x_13) ∧ ∀ (y : Unit), True → (ar.eq x_13 0 → (ar.le 27 (x_12.fst.emod x_12.snd) → ∃ (x_14 : Root × Root), i_2.1.slots =
  x_14.fst.cfg.slots ∧ i_2.1.files = x_14.fst.cfg.files ∧ i_2.1.dirs = x_14.fst.cfg.dirs ∧ i_2.1.most = x_14.fst.cfg.most ∧ i_2.1.least = x_14.fst.cfg.least ∧ i_2.1.page =
  x_14.fst.cfg.page ∧ ar.le 0 0 ∧ ar.le (ar.add 0 i_2.2.len) (ar.tlen i_2.2.N) ∧ ar.le (ar.add 0 i_2.2.len) (ar.tlen i_2.2.T) ∧ ar.tsub i_2.2.N 0 i_2.2.len = x_14.fst.refs.N ∧
  ar.tsub i_2.2.T 0 i_2.2.len = x_14.fst.refs.T ∧ i_2.2.len = x_14.fst.refs.len ∧ i_2.2.cap = x_14.fst.refs.cap ∧ Int.add 1 (x.raw.slots.emod 64) = x_14.snd.cfg.slots ∧ Int.add 1
  (x.raw.files.emod 64) = x_14.snd.cfg.files ∧ x.raw.dirs.emod 64 = x_14.snd.cfg.dirs ∧ x.raw.most.emod 65537 = x_14.snd.cfg.most ∧ Int.add 16 (x.raw.least.emod 65521) =
  x_14.snd.cfg.least ∧ Int.add 64 (x.raw.page.emod 1024) = x_14.snd.cfg.page ∧ ar.le 0 0 ∧ ar.le (ar.add 0 i.len) (ar.tlen i.N) ∧ ar.le (ar.add 0 i.len) (ar.tlen i.T) ∧ ar.tsub i.N
  0 i.len = x_14.snd.refs.N ∧ ar.tsub i.T 0 i.len = x_14.snd.refs.T ∧ i.len = x_14.snd.refs.len ∧ i.cap = x_14.snd.refs.cap ∧ PL.SameIn x_14 ∧ ∀ (y : Unit), True → ∃ (y : Unit),
  True ∧ (PL.SameR x_14.fst x_14.snd → False ↔ true = true) ∧ True) ∧ (¬ar.le 27 (x_12.fst.emod x_12.snd) → ∃ (y : Unit), True ∧ False)) ∧ (¬ar.eq x_13 0 → (ar.lt (x_12.fst.emod
  x_12.snd) 27 → (ar.eq i_2.2.len 0 → ∃ (x_14 : Int), PL.decE (PL.made x.raw) (PL.turn (PL.encS x_2.fst x_2.snd) x.place x.by_) = x_14 ∧ PL.Ints3 (x_14, x_14, x_14) ∧ ∀ (y : Unit),
  True → ((ar.eq x_14 141 → False) → ∃ (x_15 : Int), PL.decE (PL.made x.raw) (PL.turn (PL.encS x_2.fst x_2.snd) x.place x.by_) = x_15 ∧ PL.Ints3 (x_15, x_15, x_15) ∧ ∀ (y : Unit),
  True → ∃ (y : Unit), True ∧ (ar.eq x_15 140 ↔ true = true) ∧ True) ∧ (¬(ar.eq x_14 141 → False) → ∃ (y : Unit), True ∧ True)) ∧ (¬ar.eq i_2.2.len 0 → False)) ∧ (¬ar.lt
  (x_12.fst.emod x_12.snd) 27 → False)))) ∧ (¬(¬ar.eq x_10 141 → False) → ∃ (y : Unit), True ∧ False)))) ∧ (¬(¬ar.eq x_5 0 → False) → ∃ (y : Unit), True ∧ False))) ∧ (¬(¬ar.eq x_3
  0 → False) → ∃ (y : Unit), True ∧ False)
theorem back_eq (ar : AR) (x : backSpec.X) : (run ar PP bkSpecs (backInvs x) 1000 5 (backSpec.H x).length (Try.f5.body.getD .skip) (backSpec.A x ++ List.replicate (Try.f5.ntmps - (backSpec.A x).length) .any) (backSpec.H x) (endCall ar PP Try.f5.results.toList (backSpec.fin x))) = back_vc ar x := by
  kernel_rfl
theorem back_of (h : ∀ x, backSpec.pre x → back_vc ar0 x) : backSpec.OK PP 5 :=
  Spec.ok_of_run (fn := Try.f5) (c := Try.f5.body.getD .skip) (by kernel_rfl) (by kernel_rfl) (by kernel_rfl) bkSpecs_ok backInvs 1000 (fun x hx => (back_eq ar0 x).mpr (h x hx))
theorem backSpec_ok : backSpec.OK PP 5 := by
  refine back_of fun x hx => ?_
  obtain ⟨raw, rows, place, by_, other⟩ := x
  obtain ⟨hraw, hrows, hplace, hby, hother⟩ : PL.BackIn ⟨raw, rows, place, by_, other⟩ := hx
  simp only at hraw hrows hplace hby hother
  unfold back_vc
  simp only [ars, ars2, ars3, ex_cfg6, cfg_eta, cfg_eq6, ex_list, ex_pair, ex_CR, ex_RR, ex_CS, ex_CN, ex_int, made_fold, refs_eta, root_eta, nums_eta, ints3, cfgAny, true_and, and_true, exists_const, forall_const, imp_false, Classical.not_not, forall_eq, Int.toNat_natCast, Int.reduceToNat, and_self, List.drop_zero]
  have hmi := PL.made_in raw
  have hmo := PL.made_ok raw
  refine ⟨hraw, ⟨⟨hrows⟩, fun y hy => ⟨y, hy, rfl, rfl, rfl, rfl, rfl⟩⟩, fun i hi => ?_⟩
  obtain ⟨⟨i1, i2, i3⟩, il, ig, icap⟩ := hi
  simp only at il
  rw [PL.pagesOr0_ok hmo] at il
  have hp := PL.pages_range hmo
  have tN : List.take i.len.toNat i.N = i.N := List.take_of_length_le (by omega)
  have tT : List.take i.len.toNat i.T = i.T := List.take_of_length_le (by omega)
  have hC : PL.EncC (PL.made raw) ⟨PL.made raw, i⟩ := ⟨hmo, rfl⟩
  have hI : PL.EncI (PL.made raw) ⟨PL.made raw, i⟩ := ⟨il, ig⟩
  have W := PL.written hmo ⟨i1, i2, i3⟩ ig il
  simp only [made_fold, tN, tT, refs_eta, PL.encS_ok hC hI, PL.encE_ok hC hI]
  have hcs : ∀ c d : Cfg, (PL.made other = d → PL.made raw = c → ((1 + other.slots % 64 = 1 + raw.slots % 64 ∧ 1 + other.files % 64 = 1 + raw.files % 64 ∧ other.dirs % 64 = raw.dirs % 64 ∧ other.most % 65537 = raw.most % 65537 ∧ 16 + other.least % 65521 = 16 + raw.least % 65521 ∧ 64 + other.page % 1024 = 64 + raw.page % 1024) ↔ d = c)) := fun c d h1 h2 => by
    subst h1 h2
    exact PL.cfg_eq (a := PL.made other) (b := PL.made raw)
  have hdo := PL.made_ok other
  generalize hcc : PL.made raw = c at *
  generalize hdd : PL.made other = d at *
  rw [hcs c d rfl rfl]
  generalize hs : PL.rootBytes c i = s at *
  have hlen := W.len
  have hOK : PL.DecOK c s := ⟨hmo, W.i, W.cfg⟩
  rw [wrap_i64 (n := 32 * i.len) (by omega) (by omega), wrap_i64 (n := 27 + 32 * i.len) (by omega) (by omega), wrap_i64 (n := (s.length : Int) - 1) (by omega) (by omega)]
  have tl : List.take ((s.length : Int) - 1).toNat s = List.take (s.length - 1) s := by rw [show ((s.length : Int) - 1).toNat = s.length - 1 by omega]
  rw [tl]
  have s1 : PL.decE c (List.take (s.length - 1) s) = 141 := PL.decE_i hmo fun h => by have := h.len; simp at this; omega
  have s2 : PL.decE c (s ++ [UInt8.ofNat 0]) = 141 := PL.decE_i hmo fun h => by have := h.len; simp at this; omega
  obtain ⟨k, v, hk, hkl, ht, hv⟩ := PL.turn_set (s := s) (place := place) (b := by_) (by omega)
  have hvn : v ≠ s[k] := by
    rw [hv]
    exact PL.xor_ne (PL.b8_ne (by omega) (by omega))
  rw [← hk]
  refine ⟨by omega, by omega, by omega, ⟨⟨i1, i2, i3⟩⟩, fun _ => ⟨by omega, fun _ => ⟨⟨by simp only; omega⟩, fun y hy => ⟨fun _ => ?_, PL.decE_ok hOK⟩⟩⟩, trivial⟩
  obtain ⟨cap, he, _⟩ := hy.eq
  simp only at he
  rw [PL.decR_ok hOK, W.cnt, W.N, W.T] at he
  subst he
  simp only [tN, tT]
  refine ⟨by omega, by omega, by omega, by omega, by omega, by omega, ⟨⟨i1, i2, i3⟩, ⟨i1, i2, i3⟩⟩, ⟨rfl, rfl, rfl⟩, fun _ => ⟨hother, ⟨by simp only; omega⟩, fun y2 hy2 => ⟨fun hd => ⟨PL.decE_o hdo W.i (fun h => hd (by rw [← h, W.cfg])), fun _ => ?_⟩, fun hd => ?_⟩⟩⟩
  all_goals
    have hb1 := Int.emod_nonneg by_ (b := 255) (by omega)
    have hb2 := Int.emod_lt_of_pos by_ (b := 255) (by omega)
    have wk : IntKind.i64.wrap ((k : Int) + 1) = (k : Int) + 1 := wrap_i64 (by omega) (by omega)
    have str : List.take (k : Int).toNat s ++ List.map (fun n : Int => UInt8.ofNat n.toNat) [ar0.bxor IntKind.u8 ((s.getD (k : Int).toNat 0).toNat : Int) (IntKind.u8.wrap (IntKind.i64.wrap (1 + by_ % 255)))] ++ List.drop ((k : Int) + 1).toNat s = PL.turn s place by_ := by
      rw [wrap_i64 (n := 1 + by_ % 255) (by omega) (by omega), wrap_b8, bxor_u8]
      unfold PL.turn
      rw [← hk, show ((k : Int) + 1).toNat = k + 1 by omega, List.append_assoc]
      simp only [List.map_cons, List.map_nil, Int.toNat_natCast, UInt8.ofNat_toNat]
    have tlen : (PL.turn s place by_).length = s.length := by rw [ht, List.length_set]
    have hT := PL.turned hmo hs W hkl hvn il
    rw [← ht] at hT
    have hel : (List.take (k : Int).toNat s).length = k := by simp; omega
    simp only [wk, List.take_length, str]
    simp only [List.length_append, hel, List.length_map, List.length_cons, List.length_nil, Nat.zero_add, List.take_length, List.length_drop]
    refine ⟨⟨by omega, by omega, ⟨by simp only [List.length_take]; omega⟩, fun _ _ => ⟨(), ⟨trivial⟩, trivial⟩⟩, fun _ _ => ⟨by omega, ⟨by simp only [List.length_append, List.length_cons, List.length_nil]; omega⟩, fun _ _ => ⟨fun _ => ⟨s2, fun _ => ⟨⟨⟨hplace.lo, hplace.hi⟩, by simp only; omega⟩, ?_, fun y3 hy3 => ⟨fun hE => ?_, fun hE => ?_⟩⟩⟩, s1⟩⟩⟩
    · exact ⟨by omega, by omega, by omega, by omega, by omega, by omega, ⟨⟨hby.lo, hby.hi⟩, by simp⟩, by omega, by omega, ⟨by simp only [tlen]; omega⟩, fun y hy => ⟨y, hy, by and_intros <;> first | rfl | trivial⟩⟩
    · have hD : PL.DecOK c (PL.turn s place by_) := Classical.byContradiction fun hn => by
        rcases PL.decE_cases hmo hn with h | h <;> rw [h] at hE <;> omega
      obtain ⟨g1, g2⟩ := hT.1 hD
      have k3 := PL.post_refs hy3
      have n1 := k3.n
      have n2 := k3.t
      have t1 : List.take y3.refs.len.toNat y3.refs.N = y3.refs.N := List.take_of_length_le (by omega)
      have t2 : List.take y3.refs.len.toNat y3.refs.T = y3.refs.T := List.take_of_length_le (by omega)
      simp only [t1, t2, refs_eta, root_eta]
      refine ⟨fun _ => ⟨by omega, by omega, by omega, by omega, by omega, by omega, ⟨k3, ⟨i1, i2, i3⟩⟩, ?_⟩, by omega⟩
      exact ⟨fun _ => trivial, fun _ => g2 y3 hy3⟩
    · have hD : ¬ PL.DecOK c (PL.turn s place by_) := fun h => hE (PL.decE_ok h)
      have g1 := hT.2 hD
      obtain ⟨cap3, he3, _⟩ := hy3.eq
      simp only at he3
      rw [PL.decR_no hD] at he3
      subst he3
      refine ⟨fun _ => ⟨fun _ => ⟨fun h => ⟨fun _ => trivial, fun _ => ?_⟩, fun _ => trivial⟩, rfl⟩, by omega⟩
      rcases PL.decE_cases hmo hD with h2 | h2
      · exact absurd h2 h
      · exact h2

end Go.Eng
