/- Index: what was written is read: the plain law. -/
import Derived.Test.YtfcjboomlfjanaaDoorIxI
set_option linter.unusedVariables false
set_option linter.unusedSimpArgs false
/- Index: made inputs: mod, Made, sixteen (seat D). -/
namespace Go.PL
def made (c : Cfg) : Cfg := ⟨1 + c.slots % 64, 1 + c.files % 64, c.dirs % 64, c.most % 65537, 16 + c.least % 65521, 64 + c.page % 1024⟩
structure ModIn (x : Int × Int) : Prop where
  n : -9223372036854775808 ≤ x.1 ∧ x.1 < 9223372036854775808
  m : 0 < x.2 ∧ x.2 ≤ 4611686018427387904
structure I64 (n : Int) : Prop where
  lo : -9223372036854775808 ≤ n
  hi : n < 9223372036854775808
structure CfgI64 (c : Cfg) : Prop where
  i1 : I64 c.slots
  i2 : I64 c.files
  i3 : I64 c.dirs
  i4 : I64 c.most
  i5 : I64 c.least
  i6 : I64 c.page
structure Len16 (s : List UInt8) : Prop where
  len : s.length = 16
structure SixAt (i : Nat × Int × List UInt8 × Int) : Prop where
  le : i.1 ≤ 16
  len : i.2.2.1.length = i.1
  cap : (i.1 : Int) ≤ i.2.2.2
  n : I64 i.2.1
structure Nums where
  l : List Int
  len : Int
  cap : Int
structure NumsOK (x : Nums) : Prop where
  len : (x.l.length : Int) = x.len
  i : ∀ n ∈ x.l, I64 n
  b : x.len ≤ 4611686018427387904
theorem made_in (c : Cfg) : CfgIn (made c) := by
  have h1 := Int.emod_nonneg c.slots (b := 64) (by omega)
  have h2 := Int.emod_lt_of_pos c.slots (b := 64) (by omega)
  refine ⟨?_, ?_, ?_, ?_, ?_, ?_⟩ <;> simp only [made] <;> omega
theorem made_ok (c : Cfg) : CfgOK (made c) := by
  have h := made_in c
  refine ⟨h, ?_⟩
  have g1 : (made c).slots ≤ 64 := h.slots.2
  have g2 : (made c).files ≤ 64 := by simp only [made]; omega
  have g3 : (made c).dirs ≤ 63 := by simp only [made]; omega
  have g4 := h.page.1
  have g5 : lenI (made c) ≤ 36 * 63 + 40 * 64 + 44 * 128 + 4 := by unfold lenI; omega
  have g6 : 0 ≤ lenI (made c) := by have := h.files.1; have := h.dirs.1; have := h.slots.1; unfold lenI; omega
  unfold pagesI
  rw [Int.ediv_le_iff_le_mul (by omega)]
  omega
end Go.PL
set_option linter.unusedSectionVars false
set_option linter.unusedSimpArgs false
set_option linter.unusedVariables false
namespace Go.Eng
variable [CW : CWorld]
open Go.Proofs
open Go.PL (Cfg CfgIn CfgOK CfgBad Nums)
set_option maxRecDepth 100000
attribute [local irreducible] run
theorem ars3 : (∀ a b : Int, a.emod b = a % b) ∧ (∀ a b : Nat, a.mod b = a % b) := ⟨fun _ _ => rfl, fun _ _ => rfl⟩
theorem go_mod {n m : Int} (h3 : 0 < m) : -m < n.tmod m ∧ n.tmod m < m ∧ (n.tmod m + m).tmod m = n % m := by
  have ha := Int.tmod_lt_of_pos n h3
  have hb : -m < n.tmod m := by
    rcases Int.le_total 0 n with h | h
    · have := Int.tmod_nonneg m h; omega
    · have h1 := Int.tmod_lt_of_pos (-n) h3
      rw [Int.neg_tmod] at h1
      omega
  refine ⟨hb, ha, ?_⟩
  rw [Int.tmod_eq_emod_of_nonneg (by omega), Int.tmod_def, show n - m * n.tdiv m + m = n + m * (1 - n.tdiv m) by rw [Int.mul_sub]; omega, Int.add_mul_emod_self_left]
theorem tdiv_lit {n d : Int} (hd : 0 < d) : n.tdiv d = if 0 ≤ n then n / d else -((-n) / d) := by
  split
  · exact Int.tdiv_eq_ediv_of_nonneg ‹_›
  · have h : n.tdiv d = -((-n).tdiv d) := by rw [Int.neg_tdiv, Int.neg_neg]
    rw [h, Int.tdiv_eq_ediv_of_nonneg (by omega)]
theorem wrap_range (n : Int) : PL.I64 (IntKind.i64.wrap n) := by
  have h : IntKind.i64.wrap n = (if (true && decide (n % (2 ^ 64 : Int) ≥ (2 ^ 63 : Int))) = true then n % (2 ^ 64 : Int) - (2 ^ 64 : Int) else n % (2 ^ 64 : Int)) := rfl
  rw [show (2 : Int) ^ 64 = 18446744073709551616 by decide, show (2 : Int) ^ 63 = 9223372036854775808 by decide] at h
  rw [h]
  by_cases hc : n % 18446744073709551616 ≥ 9223372036854775808
  · rw [if_pos (by simpa using hc)]; exact ⟨by omega, by omega⟩
  · rw [if_neg (by simpa using hc)]; exact ⟨by omega, by omega⟩
def modSpec : Spec where
  X := Int × Int
  A x := [.int .i64 (.x x.1), .int .i64 (.x x.2)]
  H _ := []
  pre x := PL.ModIn x
  outs := [{ Y _ := Unit, post _ _ := True, R x _ := .int .i64 (.x (x.1 % x.2)), H' _ _ := [] }]
def mod_vc (ar : AR) (x : modSpec.X) : Prop :=
  ¬ar.eq x.snd 0 ∧ ∀ (z : Int), z = ar.rem x.fst x.snd → ∀ (z_1 : Int), z_1 = ar.wrap IntKind.i64 (ar.add z x.snd) → ¬ar.eq x.snd 0 ∧ ∀ (z : Int), z = ar.rem z_1 x.snd → ∃ (y :
  Unit), True ∧ z = x.fst.emod x.snd ∧ True
theorem mod_eq (ar : AR) (x : modSpec.X) : (run ar PP noSpec noInv 1000 23 (modSpec.H x).length (Tryd.f23.body.getD .skip) (modSpec.A x ++ List.replicate (Tryd.f23.ntmps - (modSpec.A x).length) .any) (modSpec.H x) (endCall ar PP Tryd.f23.results.toList (modSpec.fin x))) = mod_vc ar x := by
  kernel_rfl
theorem mod_of (h : ∀ x, modSpec.pre x → mod_vc ar0 x) : modSpec.OK PP 23 :=
  Spec.ok_of_run (fn := Tryd.f23) (c := Tryd.f23.body.getD .skip) (by kernel_rfl) (by kernel_rfl) (by kernel_rfl) noSpec_ok (fun _ => noInv) 1000 (fun x hx => (mod_eq ar0 x).mpr (h x hx))
theorem modSpec_ok : modSpec.OK PP 23 := by
  refine mod_of fun x hx => ?_
  obtain ⟨n, m⟩ := x
  obtain ⟨⟨h1, h2⟩, h3, h4⟩ : PL.ModIn (n, m) := hx
  unfold mod_vc
  simp only [ars, ars2, true_and, and_true, exists_const]
  simp only at h1 h2 h3 h4
  have h0 : ¬ m = 0 := by omega
  obtain ⟨ha, hb, hc⟩ := go_mod (n := n) h3
  refine ⟨h0, fun z hz z1 hz1 => ⟨h0, fun z2 hz2 => ?_⟩⟩
  subst hz
  rw [wrap_i64 (by omega) (by omega)] at hz1
  subst hz1
  rw [hc] at hz2
  exact hz2
noncomputable def mdSpecs : Specs := fun f xs hp => match f with
  | 23 => some modSpec
  | _ => noSpec f xs hp
theorem mdSpecs_ok : SpecsOK PP mdSpecs := by
  intro CW f xs hp S h
  unfold mdSpecs at h
  split at h
  · cases h; exact modSpec_ok
  · exact noSpec_ok CW f xs hp S h
def madeSpec : Spec where
  X := Cfg
  A x := [.agg (cfgL x)]
  H _ := []
  pre x := PL.CfgI64 x
  outs := [{ Y _ := Unit, post _ _ := True, R x _ := .agg (cfgL (PL.made x)), H' _ _ := [] }]
def made_vc (ar : AR) (x : madeSpec.X) : Prop :=
  ∃ (x_1 : Int × Int), x.slots = x_1.fst ∧ 64 = x_1.snd ∧ PL.ModIn x_1 ∧ ∀ (y : Unit), True → ∀ (z : Int), z = ar.wrap IntKind.i64 (ar.add 1 (x_1.fst.emod x_1.snd)) → ∃ (x_2 : Int
  × Int), x.files = x_2.fst ∧ 64 = x_2.snd ∧ PL.ModIn x_2 ∧ ∀ (y : Unit), True → ∀ (z_1 : Int), z_1 = ar.wrap IntKind.i64 (ar.add 1 (x_2.fst.emod x_2.snd)) → ∃ (x_3 : Int × Int),
  x.dirs = x_3.fst ∧ 64 = x_3.snd ∧ PL.ModIn x_3 ∧ ∀ (y : Unit), True → ∃ (x_4 : Int × Int), x.most = x_4.fst ∧ 65537 = x_4.snd ∧ PL.ModIn x_4 ∧ ∀ (y : Unit), True → ∃ (x_5 : Int ×
  Int), x.least = x_5.fst ∧ 65521 = x_5.snd ∧ PL.ModIn x_5 ∧ ∀ (y : Unit), True → ∀ (z_2 : Int), z_2 = ar.wrap IntKind.i64 (ar.add 16 (x_5.fst.emod x_5.snd)) → ∃ (x_6 : Int × Int),
  x.page = x_6.fst ∧ 1024 = x_6.snd ∧ PL.ModIn x_6 ∧ ∀ (y : Unit), True → ∀ (z_3 : Int), z_3 = ar.wrap IntKind.i64 (ar.add 64 (x_6.fst.emod x_6.snd)) → ∃ (y : Unit), True ∧ z =
  Int.add 1 (x.slots.emod 64) ∧ z_1 = Int.add 1 (x.files.emod 64) ∧ x_3.fst.emod x_3.snd = x.dirs.emod 64 ∧ x_4.fst.emod x_4.snd = x.most.emod 65537 ∧ z_2 = Int.add 16
  (x.least.emod 65521) ∧ z_3 = Int.add 64 (x.page.emod 1024) ∧ True
theorem made_eq (ar : AR) (x : madeSpec.X) : (run ar PP mdSpecs noInv 1000 16 (madeSpec.H x).length (Tryd.f16.body.getD .skip) (madeSpec.A x ++ List.replicate (Tryd.f16.ntmps - (madeSpec.A x).length) .any) (madeSpec.H x) (endCall ar PP Tryd.f16.results.toList (madeSpec.fin x))) = made_vc ar x := by
  kernel_rfl
theorem made_of (h : ∀ x, madeSpec.pre x → made_vc ar0 x) : madeSpec.OK PP 16 :=
  Spec.ok_of_run (fn := Tryd.f16) (c := Tryd.f16.body.getD .skip) (by kernel_rfl) (by kernel_rfl) (by kernel_rfl) mdSpecs_ok (fun _ => noInv) 1000 (fun x hx => (made_eq ar0 x).mpr (h x hx))
theorem madeSpec_ok : madeSpec.OK PP 16 := by
  refine made_of fun (x : Cfg) hx => ?_
  obtain ⟨⟨a1, a2⟩, ⟨b1, b2⟩, ⟨c1, c2⟩, ⟨d1, d2⟩, ⟨e1, e2⟩, ⟨f1, f2⟩⟩ : PL.CfgI64 x := hx
  have mi : ∀ n m : Int, -9223372036854775808 ≤ n → n < 9223372036854775808 → 0 < m → m ≤ 100000 → PL.ModIn (n, m) := fun n m h1 h2 h3 h4 => ⟨⟨h1, h2⟩, by simp only; omega⟩
  unfold made_vc
  simp only [ars, ars2, ars3, ex_pair, true_and, and_true, exists_const, forall_const, forall_eq]
  refine ⟨mi _ _ a1 a2 (by omega) (by omega), mi _ _ b1 b2 (by omega) (by omega), mi _ _ c1 c2 (by omega) (by omega), mi _ _ d1 d2 (by omega) (by omega), mi _ _ e1 e2 (by omega) (by omega), mi _ _ f1 f2 (by omega) (by omega), ?_⟩
  and_intros <;> first | rfl | (rw [wrap_i64 (by omega) (by omega)])
def sixSpec : Spec where
  X := Int
  A x := [.int .i64 (.x x)]
  H _ := []
  pre x := PL.I64 x
  outs := [{ Y _ := List UInt8, post _ y := PL.Len16 y, R x y := .str y, H' _ _ := [] }]
def sixInv (x : Int) : Code → List SV → List Blk → List Inv := fun b fr hp => [
  { ι := Nat × Int × List UInt8 × Int, fr := fun i => only b fr 0 [] [(0, .int .i64 (.x i.2.1)), (3, .slc 0 (.l 0) (.x (i.1 : Int)) (.x i.2.2.2)), (4, .int .i64 (.x (i.1 : Int)))],
    hp := fun i => [bytesB i.2.2.1 i.2.2.2], μ := fun i => 16 - i.1, ok := fun i => PL.SixAt i }]
def sixInvs (x : Int) : Invs := fun f n => match f, n with
  | 45, 3 => some (sixInv x)
  | _, _ => none
def six_vc (ar : AR) (x : sixSpec.X) : Prop :=
  (∃ (i : Nat × Int × List UInt8 × Int), PL.SixAt i ∧ x = i.2.fst ∧ 0 = (↑i.fst : Int) ∧ 0 = i.snd.snd.snd ∧ 0 = (↑i.fst : Int) ∧ i.snd.snd.snd = 0 ∧ PL.ints i.snd.snd.fst = [] ∧
  True) ∧ ∀ (i : Nat × Int × List UInt8 × Int), PL.SixAt i → (ar.lt (↑i.fst : Int) 16 → ∃ (x : Int × Int), i.2.fst = x.fst ∧ 256 = x.snd ∧ PL.ModIn x ∧ ∀ (y : Unit), True → ∀ (z :
  Int), z = ar.wrap IntKind.u8 (x.fst.emod x.snd) → ar.le (ar.add 0 (↑i.fst : Int)) (ar.ilen (PL.ints i.snd.snd.fst)) ∧ i.snd.snd.snd = i.snd.snd.snd ∧ ar.le (ar.mul (ar.add
  (↑i.fst : Int) 1) 1) 140737488355328 ∧ ∀ (c : Int), ar.le (ar.add (↑i.fst : Int) 1) c → ∀ (z_1 : Int), z_1 = ar.wrap IntKind.i64 (ar.quo i.2.fst 3) → ∀ (z_2 : Int), z_2 = ar.wrap
  IntKind.i64 (ar.add z_1 (↑i.fst : Int)) → ∀ (z_3 : Int), z_3 = ar.wrap IntKind.i64 (ar.add (↑i.fst : Int) 1) → ∃ (j : Nat × Int × List UInt8 × Int), PL.SixAt j ∧ (Nat.sub 16
  j.fst).lt (Nat.sub 16 i.fst) ∧ z_2 = j.2.fst ∧ ar.add (↑i.fst : Int) 1 = (↑j.fst : Int) ∧ c = j.snd.snd.snd ∧ z_3 = (↑j.fst : Int) ∧ c = j.snd.snd.snd ∧ ar.iapp (ar.isub (PL.ints
  i.snd.snd.fst) 0 (↑i.fst : Int)) [z] = PL.ints j.snd.snd.fst ∧ True) ∧ (¬ar.lt (↑i.fst : Int) 16 → ar.le 0 0 ∧ ar.le (ar.add 0 (↑i.fst : Int)) (ar.ilen (PL.ints i.snd.snd.fst)) ∧
  ∀ (t : List UInt8), t = ar.bytes (ar.isub (PL.ints i.snd.snd.fst) 0 (↑i.fst : Int)) → ∃ (y : List UInt8), PL.Len16 y ∧ t = y ∧ True)
theorem six_eq (ar : AR) (x : sixSpec.X) : (run ar PP mdSpecs (sixInvs x) 1000 45 (sixSpec.H x).length (Tryd.f45.body.getD .skip) (sixSpec.A x ++ List.replicate (Tryd.f45.ntmps - (sixSpec.A x).length) .any) (sixSpec.H x) (endCall ar PP Tryd.f45.results.toList (sixSpec.fin x))) = six_vc ar x := by
  kernel_rfl
theorem six_of (h : ∀ x, sixSpec.pre x → six_vc ar0 x) : sixSpec.OK PP 45 :=
  Spec.ok_of_run (fn := Tryd.f45) (c := Tryd.f45.body.getD .skip) (by kernel_rfl) (by kernel_rfl) (by kernel_rfl) mdSpecs_ok sixInvs 1000 (fun x hx => (six_eq ar0 x).mpr (h x hx))
theorem sixSpec_ok : sixSpec.OK PP 45 := by
  refine six_of fun (x : Int) hx => ?_
  obtain ⟨h1, h2⟩ : PL.I64 x := hx
  unfold six_vc
  simp only [ars, ars2, ars3, ex_pair, true_and, and_true, exists_const, forall_const, forall_eq, Int.toNat_natCast, Int.reduceToNat, List.drop_zero, PL.ints_length]
  refine ⟨⟨(0, x, [], 0), ⟨by simp, rfl, by simp, ⟨h1, h2⟩⟩, rfl, rfl, rfl, rfl, rfl, rfl⟩, ?_⟩
  rintro ⟨k, n, l, cap⟩ ⟨g1, g2, g3, g4, g5⟩
  simp only at g1 g2 g3 g4 g5 ⊢
  have hd : -9223372036854775808 ≤ n.tdiv 3 + k ∧ n.tdiv 3 + k < 9223372036854775808 ∧ -9223372036854775808 ≤ n.tdiv 3 ∧ n.tdiv 3 < 9223372036854775808 := by
    rw [tdiv_lit (by omega)]
    split <;> omega
  refine ⟨fun hlt => ⟨⟨⟨g4, g5⟩, by simp⟩, by omega, by omega, fun c hc => ⟨(k + 1, n.tdiv 3 + k, l ++ [PL.b8 (n % 256)], c), ⟨by simp only; omega, by simp [g2], by simp only; omega, ⟨by simp only; omega, by simp only; omega⟩⟩, by simp only; omega, ?_, by simp only; omega, rfl, ?_, rfl, ?_⟩⟩, fun hge => ⟨by omega, by omega, l, ⟨by omega⟩, ?_⟩⟩
  · rw [wrap_i64 (n := n.tdiv 3) (by omega) (by omega), wrap_i64 (by omega) (by omega)]
  · rw [wrap_i64 (by omega) (by omega)]; simp
  · rw [List.take_of_length_le (by rw [PL.ints_length]; omega), wrap_b8, PL.ints_append]; rfl
  · rw [List.take_of_length_le (by rw [PL.ints_length]; omega), PL.bytes_ints]
def numsS (x : Nums) : SV := .cs [.ints .i64 x.l] (.x x.len) (.x x.cap)
end Go.Eng
/- Index: made states: letters, MadeTree, MadePool; shaped. -/
namespace Go.PL
structure Lets (l : List UInt8) : Prop where
  all : ∀ b ∈ l, 97 ≤ b.toNat ∧ b.toNat ≤ 122
structure LetAt (x : Int) (i : Nat × List UInt8) : Prop where
  len : i.2.length = i.1
  le : (i.1 : Int) ≤ x % 32 + 1
  all : Lets i.2
structure LetPost (y : List UInt8) : Prop where
  ok : NameOK y
theorem lets_ok {l : List UInt8} (h : Lets l) (h1 : 1 ≤ l.length) (h2 : l.length ≤ 32) : NameOK l := by
  refine ⟨fun e => by simp [e] at h1, h2, fun e => ?_, fun e => ?_, fun b hb => ?_⟩
  · have := h.all 46 (by simp [e]); revert this; decide
  · have := h.all 46 (by simp [e]); revert this; decide
  · have := h.all b hb
    exact ⟨by omega, by omega, by omega⟩
structure MtIn (x : Cfg × Nums) : Prop where
  cfg : CfgIn x.1
  nums : NumsOK x.2
structure MtPost (x : Cfg × Nums) (y : Nods) : Prop where
  ok : NodsOK y
  fits : TreeOK x.1 ⟨x.1.files, x.1.dirs, y⟩
  cap : y.len ≤ y.cap
  le : y.len ≤ x.1.dirs + x.1.files
structure MtAt (x : Cfg × Nums) (i : Nat × Nods) : Prop where
  le : (i.1 : Int) ≤ x.1.dirs + x.1.files
  ok : NodsOK i.2
  fits : NodsUp x.1 i.2 i.2.len.toNat
  key : ∀ j, j < i.2.len.toNat → key (i.2.at j) < keyR x.1 i.1
  cap : i.2.len ≤ i.2.cap
  few : i.2.len ≤ i.1
def Nods.snoc (y : Nods) (n : Nod) (cap : Int) : Nods := ⟨y.K ++ [n.kind], y.N ++ [n.number], y.P ++ [n.parent], y.S ++ [n.name], y.Z ++ [n.size], y.len + 1, cap⟩
theorem snoc_ok {y : Nods} {n : Nod} {cap : Int} (h : NodsOK y) (hl : y.len + 1 ≤ 140737488351232) : NodsOK (y.snoc n cap) := by
  obtain ⟨h1, h2, h3, h4, h5, h6⟩ := h
  constructor <;> simp only [Nods.snoc, List.length_append, List.length_singleton] <;> omega
theorem getD_app1 {α : Type} {l m : List α} {d : α} {j : Nat} (h : j < l.length) : (l ++ m).getD j d = l.getD j d := by
  rw [List.getD, List.getD, List.getElem?_append_left h]
theorem getD_app2 {α : Type} {l : List α} {a d : α} {j : Nat} (h : j = l.length) : (l ++ [a]).getD j d = a := by
  subst h; simp [List.getD]
theorem snoc_at1 {y : Nods} {n : Nod} {cap : Int} (h : NodsOK y) {j : Nat} (hj : (j : Int) < y.len) : (y.snoc n cap).at j = y.at j := by
  obtain ⟨h1, h2, h3, h4, h5, h6⟩ := h
  simp only [Nods.at, Nods.snoc]
  rw [getD_app1 (by omega), getD_app1 (by omega), getD_app1 (by omega), getD_app1 (by omega), getD_app1 (by omega)]
theorem snoc_at2 {y : Nods} {n : Nod} {cap : Int} (h : NodsOK y) {j : Nat} (hj : (j : Int) = y.len) : (y.snoc n cap).at j = n := by
  obtain ⟨h1, h2, h3, h4, h5, h6⟩ := h
  simp only [Nods.at, Nods.snoc]
  rw [getD_app2 (by omega), getD_app2 (by omega), getD_app2 (by omega), getD_app2 (by omega), getD_app2 (by omega)]
theorem snoc_up {c : Cfg} {y : Nods} {n : Nod} {cap : Int} (h : NodsOK y) (hu : NodsUp c y y.len.toNat) (hn : NodeOK c n) (hb : ∀ j, j < y.len.toNat → Behind n (y.at j)) : NodsUp c (y.snoc n cap) (y.snoc n cap).len.toNat := by
  have h0 : 0 ≤ y.len := by have := h.k; omega
  have hl : (y.snoc n cap).len = y.len + 1 := rfl
  refine ⟨by omega, fun j hj => ?_, fun j hj => ?_⟩
  · by_cases e : (j : Int) = y.len
    · rw [snoc_at2 h e]; exact hn
    · rw [snoc_at1 h (by omega)]; exact hu.all j (by omega)
  · by_cases e : ((j + 1 : Nat) : Int) = y.len
    · rw [snoc_at2 h e, snoc_at1 h (by omega)]; exact hb j (by omega)
    · rw [snoc_at1 h (by omega), snoc_at1 h (by omega)]; exact hu.up j (by omega)
theorem behind_key {c : Cfg} (hc : CfgIn c) {n m : Nod} (hn : NodeOK c n) (hm : NodeOK c m) (h : key m < key n) : Behind n m := by
  have h1 := (node_key hc hn).1
  have h2 := (node_key hc hm).1
  simp only [key] at h
  exact ⟨by omega⟩
theorem snoc_step {x : Cfg × Nums} {k : Nat} {y : Nods} {n : Nod} {cap : Int} (hc : CfgIn x.1) (h : MtAt x (k, y)) (hk : (k : Int) < x.1.dirs + x.1.files) (hn : NodeOK x.1 n) (hkey : key n = keyR x.1 k) (hcap : y.len + 1 ≤ cap) : MtAt x (k + 1, y.snoc n cap) := by
  obtain ⟨h1, h2, h3, h4, h5, h6⟩ := h
  simp only at h1 h2 h3 h4 h5 h6
  obtain ⟨c1, c2, c3, c4, c5, c6⟩ := id hc
  have h0 : 0 ≤ y.len := by have := h2.k; omega
  have hl : (y.snoc n cap).len = y.len + 1 := rfl
  have hkk : keyR x.1 k < keyR x.1 (k + 1) := by
    simp only [keyR, kndR, nmbR]
    split <;> split <;> omega
  refine ⟨by simp only; omega, snoc_ok h2 (by omega), snoc_up h2 h3 hn fun j hj => behind_key hc hn (h3.all j hj) (by have := h4 j hj; omega), fun j hj => ?_, by simp only [Nods.snoc]; exact hcap, by simp only [hl]; omega⟩
  simp only at hj ⊢
  by_cases e : (j : Int) = y.len
  · rw [snoc_at2 h2 e]; omega
  · rw [snoc_at1 h2 (by omega)]; have := h4 j (by omega); omega
theorem skip_step {x : Cfg × Nums} {k : Nat} {y : Nods} (hc : CfgIn x.1) (h : MtAt x (k, y)) (hk : (k : Int) < x.1.dirs + x.1.files) : MtAt x (k + 1, y) := by
  obtain ⟨h1, h2, h3, h4, h5, h6⟩ := h
  simp only at h1 h2 h3 h4 h5 h6
  obtain ⟨c1, c2, c3, c4, c5, c6⟩ := id hc
  have hkk : keyR x.1 k < keyR x.1 (k + 1) := by
    simp only [keyR, kndR, nmbR]
    split <;> split <;> omega
  exact ⟨by simp only; omega, h2, h3, fun j hj => by have := h4 j hj; simp only; omega, h5, by simp only; omega⟩
structure MpPost (x : Cfg × Nums) (y : Pool) : Prop where
  ok : PoolIn (x.1, y)
  fits : PoolOK x.1 y
  cap : y.objs.len ≤ y.objs.cap
  qcap : y.qlen ≤ y.qcap
structure MpAt (x : Cfg × Nums) (i : Nat × Pool) : Prop where
  le : (i.1 : Int) ≤ rowsC x.1
  n : i.2.objs.N.length = i.1
  t : i.2.objs.T.length = i.1
  b : i.2.objs.B.length = i.1
  o : i.2.objs.O.length = i.1
  len : i.2.objs.len = i.1
  cap : (i.1 : Int) ≤ i.2.objs.cap
  objs : ∀ j, j < i.1 → ObjOK x.1 i.2.objs j
  ql : (i.2.q.length : Int) = i.2.qlen
  qle : i.2.qlen ≤ i.1
  qcap : i.2.qlen ≤ i.2.qcap
  q : ∀ j, j < i.2.q.length → 0 ≤ i.2.q.getD j 0 ∧ i.2.q.getD j 0 ≤ rowsC x.1 - 1
def Pool.addO (p : Pool) (a b : List UInt8) (bk o cap : Int) : Pool := ⟨⟨p.objs.N ++ [a], p.objs.T ++ [b], p.objs.B ++ [bk], p.objs.O ++ [o], p.objs.len + 1, cap⟩, p.q, p.qlen, p.qcap⟩
def Pool.addQ (p : Pool) (n cap : Int) : Pool := ⟨p.objs, p.q ++ [n], p.qlen + 1, cap⟩
theorem mp_o {x : Cfg × Nums} {k : Nat} {y : Pool} {a b : List UInt8} {bk o cap : Int} (h : MpAt x (k, y)) (hk : (k : Int) < rowsC x.1) (ha : a.length = 16) (hb : b.length = 16) (hbk : 0 ≤ bk ∧ bk ≤ 1048576) (ho : -1 ≤ o ∧ o ≤ x.1.files - 1) (hcap : (k : Int) + 1 ≤ cap) :
    MpAt x (k + 1, y.addO a b bk o cap) := by
  obtain ⟨h1, h2, h3, h4, h5, h6, h7, h8, h9, h10, h11, h12⟩ := h
  simp only at h1 h2 h3 h4 h5 h6 h7 h8 h9 h10 h11 h12
  refine ⟨by simp only; omega, by simp [Pool.addO, h2], by simp [Pool.addO, h3], by simp [Pool.addO, h4], by simp [Pool.addO, h5], by simp only [Pool.addO]; omega, by simp only [Pool.addO]; omega, fun j hj => ?_, h9, by simp only [Pool.addO]; omega, h11, h12⟩
  simp only at hj
  by_cases e : j = k
  · refine ⟨?_, ?_, ?_, ?_⟩ <;> simp only [Pool.addO]
    · rw [getD_app2 (by omega)]; exact ha
    · rw [getD_app2 (by omega)]; exact hb
    · rw [getD_app2 (by omega)]; exact hbk
    · rw [getD_app2 (by omega)]; exact ho
  · obtain ⟨g1, g2, g3, g4⟩ := h8 j (by omega)
    refine ⟨?_, ?_, ?_, ?_⟩ <;> simp only [Pool.addO]
    · rw [getD_app1 (by omega)]; exact g1
    · rw [getD_app1 (by omega)]; exact g2
    · rw [getD_app1 (by omega)]; exact g3
    · rw [getD_app1 (by omega)]; exact g4
theorem mp_q {x : Cfg × Nums} {k : Nat} {y : Pool} {n cap : Int} (h : MpAt x (k + 1, y)) (hq : y.qlen ≤ k) (hn : 0 ≤ n ∧ n ≤ rowsC x.1 - 1) (hcap : y.qlen + 1 ≤ cap) : MpAt x (k + 1, y.addQ n cap) := by
  obtain ⟨h1, h2, h3, h4, h5, h6, h7, h8, h9, h10, h11, h12⟩ := h
  simp only at h1 h2 h3 h4 h5 h6 h7 h8 h9 h10 h11 h12
  refine ⟨h1, h2, h3, h4, h5, h6, h7, h8, by simp only [Pool.addQ, List.length_append, List.length_singleton]; omega, by simp only [Pool.addQ]; omega, by simp only [Pool.addQ]; omega, fun j hj => ?_⟩
  simp only [Pool.addQ, List.length_append, List.length_singleton] at hj ⊢
  by_cases e : j = y.q.length
  · rw [getD_app2 e]; exact hn
  · rw [getD_app1 (by omega)]; exact h12 j (by omega)
theorem mp_end {x : Cfg × Nums} {k : Nat} {y : Pool} (hc : CfgIn x.1) (h : MpAt x (k, y)) (hk : ¬ (k : Int) < rowsC x.1) : MpPost x y := by
  obtain ⟨h1, h2, h3, h4, h5, h6, h7, h8, h9, h10, h11, h12⟩ := h
  simp only at h1 h2 h3 h4 h5 h6 h7 h8 h9 h10 h11 h12
  have hr := rowsC_range hc
  have e : (k : Int) = rowsC x.1 := by omega
  refine ⟨⟨hc, by simp only; omega, by simp only; omega, by simp only; omega, by simp only; omega, h9, by simp only; omega, by simp only; omega⟩, ⟨by simp only [rowsC] at e; omega, by simp only [rowsC] at e; omega, ⟨by omega, fun j hj => h8 j (by omega)⟩, ⟨Nat.le_refl _, h12⟩⟩, by omega, h11⟩
theorem nums_get {x : Nums} (h : NumsOK x) {i : Nat} (hi : (i : Int) < x.len) : I64 (x.l.getD i 0) := by
  have := h.len
  rw [List.getD_eq_getElem?_getD, List.getElem?_eq_getElem (by omega)]
  exact h.i _ (List.getElem_mem _)
structure Shaped (c : Cfg) (l : List (List UInt8)) : Prop where
  n : (l.length : Int) = pagesI c
  all : AllLen l (c.page - 5)
structure ShIn (x : Cfg × Txts) : Prop where
  cfg : CfgOK x.1
  len : (x.2.l.length : Int) = x.2.len
structure ShAt (x : Cfg × Txts) (i : Nat) : Prop where
  le : i ≤ x.2.l.length
  all : ∀ j, j < i → ((x.2.l.getD j []).length : Int) = x.1.page - 5
end Go.PL
set_option linter.unusedSectionVars false
set_option linter.unusedSimpArgs false
set_option linter.unusedVariables false
namespace Go.Eng
variable [CW : CWorld]
open Go.Proofs Go.PL
set_option maxRecDepth 100000
attribute [local irreducible] run
def letSpec : Spec where
  X := Int
  A x := [.int .i64 (.x x)]
  H _ := []
  pre x := PL.I64 x
  outs := [{ Y _ := List UInt8, post _ y := PL.LetPost y, R x y := .str y, H' _ _ := [] }]
def letInv (x : Int) : Code → List SV → List Blk → List Inv := fun b fr hp => [
  { ι := Nat × List UInt8, fr := fun i => only b fr 3 [] [(3, .str i.2), (4, .int .i64 (.x (i.1 : Int)))], hp := fun i => [], μ := fun i => 33 - i.1, ok := fun i => PL.LetAt x i }]
def letInvs (x : Int) : Invs := fun f n => match f, n with
  | 44, 3 => some (letInv x)
  | _, _ => none
def let_vc (ar : AR) (x : letSpec.X) : Prop :=
  (∃ (i : Nat × List UInt8), LetAt x i ∧ x = x ∧ ([] : List UInt8) = [] ∧ [] = i.snd ∧ 0 = (↑i.fst : Int) ∧ True) ∧ ∀ (i : Nat × List UInt8), LetAt x i → ∃ (x_1 : Int × Int), x =
  x_1.fst ∧ 32 = x_1.snd ∧ ModIn x_1 ∧ ∀ (y : Unit), True → (ar.le (↑i.fst : Int) (x_1.fst.emod x_1.snd) → ∀ (z : Int), z = ar.wrap IntKind.i64 (ar.add x (↑i.fst : Int)) → ∃ (x_2 :
  Int × Int), z = x_2.fst ∧ 26 = x_2.snd ∧ ModIn x_2 ∧ ∀ (y : Unit), True → ∀ (z : Int), z = ar.wrap IntKind.i64 (ar.add 97 (x_2.fst.emod x_2.snd)) → ∀ (z_1 : Int), z_1 = ar.wrap
  IntKind.u8 z → ∀ (t : List UInt8), t = ar.bytes [z_1] → ar.le (ar.add (ar.slen i.snd) (ar.slen t)) 9223372036854775807 ∧ ∀ (t_1 : List UInt8), t_1 = ar.sapp i.snd t → ∀ (z :
  Int), z = ar.wrap IntKind.i64 (ar.add (↑i.fst : Int) 1) → ∃ (j : Nat × List UInt8), LetAt x j ∧ (Nat.sub 33 j.fst).lt (Nat.sub 33 i.fst) ∧ x = x ∧ ([] : List UInt8) = [] ∧ t_1 =
  j.snd ∧ z = (↑j.fst : Int) ∧ True) ∧ (¬ar.le (↑i.fst : Int) (x_1.fst.emod x_1.snd) → ∃ (y : List UInt8), LetPost y ∧ i.snd = y ∧ True)
theorem let_eq (ar : AR) (x : letSpec.X) : (run ar PP mdSpecs (letInvs x) 1000 44 (letSpec.H x).length (Tryd.f44.body.getD .skip) (letSpec.A x ++ List.replicate (Tryd.f44.ntmps - (letSpec.A x).length) .any) (letSpec.H x) (endCall ar PP Tryd.f44.results.toList (letSpec.fin x))) = let_vc ar x := by
  kernel_rfl
theorem let_of (h : ∀ x, letSpec.pre x → let_vc ar0 x) : letSpec.OK PP 44 :=
  Spec.ok_of_run (fn := Tryd.f44) (c := Tryd.f44.body.getD .skip) (by kernel_rfl) (by kernel_rfl) (by kernel_rfl) mdSpecs_ok letInvs 1000 (fun x hx => (let_eq ar0 x).mpr (h x hx))
theorem letSpec_ok : letSpec.OK PP 44 := by
  refine let_of fun (x : Int) hx => ?_
  obtain ⟨h1, h2⟩ : PL.I64 x := hx
  unfold let_vc
  simp only [ars, ars2, ars3, ex_pair, true_and, and_true, exists_const, forall_const, forall_eq]
  refine ⟨⟨(0, []), ⟨rfl, by simp only; omega, ⟨fun b hb => by cases hb⟩⟩, by and_intros <;> first | rfl | trivial⟩, ?_⟩
  rintro ⟨k, l⟩ ⟨g1, g2, g3⟩
  simp only at g1 g2 g3 ⊢
  have hm := Int.emod_nonneg x (b := 32) (by omega)
  have hm2 := Int.emod_lt_of_pos x (b := 32) (by omega)
  refine ⟨(x, 32), rfl, rfl, ⟨⟨h1, h2⟩, by simp only; omega⟩, fun hle => ?_, fun hgt => ⟨l, ⟨PL.lets_ok g3 (by have hgt' : ¬ (k : Int) ≤ x % 32 := hgt; omega) (by have hgt' : ¬ (k : Int) ≤ x % 32 := hgt; omega)⟩, rfl⟩⟩
  replace hle : (k : Int) ≤ x % 32 := hle
  obtain ⟨q1, q2⟩ := wrap_range (x + k)
  have hn := Int.emod_nonneg (IntKind.i64.wrap (x + k)) (b := 26) (by omega)
  have hn2 := Int.emod_lt_of_pos (IntKind.i64.wrap (x + k)) (b := 26) (by omega)
  refine ⟨⟨⟨q1, q2⟩, by simp only; omega⟩, ?_⟩
  rw [wrap_i64 (n := 97 + IntKind.i64.wrap (x + k) % 26) (by omega) (by omega), wrap_b8, wrap_i64 (n := (k : Int) + 1) (by omega) (by omega)]
  have hb : ((PL.b8 (97 + IntKind.i64.wrap (x + k) % 26)).toNat : Int) = 97 + IntKind.i64.wrap (x + k) % 26 := by rw [PL.b8_toNat]; omega
  refine ⟨by simp; omega, (k + 1, l ++ [PL.b8 (97 + IntKind.i64.wrap (x + k) % 26)]), ⟨by simp [g1], by simp only; omega, ⟨fun b hb' => ?_⟩⟩, by simp only; omega, rfl, ?_, by simp only; omega⟩
  · rcases List.mem_append.1 hb' with hb' | hb'
    · exact g3.all b hb'
    · have := List.mem_singleton.1 hb'
      subst this
      omega
  · simp
noncomputable def mtSpecs : Specs := fun f xs hp => match f with
  | 44 => some letSpec
  | 45 => some sixSpec
  | _ => mdSpecs f xs hp
theorem mtSpecs_ok : SpecsOK PP mtSpecs := by
  intro CW f xs hp S h
  unfold mtSpecs at h
  split at h
  · cases h; exact letSpec_ok
  · cases h; exact sixSpec_ok
  · exact mdSpecs_ok CW f xs hp S h
def mtSpec : Spec where
  X := Cfg × Nums
  A x := [.agg (cfgL x.1), numsS x.2]
  H _ := []
  pre x := PL.MtIn x
  outs := [{ Y _ := Nods, post x y := PL.MtPost x y, R x y := .agg [.int .i64 (.x x.1.files), .int .i64 (.x x.1.dirs), .slc 0 (.l 0) (.x y.len) (.x y.cap)], H' _ y := [nodsB y] }]
def mtInv (x : Cfg × Nums) : Code → List SV → List Blk → List Inv := fun b fr hp => [
  { ι := Nat × Nods, fr := fun i => only b fr 6 [] [(6, .int .i64 (.x (i.1 : Int)))], hp := fun i => [hp.getD 0 .gone, hp.getD 1 .gone, treeB 3 x.1 i.2.len i.2.cap, nodsB i.2], μ := fun i => (x.1.dirs + x.1.files).toNat - i.1, ok := fun i => PL.MtAt x i }]
def mtInvs (x : Cfg × Nums) : Invs := fun f n => match f, n with
  | 17, 3 => some (mtInv x)
  | _, _ => none
def mt_vc (ar : AR) (x : mtSpec.X) : Prop :=
  (∃ (i : Nat × Nods), MtAt x i ∧ x.fst.slots = x.fst.slots ∧ x.fst.files = x.fst.files ∧ x.fst.dirs = x.fst.dirs ∧ x.fst.most = x.fst.most ∧ x.fst.least = x.fst.least ∧ x.fst.page
  = x.fst.page ∧ x.snd.l = x.snd.l ∧ x.snd.len = x.snd.len ∧ x.snd.cap = x.snd.cap ∧ 0 = (↑i.fst : Int) ∧ x.fst.slots = x.fst.slots ∧ x.fst.files = x.fst.files ∧ x.fst.dirs =
  x.fst.dirs ∧ x.fst.most = x.fst.most ∧ x.fst.least = x.fst.least ∧ x.fst.page = x.fst.page ∧ x.fst.files = x.fst.files ∧ x.fst.dirs = x.fst.dirs ∧ 0 = i.2.len ∧ 0 = i.2.cap ∧
  i.2.cap = 0 ∧ i.2.K = [] ∧ i.2.N = [] ∧ i.2.P = [] ∧ i.2.S = [] ∧ i.2.Z = [] ∧ True) ∧ ∀ (i : Nat × Nods), MtAt x i → ∀ (z : Int), z = ar.wrap IntKind.i64 (ar.add x.fst.dirs
  x.fst.files) → (ar.lt (↑i.fst : Int) z → (ar.lt (↑i.fst : Int) x.snd.len → ar.le 0 (↑i.fst : Int) ∧ ar.lt (↑i.fst : Int) x.snd.len ∧ ∀ (z : Int), z = ar.rem (ar.iget x.snd.l
  (↑i.fst : Int)) 3 → (ar.eq z 0 → ∀ (z : Int), z = ar.wrap IntKind.i64 (ar.add (↑i.fst : Int) 1) → ∃ (j : Nat × Nods), MtAt x j ∧ ((x.fst.dirs.add x.fst.files).toNat.sub j.fst).lt
  ((x.fst.dirs.add x.fst.files).toNat.sub i.fst) ∧ x.fst.slots = x.fst.slots ∧ x.fst.files = x.fst.files ∧ x.fst.dirs = x.fst.dirs ∧ x.fst.most = x.fst.most ∧ x.fst.least =
  x.fst.least ∧ x.fst.page = x.fst.page ∧ x.snd.l = x.snd.l ∧ x.snd.len = x.snd.len ∧ x.snd.cap = x.snd.cap ∧ z = (↑j.fst : Int) ∧ x.fst.slots = x.fst.slots ∧ x.fst.files =
  x.fst.files ∧ x.fst.dirs = x.fst.dirs ∧ x.fst.most = x.fst.most ∧ x.fst.least = x.fst.least ∧ x.fst.page = x.fst.page ∧ x.fst.files = x.fst.files ∧ x.fst.dirs = x.fst.dirs ∧
  i.2.len = j.2.len ∧ i.2.cap = j.2.cap ∧ i.2.cap = j.2.cap ∧ i.2.K = j.2.K ∧ i.2.N = j.2.N ∧ i.2.P = j.2.P ∧ i.2.S = j.2.S ∧ i.2.Z = j.2.Z ∧ True) ∧ (¬ar.eq z 0 → ∀ (z : Int), z =
  ar.wrap IntKind.i64 (ar.add (↑i.fst : Int) 1) → ∀ (z_1 : Int), z_1 = ar.wrap IntKind.i64 (ar.add x.fst.dirs 1) → ∃ (x_1 : Int × Int), ar.iget x.snd.l (↑i.fst : Int) = x_1.fst ∧
  z_1 = x_1.snd ∧ ModIn x_1 ∧ ∀ (y : Unit), True → ∃ (x_2 : Int), ar.iget x.snd.l (↑i.fst : Int) = x_2 ∧ I64 x_2 ∧ ∀ (y : List UInt8), LetPost y → (ar.le x.fst.dirs (↑i.fst : Int)
  → ∀ (z : Int), z = ar.wrap IntKind.i64 (ar.sub (↑i.fst : Int) x.fst.dirs) → ∀ (z_2 : Int), z_2 = ar.wrap IntKind.i64 (ar.add x.fst.most 1) → ∃ (x_3 : Int × Int), ar.iget x.snd.l
  (↑i.fst : Int) = x_3.fst ∧ z_2 = x_3.snd ∧ ModIn x_3 ∧ ∀ (y_1 : Unit), True → ar.le (ar.add 0 i.2.len) (ar.ilen i.2.K) ∧ ar.le (ar.add 0 i.2.len) (ar.ilen i.2.N) ∧ ar.le (ar.add
  0 i.2.len) (ar.ilen i.2.P) ∧ ar.le (ar.add 0 i.2.len) (ar.tlen i.2.S) ∧ ar.le (ar.add 0 i.2.len) (ar.ilen i.2.Z) ∧ i.2.cap = i.2.cap ∧ ar.le (ar.mul (ar.add i.2.len 1) 48)
  140737488355328 ∧ ∀ (c : Int), ar.le (ar.add i.2.len 1) c → ∀ (z_3 : Int), z_3 = ar.wrap IntKind.i64 (ar.add (↑i.fst : Int) 1) → ∃ (j : Nat × Nods), MtAt x j ∧ ((x.fst.dirs.add
  x.fst.files).toNat.sub j.fst).lt ((x.fst.dirs.add x.fst.files).toNat.sub i.fst) ∧ x.fst.slots = x.fst.slots ∧ x.fst.files = x.fst.files ∧ x.fst.dirs = x.fst.dirs ∧ x.fst.most =
  x.fst.most ∧ x.fst.least = x.fst.least ∧ x.fst.page = x.fst.page ∧ x.snd.l = x.snd.l ∧ x.snd.len = x.snd.len ∧ x.snd.cap = x.snd.cap ∧ z_3 = (↑j.fst : Int) ∧ x.fst.slots =
  x.fst.slots ∧ x.fst.files = x.fst.files ∧ x.fst.dirs = x.fst.dirs ∧ x.fst.most = x.fst.most ∧ x.fst.least = x.fst.least ∧ x.fst.page = x.fst.page ∧ x.fst.files = x.fst.files ∧
  x.fst.dirs = x.fst.dirs ∧ ar.add i.2.len 1 = j.2.len ∧ c = j.2.cap ∧ c = j.2.cap ∧ ar.iapp (ar.isub i.2.K 0 i.2.len) [2] = j.2.K ∧ ar.iapp (ar.isub i.2.N 0 i.2.len) [z] = j.2.N ∧
  ar.iapp (ar.isub i.2.P 0 i.2.len) [x_1.fst.emod x_1.snd] = j.2.P ∧ ar.tapp (ar.tsub i.2.S 0 i.2.len) [y] = j.2.S ∧ ar.iapp (ar.isub i.2.Z 0 i.2.len) [x_3.fst.emod x_3.snd] =
  j.2.Z ∧ True) ∧ (¬ar.le x.fst.dirs (↑i.fst : Int) → ar.le (ar.add 0 i.2.len) (ar.ilen i.2.K) ∧ ar.le (ar.add 0 i.2.len) (ar.ilen i.2.N) ∧ ar.le (ar.add 0 i.2.len) (ar.ilen i.2.P)
  ∧ ar.le (ar.add 0 i.2.len) (ar.tlen i.2.S) ∧ ar.le (ar.add 0 i.2.len) (ar.ilen i.2.Z) ∧ i.2.cap = i.2.cap ∧ ar.le (ar.mul (ar.add i.2.len 1) 48) 140737488355328 ∧ ∀ (c : Int),
  ar.le (ar.add i.2.len 1) c → ∀ (z_2 : Int), z_2 = ar.wrap IntKind.i64 (ar.add (↑i.fst : Int) 1) → ∃ (j : Nat × Nods), MtAt x j ∧ ((x.fst.dirs.add x.fst.files).toNat.sub j.fst).lt
  ((x.fst.dirs.add x.fst.files).toNat.sub i.fst) ∧ x.fst.slots = x.fst.slots ∧ x.fst.files = x.fst.files ∧ x.fst.dirs = x.fst.dirs ∧ x.fst.most = x.fst.most ∧ x.fst.least =
  x.fst.least ∧ x.fst.page = x.fst.page ∧ x.snd.l = x.snd.l ∧ x.snd.len = x.snd.len ∧ x.snd.cap = x.snd.cap ∧ z_2 = (↑j.fst : Int) ∧ x.fst.slots = x.fst.slots ∧ x.fst.files =
  x.fst.files ∧ x.fst.dirs = x.fst.dirs ∧ x.fst.most = x.fst.most ∧ x.fst.least = x.fst.least ∧ x.fst.page = x.fst.page ∧ x.fst.files = x.fst.files ∧ x.fst.dirs = x.fst.dirs ∧
  ar.add i.2.len 1 = j.2.len ∧ c = j.2.cap ∧ c = j.2.cap ∧ ar.iapp (ar.isub i.2.K 0 i.2.len) [1] = j.2.K ∧ ar.iapp (ar.isub i.2.N 0 i.2.len) [z] = j.2.N ∧ ar.iapp (ar.isub i.2.P 0
  i.2.len) [x_1.fst.emod x_1.snd] = j.2.P ∧ ar.tapp (ar.tsub i.2.S 0 i.2.len) [y] = j.2.S ∧ ar.iapp (ar.isub i.2.Z 0 i.2.len) [0] = j.2.Z ∧ True))) ∧ (¬ar.lt (↑i.fst : Int)
  x.snd.len → ∃ (y : Nods), MtPost x y ∧ x.fst.files = x.fst.files ∧ x.fst.dirs = x.fst.dirs ∧ i.2.len = y.len ∧ i.2.cap = y.cap ∧ i.2.cap = y.cap ∧ i.2.K = y.K ∧ i.2.N = y.N ∧
  i.2.P = y.P ∧ i.2.S = y.S ∧ i.2.Z = y.Z ∧ True)) ∧ (¬ar.lt (↑i.fst : Int) z → ∃ (y : Nods), MtPost x y ∧ x.fst.files = x.fst.files ∧ x.fst.dirs = x.fst.dirs ∧ i.2.len = y.len ∧
  i.2.cap = y.cap ∧ i.2.cap = y.cap ∧ i.2.K = y.K ∧ i.2.N = y.N ∧ i.2.P = y.P ∧ i.2.S = y.S ∧ i.2.Z = y.Z ∧ True)
theorem mt_eq (ar : AR) (x : mtSpec.X) : (run ar PP mtSpecs (mtInvs x) 1000 17 (mtSpec.H x).length (Tryd.f17.body.getD .skip) (mtSpec.A x ++ List.replicate (Tryd.f17.ntmps - (mtSpec.A x).length) .any) (mtSpec.H x) (endCall ar PP Tryd.f17.results.toList (mtSpec.fin x))) = mt_vc ar x := by
  kernel_rfl
theorem mt_of (h : ∀ x, mtSpec.pre x → mt_vc ar0 x) : mtSpec.OK PP 17 :=
  Spec.ok_of_run (fn := Tryd.f17) (c := Tryd.f17.body.getD .skip) (by kernel_rfl) (by kernel_rfl) (by kernel_rfl) mtSpecs_ok mtInvs 1000 (fun x hx => (mt_eq ar0 x).mpr (h x hx))
theorem ex_intx {a : Int} {Q : Int → Prop} : (∃ y : Int, a = y ∧ Q y) ↔ Q a := ⟨fun ⟨_, h, g⟩ => h ▸ g, fun h => ⟨a, rfl, h⟩⟩
theorem mtSpec_ok : mtSpec.OK PP 17 := by
  refine mt_of fun x hx => ?_
  obtain ⟨c, nm⟩ := x
  obtain ⟨hc, hnm⟩ : PL.MtIn (c, nm) := hx
  simp only at hc hnm
  obtain ⟨c1, c2, c3, c4, c5, c6⟩ := id hc
  unfold mt_vc
  simp only [ars, ars2, ars3, ex_pair, ex_intx, true_and, and_true, exists_const, forall_const, forall_eq, Int.toNat_natCast, Int.zero_add]
  refine ⟨⟨(0, ⟨[], [], [], [], [], 0, 0⟩), ⟨by simp only; omega, ⟨rfl, rfl, rfl, rfl, rfl, by simp⟩, ⟨by simp, fun j hj => by simp at hj, fun j hj => by simp at hj⟩, fun j hj => by simp at hj, by simp, by simp⟩, rfl, rfl, rfl, rfl, rfl, rfl, rfl, rfl, rfl⟩, ?_⟩
  rintro ⟨k, y⟩ hy
  have w0 : IntKind.i64.wrap (c.dirs + c.files) = c.dirs + c.files := wrap_i64 (by omega) (by omega)
  have hle := hy.le
  have hok := hy.ok
  have hcap := hy.cap
  have hfew := hy.few
  simp only at hle hok hcap hfew ⊢
  simp only [w0]
  have fin : ∃ z : Nods, MtPost (c, nm) z ∧ y.len = z.len ∧ y.cap = z.cap ∧ y.cap = z.cap ∧ y.K = z.K ∧ y.N = z.N ∧ y.P = z.P ∧ y.S = z.S ∧ y.Z = z.Z :=
    ⟨y, ⟨hok, ⟨rfl, rfl, hy.fits⟩, hcap, by simp only; omega⟩, rfl, rfl, rfl, rfl, rfl, rfl, rfl, rfl⟩
  have w1 : IntKind.i64.wrap ((k : Int) + 1) = k + 1 := wrap_i64 (by omega) (by omega)
  have w2 : IntKind.i64.wrap (c.dirs + 1) = c.dirs + 1 := wrap_i64 (by omega) (by omega)
  have w3 : IntKind.i64.wrap ((k : Int) - c.dirs) = k - c.dirs := wrap_i64 (by omega) (by omega)
  have w4 : IntKind.i64.wrap (c.most + 1) = c.most + 1 := wrap_i64 (by omega) (by omega)
  simp only [w1, w2, w3, w4]
  have hmu : (k : Int) < c.dirs + c.files → (c.dirs + c.files).toNat - (k + 1) < (c.dirs + c.files).toNat - k := fun h => by omega
  refine ⟨fun hk => ⟨fun hl => ⟨by omega, hl, fun _ => ⟨(k + 1, y), PL.skip_step hc hy hk, hmu hk, by simp only; omega, rfl, rfl, rfl, rfl, rfl, rfl, rfl, rfl⟩, fun _ => ?_⟩, fun _ => fin⟩, fun _ => fin⟩
  obtain ⟨q1, q2⟩ := PL.nums_get hnm hl
  generalize nm.l.getD k 0 = n at q1 q2
  obtain ⟨kK, kN, kP, kS, kZ, kC⟩ := id hok
  have p0 := Int.emod_nonneg n (b := c.dirs + 1) (by omega)
  have p1 := Int.emod_lt_of_pos n (b := c.dirs + 1) (by omega)
  have m0 := Int.emod_nonneg n (b := c.most + 1) (by omega)
  have m1 := Int.emod_lt_of_pos n (b := c.most + 1) (by omega)
  simp only [kK, kN, kP, kS, kZ, dropz kK, dropz kN, dropz kP, dropz kS, dropz kZ, Int.le_refl, true_and]
  refine ⟨⟨⟨q1, q2⟩, by simp only; omega⟩, ⟨q1, q2⟩, fun s hs => ⟨fun hd => ⟨⟨⟨q1, q2⟩, by simp only; omega⟩, by omega, fun c' hc' => ?_⟩, fun hd => ⟨by omega, fun c' hc' => ?_⟩⟩⟩
  · refine ⟨(k + 1, y.snoc ⟨2, (k : Int) - c.dirs, n % (c.dirs + 1), s, n % (c.most + 1)⟩ c'), PL.snoc_step hc hy hk ⟨by simp only; omega, hs.ok, .inr ⟨rfl, ⟨by simp only; omega, by simp only; omega⟩, by simp only; omega, by simp only; omega⟩⟩ ?_ hc', hmu hk, by simp only; omega, rfl, rfl, rfl, rfl, rfl, rfl, rfl, rfl⟩
    simp only [key, keyR, kndR, nmbR]
    rw [if_neg (by omega), if_neg (by omega)]
  · refine ⟨(k + 1, y.snoc ⟨1, (k : Int) + 1, n % (c.dirs + 1), s, 0⟩ c'), PL.snoc_step hc hy hk ⟨by simp only; omega, hs.ok, .inl ⟨rfl, ⟨by simp only; omega, by simp only; omega⟩, rfl⟩⟩ ?_ hc', hmu hk, by simp only; omega, rfl, rfl, rfl, rfl, rfl, rfl, rfl, rfl⟩
    simp only [key, keyR, kndR, nmbR]
    rw [if_pos (by omega), if_pos (by omega)]
def mpSpec : Spec where
  X := Cfg × Nums
  A x := [.agg (cfgL x.1), numsS x.2]
  H _ := []
  pre x := PL.MtIn x
  outs := [{ Y _ := Pool, post x y := PL.MpPost x y, R x y := .agg [.slc 0 (.l 0) (.x y.objs.len) (.x y.objs.cap), .slc 1 (.l 0) (.x y.qlen) (.x y.qcap)], H' _ y := [objsB y.objs, qB y.q y.qcap] }]
def mpInv (x : Cfg × Nums) : Code → List SV → List Blk → List Inv := fun b fr hp => [
  { ι := Nat × Pool, fr := fun i => only b fr 6 [] [(6, .int .i64 (.x (i.1 : Int)))], hp := fun i => [hp.getD 0 .gone, hp.getD 1 .gone, poolB (.slc 3 (.l 0) (.x i.2.objs.len) (.x i.2.objs.cap)) (.slc 4 (.l 0) (.x i.2.qlen) (.x i.2.qcap)), objsB i.2.objs, qB i.2.q i.2.qcap], μ := fun i => (rowsC x.1).toNat - i.1, ok := fun i => PL.MpAt x i }]
def mpInvs (x : Cfg × Nums) : Invs := fun f n => match f, n with
  | 18, 3 => some (mpInv x)
  | _, _ => none
def mp_vc (ar : AR) (x : mpSpec.X) : Prop :=
  (∃ (i : Nat × Pool), MpAt x i ∧ x.fst.slots = x.fst.slots ∧ x.fst.files = x.fst.files ∧ x.fst.dirs = x.fst.dirs ∧ x.fst.most = x.fst.most ∧ x.fst.least = x.fst.least ∧ x.fst.page
  = x.fst.page ∧ x.snd.l = x.snd.l ∧ x.snd.len = x.snd.len ∧ x.snd.cap = x.snd.cap ∧ 0 = (↑i.fst : Int) ∧ x.fst.slots = x.fst.slots ∧ x.fst.files = x.fst.files ∧ x.fst.dirs =
  x.fst.dirs ∧ x.fst.most = x.fst.most ∧ x.fst.least = x.fst.least ∧ x.fst.page = x.fst.page ∧ 0 = i.snd.objs.len ∧ 0 = i.snd.objs.cap ∧ 0 = i.2.qlen ∧ 0 = i.2.qcap ∧
  i.snd.objs.cap = 0 ∧ i.snd.objs.N = [] ∧ i.snd.objs.T = [] ∧ i.snd.objs.B = [] ∧ i.snd.objs.O = [] ∧ i.2.qcap = 0 ∧ i.2.q = [] ∧ True) ∧ ∀ (i : Nat × Pool), MpAt x i → ∀ (z :
  Int), z = ar.wrap IntKind.i64 (ar.add x.fst.files x.fst.slots) → (ar.lt (↑i.fst : Int) z → (ar.lt 0 x.snd.len → ¬ar.eq x.snd.len 0 ∧ ∀ (z : Int), z = ar.rem (↑i.fst : Int)
  x.snd.len → ar.le 0 z ∧ ar.lt z x.snd.len ∧ ∀ (z_1 : Int), z_1 = ar.wrap IntKind.i64 (ar.quo (ar.iget x.snd.l z) 7) → ∀ (z_2 : Int), z_2 = ar.wrap IntKind.i64 (ar.add x.fst.files
  1) → ∃ (x_1 : Int), ar.iget x.snd.l z = x_1 ∧ I64 x_1 ∧ ∀ (y : List UInt8), Len16 y → ∃ (x_2 : Int), z_1 = x_2 ∧ I64 x_2 ∧ ∀ (y_1 : List UInt8), Len16 y_1 → ∃ (x_3 : Int × Int),
  ar.iget x.snd.l z = x_3.fst ∧ 1048577 = x_3.snd ∧ ModIn x_3 ∧ ∀ (y_2 : Unit), True → ∃ (x_4 : Int × Int), ar.iget x.snd.l z = x_4.fst ∧ z_2 = x_4.snd ∧ ModIn x_4 ∧ ∀ (y_3 :
  Unit), True → ∀ (z_3 : Int), z_3 = ar.wrap IntKind.i64 (ar.sub (x_4.fst.emod x_4.snd) 1) → ar.le (ar.add 0 i.snd.objs.len) (ar.tlen i.snd.objs.N) ∧ ar.le (ar.add 0
  i.snd.objs.len) (ar.tlen i.snd.objs.T) ∧ ar.le (ar.add 0 i.snd.objs.len) (ar.ilen i.snd.objs.B) ∧ ar.le (ar.add 0 i.snd.objs.len) (ar.ilen i.snd.objs.O) ∧ i.snd.objs.cap =
  i.snd.objs.cap ∧ ar.le (ar.mul (ar.add i.snd.objs.len 1) 48) 140737488355328 ∧ ∀ (c : Int), ar.le (ar.add i.snd.objs.len 1) c → ∀ (z_4 : Int), z_4 = ar.rem (ar.iget x.snd.l z) 2
  → (ar.eq z_4 0 → ∀ (z_5 : Int), z_5 = ar.wrap IntKind.i64 (ar.add x.fst.files x.fst.slots) → ∃ (x_5 : Int × Int), ar.iget x.snd.l z = x_5.fst ∧ z_5 = x_5.snd ∧ ModIn x_5 ∧ ∀ (y_4
  : Unit), True → ar.le (ar.add 0 i.2.qlen) (ar.ilen i.2.q) ∧ i.2.qcap = i.2.qcap ∧ ar.le (ar.mul (ar.add i.2.qlen 1) 8) 140737488355328 ∧ ∀ (c_1 : Int), ar.le (ar.add i.2.qlen 1)
  c_1 → ∀ (z : Int), z = ar.wrap IntKind.i64 (ar.add (↑i.fst : Int) 1) → ∃ (j : Nat × Pool), MpAt x j ∧ ((rowsC x.fst).toNat.sub j.fst).lt ((rowsC x.fst).toNat.sub i.fst) ∧
  x.fst.slots = x.fst.slots ∧ x.fst.files = x.fst.files ∧ x.fst.dirs = x.fst.dirs ∧ x.fst.most = x.fst.most ∧ x.fst.least = x.fst.least ∧ x.fst.page = x.fst.page ∧ x.snd.l =
  x.snd.l ∧ x.snd.len = x.snd.len ∧ x.snd.cap = x.snd.cap ∧ z = (↑j.fst : Int) ∧ x.fst.slots = x.fst.slots ∧ x.fst.files = x.fst.files ∧ x.fst.dirs = x.fst.dirs ∧ x.fst.most =
  x.fst.most ∧ x.fst.least = x.fst.least ∧ x.fst.page = x.fst.page ∧ ar.add i.snd.objs.len 1 = j.snd.objs.len ∧ c = j.snd.objs.cap ∧ ar.add i.2.qlen 1 = j.2.qlen ∧ c_1 = j.2.qcap ∧
  c = j.snd.objs.cap ∧ ar.tapp (ar.tsub i.snd.objs.N 0 i.snd.objs.len) [y] = j.snd.objs.N ∧ ar.tapp (ar.tsub i.snd.objs.T 0 i.snd.objs.len) [y_1] = j.snd.objs.T ∧ ar.iapp (ar.isub
  i.snd.objs.B 0 i.snd.objs.len) [x_3.fst.emod x_3.snd] = j.snd.objs.B ∧ ar.iapp (ar.isub i.snd.objs.O 0 i.snd.objs.len) [z_3] = j.snd.objs.O ∧ c_1 = j.2.qcap ∧ ar.iapp (ar.isub
  i.2.q 0 i.2.qlen) [x_5.fst.emod x_5.snd] = j.2.q ∧ True) ∧ (¬ar.eq z_4 0 → ∀ (z : Int), z = ar.wrap IntKind.i64 (ar.add (↑i.fst : Int) 1) → ∃ (j : Nat × Pool), MpAt x j ∧ ((rowsC
  x.fst).toNat.sub j.fst).lt ((rowsC x.fst).toNat.sub i.fst) ∧ x.fst.slots = x.fst.slots ∧ x.fst.files = x.fst.files ∧ x.fst.dirs = x.fst.dirs ∧ x.fst.most = x.fst.most ∧
  x.fst.least = x.fst.least ∧ x.fst.page = x.fst.page ∧ x.snd.l = x.snd.l ∧ x.snd.len = x.snd.len ∧ x.snd.cap = x.snd.cap ∧ z = (↑j.fst : Int) ∧ x.fst.slots = x.fst.slots ∧
  x.fst.files = x.fst.files ∧ x.fst.dirs = x.fst.dirs ∧ x.fst.most = x.fst.most ∧ x.fst.least = x.fst.least ∧ x.fst.page = x.fst.page ∧ ar.add i.snd.objs.len 1 = j.snd.objs.len ∧ c
  = j.snd.objs.cap ∧ i.2.qlen = j.2.qlen ∧ i.2.qcap = j.2.qcap ∧ c = j.snd.objs.cap ∧ ar.tapp (ar.tsub i.snd.objs.N 0 i.snd.objs.len) [y] = j.snd.objs.N ∧ ar.tapp (ar.tsub
  i.snd.objs.T 0 i.snd.objs.len) [y_1] = j.snd.objs.T ∧ ar.iapp (ar.isub i.snd.objs.B 0 i.snd.objs.len) [x_3.fst.emod x_3.snd] = j.snd.objs.B ∧ ar.iapp (ar.isub i.snd.objs.O 0
  i.snd.objs.len) [z_3] = j.snd.objs.O ∧ i.2.qcap = j.2.qcap ∧ i.2.q = j.2.q ∧ True)) ∧ (¬ar.lt 0 x.snd.len → ∀ (z : Int), z = ar.wrap IntKind.i64 (ar.quo (↑i.fst : Int) 7) → ∀
  (z_1 : Int), z_1 = ar.wrap IntKind.i64 (ar.add x.fst.files 1) → ∃ (x_1 : Int), (↑i.fst : Int) = x_1 ∧ I64 x_1 ∧ ∀ (y : List UInt8), Len16 y → ∃ (x_2 : Int), z = x_2 ∧ I64 x_2 ∧ ∀
  (y_1 : List UInt8), Len16 y_1 → ∃ (x_3 : Int × Int), (↑i.fst : Int) = x_3.fst ∧ 1048577 = x_3.snd ∧ ModIn x_3 ∧ ∀ (y_2 : Unit), True → ∃ (x_4 : Int × Int), (↑i.fst : Int) =
  x_4.fst ∧ z_1 = x_4.snd ∧ ModIn x_4 ∧ ∀ (y_3 : Unit), True → ∀ (z : Int), z = ar.wrap IntKind.i64 (ar.sub (x_4.fst.emod x_4.snd) 1) → ar.le (ar.add 0 i.snd.objs.len) (ar.tlen
  i.snd.objs.N) ∧ ar.le (ar.add 0 i.snd.objs.len) (ar.tlen i.snd.objs.T) ∧ ar.le (ar.add 0 i.snd.objs.len) (ar.ilen i.snd.objs.B) ∧ ar.le (ar.add 0 i.snd.objs.len) (ar.ilen
  i.snd.objs.O) ∧ i.snd.objs.cap = i.snd.objs.cap ∧ ar.le (ar.mul (ar.add i.snd.objs.len 1) 48) 140737488355328 ∧ ∀ (c : Int), ar.le (ar.add i.snd.objs.len 1) c → ∀ (z_2 : Int),
  z_2 = ar.rem (↑i.fst : Int) 2 → (ar.eq z_2 0 → ∀ (z_3 : Int), z_3 = ar.wrap IntKind.i64 (ar.add x.fst.files x.fst.slots) → ∃ (x_5 : Int × Int), (↑i.fst : Int) = x_5.fst ∧ z_3 =
  x_5.snd ∧ ModIn x_5 ∧ ∀ (y_4 : Unit), True → ar.le (ar.add 0 i.2.qlen) (ar.ilen i.2.q) ∧ i.2.qcap = i.2.qcap ∧ ar.le (ar.mul (ar.add i.2.qlen 1) 8) 140737488355328 ∧ ∀ (c_1 :
  Int), ar.le (ar.add i.2.qlen 1) c_1 → ∀ (z_4 : Int), z_4 = ar.wrap IntKind.i64 (ar.add (↑i.fst : Int) 1) → ∃ (j : Nat × Pool), MpAt x j ∧ ((rowsC x.fst).toNat.sub j.fst).lt
  ((rowsC x.fst).toNat.sub i.fst) ∧ x.fst.slots = x.fst.slots ∧ x.fst.files = x.fst.files ∧ x.fst.dirs = x.fst.dirs ∧ x.fst.most = x.fst.most ∧ x.fst.least = x.fst.least ∧
  x.fst.page = x.fst.page ∧ x.snd.l = x.snd.l ∧ x.snd.len = x.snd.len ∧ x.snd.cap = x.snd.cap ∧ z_4 = (↑j.fst : Int) ∧ x.fst.slots = x.fst.slots ∧ x.fst.files = x.fst.files ∧
  x.fst.dirs = x.fst.dirs ∧ x.fst.most = x.fst.most ∧ x.fst.least = x.fst.least ∧ x.fst.page = x.fst.page ∧ ar.add i.snd.objs.len 1 = j.snd.objs.len ∧ c = j.snd.objs.cap ∧ ar.add
  i.2.qlen 1 = j.2.qlen ∧ c_1 = j.2.qcap ∧ c = j.snd.objs.cap ∧ ar.tapp (ar.tsub i.snd.objs.N 0 i.snd.objs.len) [y] = j.snd.objs.N ∧ ar.tapp (ar.tsub i.snd.objs.T 0 i.snd.objs.len)
  [y_1] = j.snd.objs.T ∧ ar.iapp (ar.isub i.snd.objs.B 0 i.snd.objs.len) [x_3.fst.emod x_3.snd] = j.snd.objs.B ∧ ar.iapp (ar.isub i.snd.objs.O 0 i.snd.objs.len) [z] = j.snd.objs.O
  ∧ c_1 = j.2.qcap ∧ ar.iapp (ar.isub i.2.q 0 i.2.qlen) [x_5.fst.emod x_5.snd] = j.2.q ∧ True) ∧ (¬ar.eq z_2 0 → ∀ (z_3 : Int), z_3 = ar.wrap IntKind.i64 (ar.add (↑i.fst : Int) 1)
  → ∃ (j : Nat × Pool), MpAt x j ∧ ((rowsC x.fst).toNat.sub j.fst).lt ((rowsC x.fst).toNat.sub i.fst) ∧ x.fst.slots = x.fst.slots ∧ x.fst.files = x.fst.files ∧ x.fst.dirs =
  x.fst.dirs ∧ x.fst.most = x.fst.most ∧ x.fst.least = x.fst.least ∧ x.fst.page = x.fst.page ∧ x.snd.l = x.snd.l ∧ x.snd.len = x.snd.len ∧ x.snd.cap = x.snd.cap ∧ z_3 = (↑j.fst :
  Int) ∧ x.fst.slots = x.fst.slots ∧ x.fst.files = x.fst.files ∧ x.fst.dirs = x.fst.dirs ∧ x.fst.most = x.fst.most ∧ x.fst.least = x.fst.least ∧ x.fst.page = x.fst.page ∧ ar.add
  i.snd.objs.len 1 = j.snd.objs.len ∧ c = j.snd.objs.cap ∧ i.2.qlen = j.2.qlen ∧ i.2.qcap = j.2.qcap ∧ c = j.snd.objs.cap ∧ ar.tapp (ar.tsub i.snd.objs.N 0 i.snd.objs.len) [y] =
  j.snd.objs.N ∧ ar.tapp (ar.tsub i.snd.objs.T 0 i.snd.objs.len) [y_1] = j.snd.objs.T ∧ ar.iapp (ar.isub i.snd.objs.B 0 i.snd.objs.len) [x_3.fst.emod x_3.snd] = j.snd.objs.B ∧
  ar.iapp (ar.isub i.snd.objs.O 0 i.snd.objs.len) [z] = j.snd.objs.O ∧ i.2.qcap = j.2.qcap ∧ i.2.q = j.2.q ∧ True))) ∧ (¬ar.lt (↑i.fst : Int) z → ∃ (y : Pool), MpPost x y ∧
  i.snd.objs.len = y.1.len ∧ i.snd.objs.cap = y.1.cap ∧ i.2.qlen = y.qlen ∧ i.2.qcap = y.qcap ∧ i.snd.objs.cap = y.1.cap ∧ i.snd.objs.N = y.1.N ∧ i.snd.objs.T = y.1.T ∧
  i.snd.objs.B = y.1.B ∧ i.snd.objs.O = y.1.O ∧ i.2.qcap = y.qcap ∧ i.2.q = y.q ∧ True)
theorem mp_eq (ar : AR) (x : mpSpec.X) : (run ar PP mtSpecs (mpInvs x) 1000 18 (mpSpec.H x).length (Tryd.f18.body.getD .skip) (mpSpec.A x ++ List.replicate (Tryd.f18.ntmps - (mpSpec.A x).length) .any) (mpSpec.H x) (endCall ar PP Tryd.f18.results.toList (mpSpec.fin x))) = mp_vc ar x := by
  kernel_rfl
theorem mp_of (h : ∀ x, mpSpec.pre x → mp_vc ar0 x) : mpSpec.OK PP 18 :=
  Spec.ok_of_run (fn := Tryd.f18) (c := Tryd.f18.body.getD .skip) (by kernel_rfl) (by kernel_rfl) (by kernel_rfl) mtSpecs_ok mpInvs 1000 (fun x hx => (mp_eq ar0 x).mpr (h x hx))
theorem mpSpec_ok : mpSpec.OK PP 18 := by
  refine mp_of fun x hx => ?_
  obtain ⟨c, nm⟩ := x
  obtain ⟨hc, hnm⟩ : PL.MtIn (c, nm) := hx
  simp only at hc hnm
  obtain ⟨c1, c2, c3, c4, c5, c6⟩ := id hc
  have hr := rowsC_range hc
  have hrc : c.files + c.slots = rowsC c := rfl
  unfold mp_vc
  simp only [ars, ars2, ars3, ex_pair, ex_intx, true_and, and_true, exists_const, forall_const, forall_eq, Int.toNat_natCast, Int.zero_add]
  refine ⟨⟨(0, ⟨⟨[], [], [], [], 0, 0⟩, [], 0, 0⟩), ⟨by simp only; omega, rfl, rfl, rfl, rfl, rfl, by simp, fun j hj => by simp at hj, rfl, by simp, by simp, fun j hj => by simp at hj⟩, rfl, rfl, rfl, rfl, rfl, rfl, rfl, rfl, rfl, rfl, rfl, rfl⟩, ?_⟩
  rintro ⟨k, y⟩ hy
  obtain ⟨g1, g2, g3, g4, g5, g6, g7, g8, g9, g10, g11, g12⟩ := id hy
  simp only at g1 g2 g3 g4 g5 g6 g7 g8 g9 g10 g11 g12 ⊢
  have w0 : IntKind.i64.wrap (c.files + c.slots) = rowsC c := wrap_i64 (by omega) (by omega)
  have w1 : IntKind.i64.wrap ((k : Int) + 1) = k + 1 := wrap_i64 (by omega) (by omega)
  have w2 : IntKind.i64.wrap (c.files + 1) = c.files + 1 := wrap_i64 (by omega) (by omega)
  simp only [w0, w1, w2]
  have hmu : (k : Int) < rowsC c → (rowsC c).toNat - (k + 1) < (rowsC c).toNat - k := fun h => by omega
  have kN : (y.objs.N.length : Int) = y.objs.len := by omega
  have kT : (y.objs.T.length : Int) = y.objs.len := by omega
  have kB : (y.objs.B.length : Int) = y.objs.len := by omega
  have kO : (y.objs.O.length : Int) = y.objs.len := by omega
  simp only [kN, kT, kB, kO, g9, dropz kN, dropz kT, dropz kB, dropz kO, dropz g9, Int.le_refl, true_and]
  have step : ∀ n : Int, PL.I64 n → (k : Int) < rowsC c → ∀ (a b : List UInt8), PL.Len16 a → PL.Len16 b →
      ModIn (n, 1048577) ∧ ModIn (n, c.files + 1) ∧ IntKind.i64.wrap (n % (c.files + 1) - 1) = n % (c.files + 1) - 1 ∧ (y.objs.len + 1) * 48 ≤ 140737488355328 ∧ ModIn (n, rowsC c) ∧ (y.qlen + 1) * 8 ≤ 140737488355328 ∧
      (∀ c1 : Int, y.objs.len + 1 ≤ c1 → MpAt (c, nm) (k + 1, y.addO a b (n % 1048577) (n % (c.files + 1) - 1) c1) ∧ ∀ c2 : Int, y.qlen + 1 ≤ c2 → MpAt (c, nm) (k + 1, (y.addO a b (n % 1048577) (n % (c.files + 1) - 1) c1).addQ (n % rowsC c) c2)) := fun n hn hk a b ha hb => by
    obtain ⟨q1, q2⟩ := hn
    have p0 := Int.emod_nonneg n (b := 1048577) (by omega)
    have p1 := Int.emod_lt_of_pos n (b := 1048577) (by omega)
    have m0 := Int.emod_nonneg n (b := c.files + 1) (by omega)
    have m1 := Int.emod_lt_of_pos n (b := c.files + 1) (by omega)
    have r0 := Int.emod_nonneg n (b := rowsC c) (by omega)
    have r1 := Int.emod_lt_of_pos n (b := rowsC c) (by omega)
    refine ⟨⟨⟨q1, q2⟩, by simp only; omega⟩, ⟨⟨q1, q2⟩, by simp only; omega⟩, wrap_i64 (by omega) (by omega), by omega, ⟨⟨q1, q2⟩, by simp only; omega⟩, by omega, fun c1 hc1 => ?_⟩
    have h1 := PL.mp_o (cap := c1) hy hk ha.len hb.len (bk := n % 1048577) ⟨by omega, by omega⟩ (o := n % (c.files + 1) - 1) ⟨by omega, by simp only; omega⟩ (by omega)
    exact ⟨h1, fun c2 hc2 => PL.mp_q h1 g10 ⟨r0, by simp only; omega⟩ hc2⟩
  refine ⟨fun hk => ⟨fun hl => ?_, fun hl => ?_⟩, fun hk => ⟨y, PL.mp_end hc hy hk, rfl, rfl, rfl, rfl, rfl, rfl, rfl, rfl, rfl, rfl, rfl⟩⟩
  · have hm := Int.tmod_lt_of_pos (k : Int) hl
    have hm0 := Int.tmod_nonneg nm.len (Int.natCast_nonneg k)
    obtain ⟨q1, q2⟩ := PL.nums_get hnm (i := ((k : Int).tmod nm.len).toNat) (by omega)
    refine ⟨by omega, hm0, hm, ?_⟩
    generalize nm.l.getD ((k : Int).tmod nm.len).toNat 0 = n at q1 q2
    refine ⟨⟨q1, q2⟩, fun a ha => ⟨wrap_range _, fun b hb => ?_⟩⟩
    obtain ⟨s1, s2, s3, s4, s5, s6, s7⟩ := step n ⟨q1, q2⟩ hk a b ha hb
    simp only [s3]
    exact ⟨s1, s2, s4, fun c1 hc1 => ⟨fun _ => ⟨s5, s6, fun c2 hc2 => ⟨(k + 1, _), (s7 c1 hc1).2 c2 hc2, hmu hk, by simp only; omega, rfl, rfl, rfl, rfl, rfl, rfl, rfl, rfl, rfl, rfl, rfl⟩⟩, fun _ => ⟨(k + 1, _), (s7 c1 hc1).1, hmu hk, by simp only; omega, rfl, rfl, rfl, rfl, rfl, rfl, rfl, rfl, rfl, rfl, rfl⟩⟩⟩
  · refine ⟨⟨by omega, by omega⟩, fun a ha => ⟨wrap_range _, fun b hb => ?_⟩⟩
    obtain ⟨s1, s2, s3, s4, s5, s6, s7⟩ := step k ⟨by omega, by omega⟩ hk a b ha hb
    simp only [s3]
    exact ⟨s1, s2, s4, fun c1 hc1 => ⟨fun _ => ⟨s5, s6, fun c2 hc2 => ⟨(k + 1, _), (s7 c1 hc1).2 c2 hc2, hmu hk, by simp only; omega, rfl, rfl, rfl, rfl, rfl, rfl, rfl, rfl, rfl, rfl, rfl⟩⟩, fun _ => ⟨(k + 1, _), (s7 c1 hc1).1, hmu hk, by simp only; omega, rfl, rfl, rfl, rfl, rfl, rfl, rfl, rfl, rfl, rfl, rfl⟩⟩⟩
end Go.Eng
namespace Go.PL
theorem sg_app_r {A B : List UInt8} {a n m : Nat} (h : A.length = m) : sg (A ++ B) (m + a) n = sg B a n := by
  subst h
  simp only [sg, ← List.drop_drop, List.drop_left]
theorem sg_app_l {A B : List UInt8} {n : Nat} (h : A.length = n) : sg (A ++ B) 0 n = A := by
  subst h; simp [sg]
theorem sg_sg {l : List UInt8} {o w a n : Nat} (h : a + n ≤ w) : sg (sg l o w) a n = sg l (o + a) n := by
  simp only [sg, List.drop_take, List.take_take, List.drop_drop]
  rw [show min n (w - a) = n by omega]
theorem read_row {m : RImg} {k : Nat} {n : Nod} (hk : m.k = (k : Int)) (hn : RowIn n) (hkd : n.kind = 1 ∨ n.kind = 2) (hs : sg m.l k (rsz n.kind).toNat = rowS n) :
    ¬ fstB m = 0 ∧ rdP m = n.parent ∧ rdS m = n.name ∧ rdZ m n.kind = n.size ∨ ¬ (n.kind = 2 ∨ n.size = 0) := by
  by_cases hsz : n.kind = 2 ∨ n.size = 0
  · left
    obtain ⟨h1, h2, h3⟩ := hn
    have hw : 36 ≤ (rsz n.kind).toNat := by rcases hkd with h | h <;> rw [h] <;> decide
    have d : ∀ a b : Nat, a + b ≤ 36 → dropk m.l (m.k + (a : Int)) (b : Int) = sg (rowS n) a b := fun a b hab => by
      rw [← hs, sg_sg (by omega), hk]
      simp only [dropk, sg, Int.toNat_natCast, show ((k : Int) + (a : Int)).toNat = k + a by omega]
    have E : rowS n = [1] ++ (big n.parent 2 ++ (big (n.name.length : Int) 1 ++ (n.name ++ (zs (32 - n.name.length) ++ (if n.kind = 2 then big n.size 4 else []))))) := by
      simp only [rowS, rowA, List.append_assoc, List.cons_append, List.nil_append]
    have d0 : dropk m.l m.k 1 = [1] := by
      have := d 0 1 (by omega)
      simp only [Int.natCast_zero, Int.add_zero] at this
      rw [show ((1 : Nat) : Int) = 1 from rfl] at this
      rw [this, E]
      exact sg_app_l (A := [1]) rfl
    have d1 : dropk m.l (m.k + 1) 2 = big n.parent 2 := by
      have := d 1 2 (by omega)
      rw [show ((1 : Nat) : Int) = 1 from rfl, show ((2 : Nat) : Int) = 2 from rfl] at this
      rw [this, E]
      exact (sg_app_r (A := [1]) (m := 1) (a := 0) rfl).trans (sg_app_l (big_length _ _))
    have d3 : dropk m.l (m.k + 3) 1 = big (n.name.length : Int) 1 := by
      have := d 3 1 (by omega)
      rw [show ((3 : Nat) : Int) = 3 from rfl, show ((1 : Nat) : Int) = 1 from rfl] at this
      rw [this, E]
      exact (sg_app_r (A := [1]) (m := 1) (a := 2) rfl).trans ((sg_app_r (m := 2) (a := 0) (big_length _ _)).trans (sg_app_l (big_length _ _)))
    have d4 : dropk m.l (m.k + 4) n.name.length = n.name := by
      have := d 4 n.name.length (by omega)
      rw [show ((4 : Nat) : Int) = 4 from rfl] at this
      rw [this, E]
      exact (sg_app_r (A := [1]) (m := 1) (a := 3) rfl).trans ((sg_app_r (m := 2) (a := 1) (big_length _ _)).trans ((sg_app_r (m := 1) (a := 0) (big_length _ _)).trans (sg_app_l rfl)))
    have f1 : fstB m = 1 := by unfold fstB; rw [d0]; decide
    have fl : lngB m = n.name.length := by unfold lngB; rw [d3, numB_big 1 _ (by omega) (by omega)]
    have hf : ¬ fstB m = 0 := by omega
    refine ⟨hf, ?_, ?_, ?_⟩
    · unfold rdP
      rw [if_neg hf, d1, numB_big 2 _ (by omega) (by omega)]
    · unfold rdS
      rw [if_neg hf, lngC, if_neg (by omega), fl]
      exact d4
    · unfold rdZ
      rw [if_neg hf]
      by_cases h2' : n.kind = 2
      · rw [if_pos h2']
        have hr : (rsz n.kind).toNat = 40 := by rw [h2']; decide
        have : dropk m.l (m.k + 36) 4 = sg (rowS n) 36 4 := by
          rw [← hs, sg_sg (by omega), hk]
          simp only [dropk, sg, show ((k : Int) + 36).toNat = k + 36 by omega, show (4 : Int).toNat = 4 from rfl]
        rw [this, rowS, if_pos h2', show 36 = 36 + 0 from rfl, sg_app_r (rowA_length ⟨h1, h2, h3⟩)]
        have e : big n.size 4 = big n.size 4 ++ [] := by simp
        rw [e, sg_app_l (big_length _ _), numB_big 4 _ (by omega) (by omega)]
      · rw [if_neg h2']
        rcases hsz with h | h
        · exact absurd h h2'
        · exact h.symm
  · exact .inr hsz
theorem node_row {c : Cfg} {n : Nod} (hc : CfgIn c) (h : NodeOK c n) : RowIn n ∧ (n.kind = 1 ∨ n.kind = 2) ∧ (n.kind = 2 ∨ n.size = 0) := by
  have := (node_key hc h).2
  have h3 := h.rest
  exact ⟨this, by omega, by omega⟩
theorem dirs_sg {c : Cfg} {t : Tree} (hc : CfgIn c) (h : TreeOK c t) : ∀ (K k : Nat) (r : List UInt8), (K : Int) ≤ 65536 → k < K → sg (dirsS t.nods K ++ r) (36 * k) 36 = slot t.nods (1000001 + (k : Int)) 36 := by
  intro K
  induction K with
  | zero => intro k r _ hk; omega
  | succ K ih =>
    intro k r hK hk
    rw [dirsS]
    by_cases e : k = K
    · subst e
      rw [List.append_assoc]
      have h1 := dirsS_len hc h k (by omega)
      have h2 := sg_app_r (B := slot t.nods (1000001 + (k : Int)) 36 ++ r) (a := 0) (n := 36) h1
      rw [Nat.add_zero] at h2
      rw [h2, sg_app_l (slot_len1 hc h (by omega))]
    · rw [List.append_assoc]
      exact ih k _ (by omega) (by omega)
theorem files_sg {c : Cfg} {t : Tree} (hc : CfgIn c) (h : TreeOK c t) : ∀ (K k : Nat) (r : List UInt8), (K : Int) ≤ 65536 → k < K → sg (filesS t.nods K ++ r) (40 * k) 40 = slot t.nods (2000000 + (k : Int)) 40 := by
  intro K
  induction K with
  | zero => intro k r _ hk; omega
  | succ K ih =>
    intro k r hK hk
    rw [filesS]
    by_cases e : k = K
    · subst e
      rw [List.append_assoc]
      have h1 := filesS_len hc h k (by omega)
      have h2 := sg_app_r (B := slot t.nods (2000000 + (k : Int)) 40 ++ r) (a := 0) (n := 40) h1
      rw [Nat.add_zero] at h2
      rw [h2, sg_app_l (slot_len2 hc h (by omega))]
    · rw [List.append_assoc]
      exact ih k _ (by omega) (by omega)
theorem objs_sg {c : Cfg} {y : Objs} {r : List UInt8} : ∀ {K k : Nat}, ObjsTo c y K → k < K → sg (objsL y K ++ r) (40 * k) 40 = objS y k
  | K + 1, k, h, hk => by
    have h' : ObjsTo c y K := ⟨by have := h.le; omega, fun j hj => h.all j (by omega)⟩
    rw [objsL]
    by_cases e : k = K
    · subst e
      rw [List.append_assoc, show 40 * k = 40 * k + 0 from rfl, sg_app_r (objsL_len h'), sg_app_l (objS_len (h.all k (by omega)))]
    · rw [List.append_assoc]
      exact objs_sg (r := objS y K ++ r) h' (by omega)
theorem qS_sg {q : List Int} {r : List UInt8} : ∀ {K k : Nat}, k < K → sg (qS q K ++ r) (4 * k) 4 = big (q.getD k 0) 4
  | K + 1, k, hk => by
    rw [qS]
    by_cases e : k = K
    · subst e
      rw [List.append_assoc, show 4 * k = 4 * k + 0 from rfl, sg_app_r (qS_len k), sg_app_l (big_length _ _)]
    · rw [List.append_assoc]
      exact qS_sg (r := big (q.getD K 0) 4 ++ r) (by omega)
theorem qS_tail {q : List Int} (h : ∀ j, q.length ≤ j → q.getD j 0 = 0) : ∀ d : Nat, qS q (q.length + d) = qS q q.length ++ zs (4 * d)
  | 0 => by simp [zs]
  | d + 1 => by
    rw [← Nat.add_assoc, qS, qS_tail h d, h _ (Nat.le_add_right _ _), big_zs, List.append_assoc]
    congr 1
    rw [zs, zs, zs, List.replicate_append_replicate]
    rfl
structure Wr (c : Cfg) (t : Tree) (s : List UInt8) (p : Nat) : Prop where
  row : sg s (offR c p).toNat (rsz (kndR c p)).toNat = slot t.nods (keyR c p) (rsz (kndR c p)).toNat
  len : offR c p + rsz (kndR c p) ≤ s.length
theorem key_at {c : Cfg} (hc : CfgIn c) {n : Nod} (hn : NodeOK c n) {p : Nat} (hp : p < nRows c) (h : key n = keyR c p) : n.kind = kndR c p ∧ n.number = nmbR c p := by
  have h1 := (node_key hc hn).1
  obtain ⟨c1, c2, c3, c4, c5, c6⟩ := hc
  simp only [nRows] at hp
  simp only [key, keyR, kndR, nmbR] at h ⊢
  split at h <;> split <;> omega
theorem off_nonneg {c : Cfg} (hc : CfgIn c) (p : Nat) : 0 ≤ offR c p := by
  obtain ⟨c1, c2, c3, c4, c5, c6⟩ := hc
  unfold offR; split <;> omega
theorem knd_or (c : Cfg) (p : Nat) : kndR c p = 1 ∨ kndR c p = 2 := by unfold kndR; split <;> simp
theorem wr_hit {c : Cfg} {t : Tree} {s : List UInt8} (hc : CfgIn c) (ht : TreeOK c t) {p a : Nat} (hp : p < nRows c) (hw : Wr c t s p) (ha : a < t.nods.len.toNat) (hk : key (t.nods.at a) = keyR c p) :
    ¬ fstB (imR s c p) = 0 ∧ rdK (imR s c p) (kndR c p) = (t.nods.at a).kind ∧ rdN (imR s c p) (nmbR c p) = (t.nods.at a).number ∧ rdP (imR s c p) = (t.nods.at a).parent ∧ rdS (imR s c p) = (t.nods.at a).name ∧ rdZ (imR s c p) (kndR c p) = (t.nods.at a).size ∧ ¬ BadRow (imR s c p) (kndR c p) := by
  have hn := ht.up.all a ha
  obtain ⟨k1, k2⟩ := key_at hc hn hp hk
  obtain ⟨r1, r2, r3⟩ := node_row hc hn
  have h0 := off_nonneg hc p
  have hs := hw.row
  rw [slot_at (tree_sorted hc ht) ha hk, ← k1] at hs
  have hk0 : (imR s c p).k = ((offR c p).toNat : Int) := by simp only [imR]; omega
  rcases read_row (m := imR s c p) hk0 r1 r2 hs with ⟨f, e1, e2, e3⟩ | h
  · refine ⟨f, by unfold rdK; rw [if_neg f, k1], by unfold rdN; rw [if_neg f, k2], e1, e2, by rw [← k1]; exact e3, ?_⟩
    have hl := hw.len
    have hI : imR s c p = ⟨s, 0, False, ((offR c p).toNat : Int)⟩ := by rw [Int.toNat_of_nonneg h0]; rfl
    have hnod : nodR (imR s c p) (kndR c p) (nmbR c p) = t.nods.at a := by
      -- the reference's name is the same
      have hlng : rfN (imR s c p) = rdS (imR s c p) := by
        have hle : (rdS (imR s c p)).length ≤ 32 := by rw [e2]; exact r1.name
        unfold rfN rdS lngC
        rw [if_neg f, if_neg f]
        by_cases h32 : 32 < lngB (imR s c p)
        · exfalso
          have hs2 := hs
          -- the length byte is the name's length
          have d3 : lngB (imR s c p) = (t.nods.at a).name.length := by
            have E : rowS (t.nods.at a) = [1] ++ (big (t.nods.at a).parent 2 ++ (big ((t.nods.at a).name.length : Int) 1 ++ ((t.nods.at a).name ++ (zs (32 - (t.nods.at a).name.length) ++ (if (t.nods.at a).kind = 2 then big (t.nods.at a).size 4 else []))))) := by
              simp only [rowS, rowA, List.append_assoc, List.cons_append, List.nil_append]
            have hw36 : 36 ≤ (rsz (t.nods.at a).kind).toNat := by rcases r2 with h | h <;> rw [h] <;> decide
            have : dropk s ((offR c p) + 3) 1 = sg (rowS (t.nods.at a)) 3 1 := by
              rw [← hs2, sg_sg (by omega)]
              simp only [dropk, sg, show (offR c p + 3).toNat = (offR c p).toNat + 3 by omega, show (1 : Int).toNat = 1 from rfl]
            have e : sg (rowS (t.nods.at a)) 3 1 = big ((t.nods.at a).name.length : Int) 1 := by
              rw [E]
              exact (sg_app_r (A := [1]) (m := 1) (a := 2) rfl).trans ((sg_app_r (m := 2) (a := 0) (big_length _ _)).trans (sg_app_l (big_length _ _)))
            have hnm := r1.name
            show numB (dropk s (offR c p + 3) 1) = _
            rw [this, e, numB_big 1 _ (by omega) (by omega)]
          have := r1.name
          omega
        · rw [if_neg h32, if_neg h32]
      have ek : rdK (imR s c p) (kndR c p) = (t.nods.at a).kind := by unfold rdK; rw [if_neg f, k1]
      have en : rdN (imR s c p) (nmbR c p) = (t.nods.at a).number := by unfold rdN; rw [if_neg f, k2]
      have ez : rdZ (imR s c p) (kndR c p) = (t.nods.at a).size := by rw [← k1]; exact e3
      simp only [nodR, ek, en, e1, hlng, e2, ez]
    have := (row_iff (l := s) (cap := 0) (bad := False) (k := (offR c p).toNat) (num := nmbR c p) (knd_or c p) (by omega)).1
    rw [← hI] at this
    refine this ?_
    rw [if_neg f, hnod, hw.row, slot_at (tree_sorted hc ht) ha hk]
  · exact absurd r3 h
theorem wr_miss {c : Cfg} {t : Tree} {s : List UInt8} (hc : CfgIn c) {p : Nat} (hw : Wr c t s p) (h : ∀ i, i < t.nods.len.toNat → key (t.nods.at i) ≠ keyR c p) : fstB (imR s c p) = 0 ∧ ¬ BadRow (imR s c p) (kndR c p) := by
  have h0 := off_nonneg hc p
  have hs := hw.row
  have hl := hw.len
  rw [slot_no h] at hs
  have hI : imR s c p = ⟨s, 0, False, ((offR c p).toNat : Int)⟩ := by rw [Int.toNat_of_nonneg h0]; rfl
  have hw36 : 36 ≤ (rsz (kndR c p)).toNat := by rcases knd_or c p with h | h <;> rw [h] <;> decide
  have f0 : fstB (imR s c p) = 0 := by
    have : dropk s (offR c p) 1 = sg (zs (rsz (kndR c p)).toNat) 0 1 := by
      rw [← hs, sg_sg (by omega)]
      simp only [dropk, sg, Nat.add_zero, show (1 : Int).toNat = 1 from rfl]
    show numB (dropk s (offR c p) 1) = 0
    rw [this, numB_zero]
    rintro ⟨b, hb, hb0⟩
    exact hb0 (List.eq_of_mem_replicate (List.mem_of_mem_drop (List.mem_of_mem_take hb)))
  refine ⟨f0, ?_⟩
  have := (row_iff (l := s) (cap := 0) (bad := False) (k := (offR c p).toNat) (num := nmbR c p) (knd_or c p) (by omega)).1
  rw [← hI] at this
  refine this ?_
  rw [if_pos f0]
  exact hs.symm
structure ColTo (s : List UInt8) (c : Cfg) (y : Nods) (k a : Nat) : Prop where
  cut : KCut y (keyR c k) a
  fK : colK s c k = y.K.take a
  fN : colN s c k = y.N.take a
  fP : colP s c k = y.P.take a
  fS : colS s c k = y.S.take a
  fZ : colZ s c k = y.Z.take a
theorem take_getD {α : Type} {l : List α} {i : Nat} {d : α} (h : i < l.length) : l.take (i + 1) = l.take i ++ [l.getD i d] := by
  rw [take_snoc h, List.getD_eq_getElem?_getD, List.getElem?_eq_getElem h]; rfl
theorem cols_read {c : Cfg} {t : Tree} {s : List UInt8} (hc : CfgIn c) (ht : TreeOK c t) (hn : NodsOK t.nods) (hw : ∀ p, p < nRows c → Wr c t s p) : ∀ k : Nat, k ≤ nRows c → (∃ a, ColTo s c t.nods k a) ∧ ∀ p, p < k → ¬ BadRow (imR s c p) (kndR c p) := by
  have S := tree_sorted hc ht
  obtain ⟨n1, n2, n3, n4, n5, n6⟩ := hn
  obtain ⟨c1, c2, c3, c4, c5, c6⟩ := id hc
  intro k
  induction k with
  | zero =>
    intro _
    refine ⟨⟨0, ⟨Nat.zero_le _, fun j hj => absurd hj (Nat.not_lt_zero j), fun j _ hj => ?_⟩, by simp [colK, live], by simp [colN, live], by simp [colP, live], by simp [colS, live], by simp [colZ, live]⟩, fun p hp => absurd hp (Nat.not_lt_zero p)⟩
    have h1 := ht.up.all j hj
    have h2 := (node_key hc h1).1
    have h3 := h1.rest
    simp only [key, keyR, kndR, nmbR]
    split <;> omega
  | succ k ih =>
    intro hk
    obtain ⟨⟨a, hC⟩, hB⟩ := ih (by omega)
    have hkN : (k : Int) < c.dirs + c.files := by simp only [nRows] at hk; omega
    have next : ∀ b, KCut t.nods (keyR c k + 1) b → KCut t.nods (keyR c (k + 1)) b := fun b hb => by
      have hle : keyR c k + 1 ≤ keyR c (k + 1) := by
        simp only [keyR, kndR, nmbR]
        split <;> split <;> omega
      refine ⟨hb.le, fun j hj => by have := hb.lo j hj; omega, fun j hj hl => ?_⟩
      have h0 := hb.hi j hj hl
      have h1 := ht.up.all j hl
      have h2 := (node_key hc h1).1
      have h3 := h1.rest
      simp only [key, keyR, kndR, nmbR] at h0 ⊢
      split at h0 <;> split <;> omega
    by_cases hex : a < t.nods.len.toNat ∧ key (t.nods.at a) = keyR c k
    · obtain ⟨ha, hkey⟩ := hex
      obtain ⟨f, e1, e2, e3, e4, e5, e6⟩ := wr_hit hc ht (by omega) (hw k (by omega)) ha hkey
      refine ⟨⟨a + 1, next _ (kcut_hit S hC.cut ha hkey), ?_, ?_, ?_, ?_, ?_⟩, fun p hp => ?_⟩
      · rw [take_getD (d := 0) (by omega), ← hC.fK]
        simp only [colK, live_hit f, List.map_append, List.map_cons, List.map_nil, e1]
        rfl
      · rw [take_getD (d := 0) (by omega), ← hC.fN]
        simp only [colN, live_hit f, List.map_append, List.map_cons, List.map_nil, e2]
        rfl
      · rw [take_getD (d := 0) (by omega), ← hC.fP]
        simp only [colP, live_hit f, List.map_append, List.map_cons, List.map_nil, e3]
        rfl
      · rw [take_getD (d := []) (by omega), ← hC.fS]
        simp only [colS, live_hit f, List.map_append, List.map_cons, List.map_nil, e4]
        rfl
      · rw [take_getD (d := 0) (by omega), ← hC.fZ]
        simp only [colZ, live_hit f, List.map_append, List.map_cons, List.map_nil, e5]
        rfl
      · by_cases e : p = k
        · subst e; exact e6
        · exact hB p (by omega)
    · obtain ⟨m1, m2⟩ := kcut_miss S hC.cut (fun h h' => hex ⟨h, h'⟩)
      obtain ⟨f, e6⟩ := wr_miss hc (hw k (by omega)) m2
      have hm := live_miss f
      refine ⟨⟨a, next _ m1, by rw [colK, hm]; exact hC.fK, by rw [colN, hm]; exact hC.fN, by rw [colP, hm]; exact hC.fP, by rw [colS, hm]; exact hC.fS, by rw [colZ, hm]; exact hC.fZ⟩, fun p hp => ?_⟩
      by_cases e : p = k
      · subst e; exact e6
      · exact hB p (by omega)
structure Reads (c : Cfg) (t : Tree) (p : Pool) (s : List UInt8) : Prop where
  good : GoodS s c
  tree : ∀ a, SameT t (treeP s c a)
  len : nLive s c (nRows c) = t.nods.len
  pool : ∀ b d, SameP p (poolP s c b d)
  cnt : cntQ s c = p.qlen
theorem reads {c : Cfg} {t : Tree} {p : Pool} (hC : CfgOK c) (hn : NodsOK t.nods) (ht : TreeOK c t) (hpi : PoolIn (c, p)) (hp : PoolOK c p) : Reads c t p (fullS c t p) := by
  have hc := hC.ok
  obtain ⟨c1, c2, c3, c4, c5, c6⟩ := id hc
  obtain ⟨f1, f2, f3⟩ := full_fits hC
  have hI : ImgIn (c, t, p) := ⟨hc, hn, hpi, ht, hp⟩
  have hlen := imgS_len hI
  simp only at hlen
  have hol := hp.len
  have hql := hp.qlen
  have hqq := hpi.q
  simp only at hqq
  have lD := dirsS_len hc ht c.dirs.toNat (by omega)
  have lF := filesS_len hc ht c.files.toNat (by omega)
  have lO := objsL_len hp.objs
  have lQ := qS_len (q := p.q) p.objs.len.toNat
  have hL : lenI c = 36 * c.dirs + 40 * c.files + 44 * (c.files + c.slots) + 4 := rfl
  have hO : (offO c).toNat = 36 * c.dirs.toNat + 40 * c.files.toNat := by unfold offO; omega
  have hQ : (offQ c).toNat = (offO c).toNat + 40 * p.objs.len.toNat := by unfold offQ offO rowsC; omega
  have hsl : ((fullS c t p).length : Int) = pagesI c * (c.page - 5) := by simp only [fullS, List.length_append, zs, List.length_replicate]; omega
  obtain ⟨Z, hZ⟩ : ∃ Z : Nat, fullS c t p = dirsS t.nods c.dirs.toNat ++ (filesS t.nods c.files.toNat ++ (objsL p.objs p.objs.len.toNat ++ (big p.qlen 4 ++ (qS p.q p.objs.len.toNat ++ zs Z)))) := ⟨(pagesI c * (c.page - 5)).toNat - (imgS c t p).length, by simp only [fullS, imgS, List.append_assoc]⟩
  generalize fullS c t p = s at hZ hsl
  have hlens : s.length = 36 * c.dirs.toNat + (40 * c.files.toNat + (40 * p.objs.len.toNat + (4 + (4 * p.objs.len.toNat + Z)))) := by
    rw [hZ]; simp only [List.length_append, lD, lF, lO, lQ, big_length, zs, List.length_replicate]
  -- the rows
  have hw : ∀ q, q < nRows c → Wr c t s q := fun q hq => by
    simp only [nRows] at hq
    by_cases hd : (q : Int) < c.dirs
    · have e1 : offR c q = 36 * q := by unfold offR; rw [if_pos hd]
      have e2 : kndR c q = 1 := by unfold kndR; rw [if_pos hd]
      have e3 : keyR c q = 1000001 + (q : Int) := by unfold keyR nmbR; rw [e2, if_pos hd]; omega
      refine ⟨?_, by rw [e1, e2]; have : rsz 1 = 36 := rfl; omega⟩
      rw [e1, e2, e3, show (rsz 1).toNat = 36 from rfl, show ((36 : Int) * (q : Int)).toNat = 36 * q by omega, hZ]
      exact dirs_sg hc ht c.dirs.toNat q _ (by omega) (by omega)
    · have e1 : offR c q = 36 * c.dirs + 40 * (q - c.dirs) := by unfold offR; rw [if_neg hd]
      have e2 : kndR c q = 2 := by unfold kndR; rw [if_neg hd]
      have e3 : keyR c q = 2000000 + ((q - c.dirs.toNat : Nat) : Int) := by unfold keyR nmbR; rw [e2, if_neg hd]; omega
      refine ⟨?_, by rw [e1, e2]; have : rsz 2 = 40 := rfl; omega⟩
      rw [e1, e2, e3, show (rsz 2).toNat = 40 from rfl, show ((36 : Int) * c.dirs + 40 * ((q : Int) - c.dirs)).toNat = 36 * c.dirs.toNat + 40 * (q - c.dirs.toNat) by omega, hZ, sg_app_r lD]
      exact files_sg hc ht c.files.toNat (q - c.dirs.toNat) _ (by omega) (by omega)
  obtain ⟨⟨a, hA⟩, hB⟩ := cols_read hc ht hn hw (nRows c) (Nat.le_refl _)
  have ha : a = t.nods.len.toNat := by
    have h1 := hA.cut.le
    by_cases e : a < t.nods.len.toNat
    · exfalso
      have h2 := hA.cut.hi a (Nat.le_refl _) e
      have h3 := ht.up.all a e
      have h4 := (node_key hc h3).1
      have h5 := h3.rest
      have hN : ((nRows c : Nat) : Int) = c.dirs + c.files := by simp only [nRows]; omega
      have hd : ¬ ((nRows c : Nat) : Int) < c.dirs := by omega
      simp only [key, keyR, kndR, nmbR] at h2
      rw [if_neg hd, if_neg hd] at h2
      omega
    · omega
  obtain ⟨n1, n2, n3, n4, n5, n6⟩ := id hn
  have tk : ∀ {α : Type} {l : List α}, (l.length : Int) = t.nods.len → l.take a = l := fun h => List.take_of_length_le (by omega)
  have kK := hA.fK
  have kN := hA.fN
  have kP := hA.fP
  have kS := hA.fS
  have kZ := hA.fZ
  rw [tk n1] at kK
  rw [tk n2] at kN
  rw [tk n3] at kP
  rw [tk n4] at kS
  rw [tk n5] at kZ
  -- the objects
  have ob : ∀ j, j < p.objs.len.toNat → sg s ((offO c).toNat + 40 * j) 40 = objS p.objs j := fun j hj => by
    rw [hZ, hO, Nat.add_assoc, sg_app_r lD, sg_app_r lF]
    exact objs_sg hp.objs hj
  have obd : ∀ (j a n : Nat), j < p.objs.len.toNat → a + n ≤ 40 → dropk s (offO c + 40 * (j : Int) + (a : Int)) (n : Int) = sg (objS p.objs j) a n := fun j a n hj han => by
    rw [← ob j hj, sg_sg han]
    simp only [dropk, sg, Int.toNat_natCast, show (offO c + 40 * (j : Int) + (a : Int)).toNat = (offO c).toNat + 40 * j + a by unfold offO; omega]
  have four : ∀ j, j < p.objs.len.toNat → dropk s (offO c + 40 * (j : Int)) 16 = p.objs.N.getD j [] ∧ dropk s (offO c + 40 * (j : Int) + 16) 16 = p.objs.T.getD j [] ∧ numB (dropk s (offO c + 40 * (j : Int) + 32) 4) = p.objs.B.getD j 0 ∧ numB (dropk s (offO c + 40 * (j : Int) + 36) 4) - 1 = p.objs.O.getD j 0 := fun j hj => by
    obtain ⟨g1, g2, g3, g4⟩ := hp.objs.all j hj
    have d0 : dropk s (offO c + 40 * (j : Int)) 16 = sg (objS p.objs j) 0 16 := by have := obd j 0 16 hj (by omega); simpa using this
    have d1 : dropk s (offO c + 40 * (j : Int) + 16) 16 = sg (objS p.objs j) 16 16 := obd j 16 16 hj (by omega)
    have d2 : dropk s (offO c + 40 * (j : Int) + 32) 4 = sg (objS p.objs j) 32 4 := obd j 32 4 hj (by omega)
    have d3 : dropk s (offO c + 40 * (j : Int) + 36) 4 = sg (objS p.objs j) 36 4 := obd j 36 4 hj (by omega)
    rw [d0, d1, d2, d3]
    refine ⟨sg_app_l g1, ?_, ?_, ?_⟩
    · exact (sg_app_r (m := 16) (a := 0) g1).trans (sg_app_l g2)
    · have : sg (objS p.objs j) 32 4 = big (p.objs.B.getD j 0) 4 := (sg_app_r (m := 16) (a := 16) g1).trans ((sg_app_r (m := 16) (a := 0) g2).trans (sg_app_l (big_length _ _)))
      rw [this, numB_big 4 _ (by omega) (by omega)]
    · have : sg (objS p.objs j) 36 4 = big (p.objs.O.getD j 0 + 1) 4 := by
        refine (sg_app_r (m := 16) (a := 20) g1).trans ((sg_app_r (m := 16) (a := 4) g2).trans ((sg_app_r (m := 4) (a := 0) (big_length _ _)).trans ?_))
        have e : big (p.objs.O.getD j 0 + 1) 4 = big (p.objs.O.getD j 0 + 1) 4 ++ [] := by simp
        conv => lhs; rw [e]
        exact sg_app_l (big_length _ _)
      rw [this, numB_big 4 _ (by omega) (by omega)]
      omega
  have hrow : (rowsC c).toNat = p.objs.len.toNat := by unfold rowsC; omega
  have objN : oN s c (rowsC c).toNat = p.objs.N := list_getD_eq [] (n := p.objs.len.toNat) (by simp [oN, hrow]) (by have := hpi.n; simp only at this; omega) fun j hj => by rw [oN, getD_range _ (by omega)]; exact (four j hj).1
  have objT : oT s c (rowsC c).toNat = p.objs.T := list_getD_eq [] (n := p.objs.len.toNat) (by simp [oT, hrow]) (by have := hpi.t; simp only at this; omega) fun j hj => by rw [oT, getD_range _ (by omega)]; exact (four j hj).2.1
  have objB : oB s c (rowsC c).toNat = p.objs.B := list_getD_eq 0 (n := p.objs.len.toNat) (by simp [oB, hrow]) (by have := hpi.b; simp only at this; omega) fun j hj => by rw [oB, getD_range _ (by omega)]; exact (four j hj).2.2.1
  have objO : oO s c (rowsC c).toNat = p.objs.O := list_getD_eq 0 (n := p.objs.len.toNat) (by simp [oO, hrow]) (by have := hpi.o; simp only at this; omega) fun j hj => by rw [oO, getD_range _ (by omega)]; exact (four j hj).2.2.2
  -- the queue
  have cnt : cntQ s c = p.qlen := by
    have : dropk s (offQ c) 4 = big p.qlen 4 := by
      simp only [dropk, show (4 : Int).toNat = 4 from rfl]
      show sg s (offQ c).toNat 4 = _
      rw [hZ, hQ, hO, Nat.add_assoc, sg_app_r lD, sg_app_r lF]
      have := sg_app_r (B := big p.qlen 4 ++ (qS p.q p.objs.len.toNat ++ zs Z)) (a := 0) (n := 4) lO
      rw [Nat.add_zero] at this
      rw [this, sg_app_l (big_length _ _)]
    rw [cntQ, this, numB_big 4 _ (by omega) (by omega)]
  have hdrop : s.drop ((offQ c).toNat + 4) = qS p.q p.objs.len.toNat ++ zs Z := by
    rw [hZ, hQ, hO, Nat.add_assoc, Nat.add_assoc, ← List.drop_drop, ← lD, List.drop_left, ← List.drop_drop, ← lF, List.drop_left, ← List.drop_drop, ← lO, List.drop_left]
    conv => lhs; arg 1; rw [← big_length p.qlen 4]
    rw [List.drop_left]
  have hqs : p.q.length ≤ p.objs.len.toNat := by omega
  have tail := qS_tail (q := p.q) (fun j hj => by rw [List.getD_eq_getElem?_getD, List.getElem?_eq_none hj]; rfl) (p.objs.len.toNat - p.q.length)
  rw [show p.q.length + (p.objs.len.toNat - p.q.length) = p.objs.len.toNat by omega] at tail
  have hP : cntP s c = p.qlen := by
    rw [cntP, cnt, if_neg (by simp only [rowsC]; omega)]
  have queue : qL s c (cntP s c).toNat = p.q := list_getD_eq 0 (n := p.q.length) (by simp [qL, hP]; omega) rfl fun j hj => by
    rw [qL, getD_range _ (by rw [hP]; omega)]
    have hqb := hp.q.all j hj
    have : dropk s (offQ c + 4 + 4 * (j : Int)) 4 = big (p.q.getD j 0) 4 := by
      have h1 : dropk s (offQ c + 4 + 4 * (j : Int)) 4 = sg (s.drop ((offQ c).toNat + 4)) (4 * j) 4 := by
        simp only [dropk, sg, List.drop_drop, show (4 : Int).toNat = 4 from rfl, show (offQ c + 4 + 4 * (j : Int)).toNat = (offQ c).toNat + 4 + 4 * j by unfold offQ offO rowsC; omega]
      rw [h1, hdrop, qS_sg (by omega)]
    rw [this, numB_big 4 _ (by omega) (by omega)]
  refine ⟨⟨hB, by rw [cnt]; simp only [rowsC]; omega, ?_⟩, fun b => ⟨ht.files, ht.dirs, ⟨kK.symm, kN.symm, kP.symm, kS.symm, kZ.symm⟩⟩, ?_, fun b d => ⟨objN.symm, objT.symm, objB.symm, objO.symm, queue.symm⟩, cnt⟩
  · rw [cnt, show (offQ c + 4 + 4 * p.qlen).toNat = (offQ c).toNat + 4 + 4 * p.q.length by unfold offQ offO rowsC; omega, ← List.drop_drop, hdrop, tail, List.append_assoc]
    have h4 : (qS p.q p.q.length).length = 4 * p.q.length := qS_len _
    rw [← h4, List.drop_left, nz_append]
    rintro (h | h)
    · exact nz_zs _ h
    · exact nz_zs _ h
  · have : (colK s c (nRows c)).length = t.nods.K.length := by rw [kK]
    simp only [nLive]
    simp only [colK, List.length_map] at this
    omega
end Go.PL

