/- Poly: the document's own numbers: times, parted hold their contracts. -/
import Derived.Test.YtnkdnnaelcgenaaPolyC
import Derived.Test.YtnkdnnaelcgenaaEngC
set_option linter.unusedVariables false
set_option linter.unusedSimpArgs false

/- Poly: the document's own numbers: contracts. -/
namespace Go.PL
def b16 : List Int → Int
  | [] => 0
  | x :: l => x + 65536 * b16 l
def M24 : Int := 39402006196394479212279040100143613805079739270465446667948293404245721771497210611414266254884915640806627990306816
structure Num (l : List Int) : Prop where
  len : l.length = 24
  dig : ∀ x ∈ l, 0 ≤ x ∧ x < 65536
structure Loose (l : List Int) : Prop where
  len : l.length = 24
  b : ∀ x ∈ l, 0 ≤ x ∧ x ≤ 1099511627776
structure carriedPost (x y : List Int) : Prop where
  num : Num y
  val : b16 y = b16 x % M24
structure CarryOK (x : List Int) (i : Nat) (c : Int) (l : List Int) : Prop where
  hi : i ≤ 24
  len : l.length = 24
  hc : 0 ≤ c ∧ c ≤ 2199023255552
  dig : ∀ d ∈ l.take i, 0 ≤ d ∧ d < 65536
  rest : l.drop i = x.drop i
  val : b16 (l.take i) + 65536 ^ i * c = b16 (x.take i)
structure Two (a b : List Int) : Prop where
  ha : Num a
  hb : Num b
structure addPost (a b y : List Int) : Prop where
  num : Num y
  val : b16 y = (b16 a + b16 b) % M24
structure AddOK (a b : List Int) (i : Nat) (l : List Int) : Prop where
  hi : i ≤ 24
  eq : l = (List.range 24).map fun j => if j < i then a.getD j 0 + b.getD j 0 else a.getD j 0
structure timesPost (a b y : List Int) : Prop where
  num : Num y
  val : b16 y = b16 (a.take 9) * b16 (b.take 9)
structure TimesOK (a b : List Int) (i : Nat) (n : List Int) : Prop where
  hi : i ≤ 9
  num : Num n
  val : b16 n = b16 (a.take i) * b16 (b.take 9)
structure RowsOK (a b : List Int) (i j : Nat) (l : List Int) : Prop where
  hj : j ≤ 9
  eq : l = (List.range 24).map fun k => if i ≤ k ∧ k < i + j then a.getD i 0 * b.getD (k - i) 0 else 0
structure partedPost (x lo hi : List Int) : Prop where
  nlo : Num lo
  nhi : Num hi
  vlo : b16 lo = b16 x % 1361129467683753853853498429727072845824
  vhi : b16 hi = b16 x / 1361129467683753853853498429727072845824
structure PartLow (x : List Int) (i : Nat) (l : List Int) : Prop where
  hi : i ≤ 8
  eq : l = (List.range 24).map fun j => if j < i then x.getD j 0 else 0
structure PartHigh (x : List Int) (i : Nat) (l : List Int) : Prop where
  lo : 8 ≤ i
  hi : i ≤ 24
  eq : l = (List.range 24).map fun j => if j + 8 < i then x.getD (j + 8) 0 / 4 + x.getD (j + 9) 0 % 4 * 16384 else 0
structure fivePost (x y : List Int) : Prop where
  num : Num y
  val : b16 y = 5 * b16 x % M24
structure FiveOK (x : List Int) (i : Nat) (l : List Int) : Prop where
  hi : i ≤ 24
  eq : l = (List.range 24).map fun j => if j < i then x.getD j 0 * 5 else x.getD j 0
structure ZeroOK (x : List Int) (i : Nat) : Prop where
  hi : i ≤ 24
  eq : ∀ j, j < i → x.getD j 0 = 0
end Go.PL
namespace Go.Eng
variable [CW : CWorld]
open Go.Proofs
set_option maxRecDepth 100000

def aggN (l : List Int) : List SV := (List.range 24).map fun i => .int .i64 (.x (l.getD i 0))
def arrN (l : List Int) : Blk := .mk 71 [.arr (.l 24) [.ints .i64 l]]

def carriedSpec : Spec where
  X := List Int
  A x := [.agg (aggN x)]
  H _ := []
  pre x := PL.Loose x
  outs := [{ Y _ := List Int, post x y := PL.carriedPost x y, R _ y := .agg (aggN y), H' _ _ := [] }]
def addSpec : Spec where
  X := List Int × List Int
  A x := [.agg (aggN x.1), .agg (aggN x.2)]
  H _ := []
  pre x := PL.Two x.1 x.2
  outs := [{ Y _ := List Int, post x y := PL.addPost x.1 x.2 y, R _ y := .agg (aggN y), H' _ _ := [] }]
def timesSpec : Spec where
  X := List Int × List Int
  A x := [.agg (aggN x.1), .agg (aggN x.2)]
  H _ := []
  pre x := PL.Two x.1 x.2
  outs := [{ Y _ := List Int, post x y := PL.timesPost x.1 x.2 y, R _ y := .agg (aggN y), H' _ _ := [] }]
def partedSpec : Spec where
  X := List Int
  A x := [.agg (aggN x)]
  H _ := []
  pre x := PL.Num x
  outs := [{ Y _ := List Int × List Int, post x y := PL.partedPost x y.1 y.2, R _ y := .tup [.agg (aggN y.1), .agg (aggN y.2)], H' _ _ := [] }]
def fiveSpec : Spec where
  X := List Int
  A x := [.agg (aggN x)]
  H _ := []
  pre x := PL.Num x
  outs := [{ Y _ := List Int, post x y := PL.fivePost x y, R _ y := .agg (aggN y), H' _ _ := [] }]
def zeroSpec : Spec where
  X := List Int
  A x := [.agg (aggN x)]
  H _ := []
  pre x := PL.Num x
  outs := [{ Y _ := Unit, post _ _ := True, R x _ := .bool (.x (PL.b16 x = 0)), H' _ _ := [] }]

noncomputable def r41a : Specs := fun f _ _ => match f with
  | 41 => some carriedSpec
  | _ => none
noncomputable def r41 : Specs := fun f _ _ => match f with
  | 41 => some carriedSpec
  | 35 => some addSpec
  | _ => none

def carriedInv (x : List Int) : Code → List SV → List Blk → List Inv := fun b fr hp => [
  { ι := Nat × Int × List Int, fr := fun i => upd (havoc b fr) [(3, .int .i64 (.x i.2.1)), (4, .int .i64 (.x (i.1 : Int)))],
    hp := fun i => match hp with
      | [_, r] => [arrN i.2.2, r]
      | _ => [],
    μ := fun i => 24 - i.1, ok := fun i => PL.CarryOK x i.1 i.2.1 i.2.2 }]
def addInv (x y : List Int) : Code → List SV → List Blk → List Inv := fun b fr hp => [
  { ι := Nat × List Int, fr := fun i => upd (havoc b fr) [(5, .int .i64 (.x (i.1 : Int)))],
    hp := fun i => match hp with
      | [_, _, r] => [arrN i.2, arrN y, r]
      | _ => [],
    μ := fun i => 24 - i.1, ok := fun i => PL.AddOK x y i.1 i.2 }]
def timesInv (x y : List Int) : Code → List SV → List Blk → List Inv := fun b fr hp => [
  { ι := Nat × List Int, fr := fun i => upd (havoc b fr) [(6, .int .i64 (.x (i.1 : Int)))],
    hp := fun i => match hp with
      | [_, _, r, _] => [arrN x, arrN y, r, arrN i.2]
      | _ => [],
    μ := fun i => 9 - i.1, ok := fun i => PL.TimesOK x y i.1 i.2 }]
def rowsInv (x y : List Int) : Code → List SV → List Blk → List Inv := fun b fr hp =>
  match fr[6]? with
  | some (SV.int _ z) => [
  { ι := Nat × List Int, fr := fun i => upd (havoc b fr) [(8, .int .i64 (.x (i.1 : Int)))],
    hp := fun i => match hp with
      | [a, c, r, n, _] => [a, c, r, n, arrN i.2]
      | _ => [],
    μ := fun i => 9 - i.1, ok := fun i => PL.RowsOK x y z.val.toNat i.1 i.2 }]
  | _ => []
def partLowInv (x : List Int) : Code → List SV → List Blk → List Inv := fun b fr hp => [
  { ι := Nat × List Int, fr := fun i => upd (havoc b fr) [(6, .int .i64 (.x (i.1 : Int)))],
    hp := fun i => match hp with
      | [_, r, s, _, h] => [arrN x, r, s, arrN i.2, h]
      | _ => [],
    μ := fun i => 8 - i.1, ok := fun i => PL.PartLow x i.1 i.2 }]
def partHighInv (x : List Int) : Code → List SV → List Blk → List Inv := fun b fr hp => [
  { ι := Nat × List Int, fr := fun i => upd (havoc b fr) [(7, .int .i64 (.x (i.1 : Int)))],
    hp := fun i => match hp with
      | [a, r, s, l, _] => [a, r, s, l, arrN i.2]
      | _ => [],
    μ := fun i => 24 - i.1, ok := fun i => PL.PartHigh x i.1 i.2 }]
def fiveInv (x : List Int) : Code → List SV → List Blk → List Inv := fun b fr hp => [
  { ι := Nat × List Int, fr := fun i => upd (havoc b fr) [(3, .int .i64 (.x (i.1 : Int)))],
    hp := fun i => match hp with
      | [_, r] => [arrN i.2, r]
      | _ => [],
    μ := fun i => 24 - i.1, ok := fun i => PL.FiveOK x i.1 i.2 }]
def zeroInv (x : List Int) : Code → List SV → List Blk → List Inv := fun b fr hp => [
  { ι := Nat, fr := fun i => upd (havoc b fr) [(3, .int .i64 (.x (i : Int)))],
    hp := fun _ => [arrN x],
    μ := fun i => 24 - i, ok := fun i => PL.ZeroOK x i }]
def numInvs (x y : List Int) : Invs := fun f n => match f, n with
  | 41, 3 => some (carriedInv x)
  | 35, 2 => some (addInv x y)
  | 34, 3 => some (timesInv x y)
  | 34, 7 => some (rowsInv x y)
  | 38, 4 => some (partLowInv x)
  | 38, 9 => some (partHighInv x)
  | 40, 2 => some (fiveInv x)
  | 39, 2 => some (zeroInv x)
  | _, _ => none
end Go.Eng

/- Poly: numbers to the base 65536. -/
set_option linter.unusedSimpArgs false
set_option linter.unusedVariables false
set_option linter.unusedSectionVars false
namespace Go.PL

theorem b16_append : ∀ (a b : List Int), b16 (a ++ b) = b16 a + 65536 ^ a.length * b16 b
  | [], b => by simp [b16]
  | x :: a, b => by
    have ih := b16_append a b
    simp only [List.cons_append, b16, ih, List.length_cons, Int.pow_succ]
    grind
theorem b16_bound : ∀ (l : List Int), (∀ x ∈ l, 0 ≤ x ∧ x < 65536) → 0 ≤ b16 l ∧ b16 l < 65536 ^ l.length
  | [], _ => by simp [b16]
  | x :: l, h => by
    have ih := b16_bound l (fun y hy => h y (by simp [hy]))
    have hx := h x (by simp)
    simp only [b16, List.length_cons, Int.pow_succ]
    omega
theorem b16_nonneg : ∀ (l : List Int), (∀ x ∈ l, 0 ≤ x) → 0 ≤ b16 l
  | [], _ => by simp [b16]
  | x :: l, h => by
    have ih := b16_nonneg l (fun y hy => h y (by simp [hy]))
    have hx := h x (by simp)
    simp only [b16]
    omega

theorem M24_eq : M24 = 65536 ^ 24 := by decide +kernel

/-- A list by its places. -/
def tab (n : Nat) (f : Nat → Int) : List Int := (List.range n).map f
theorem tab_length (n : Nat) (f : Nat → Int) : (tab n f).length = n := by simp [tab]
theorem tab_succ (n : Nat) (f : Nat → Int) : tab (n + 1) f = tab n f ++ [f n] := by simp [tab, List.range_succ]
theorem tab_getD {n : Nat} (f : Nat → Int) {i : Nat} (h : i < n) : (tab n f).getD i 0 = f i := by simp [tab, List.getD, h]
theorem tab_self {l : List Int} {n : Nat} (h : l.length = n) : tab n (fun i => l.getD i 0) = l := by
  apply List.ext_getElem?
  intro i
  by_cases hi : i < n
  · simp [tab, List.getD, hi, List.getElem?_eq_getElem (show i < l.length by omega)]
  · rw [List.getElem?_eq_none (by rw [tab_length]; omega), List.getElem?_eq_none (by omega)]
theorem tab_congr {n : Nat} {f g : Nat → Int} (h : ∀ i, i < n → f i = g i) : tab n f = tab n g :=
  List.map_congr_left fun i hi => h i (List.mem_range.1 hi)
theorem tab_set {n : Nat} (f : Nat → Int) (i : Nat) (v : Int) : (tab n f).set i v = tab n (fun j => if j = i then v else f j) := by
  apply List.ext_getElem?
  intro j
  by_cases hj : j < n
  · by_cases e : i = j
    · subst e
      simp [tab, hj]
    · have e' : ¬ j = i := fun h => e h.symm
      simp [tab, hj, List.getElem?_set, e, e']
  · rw [List.getElem?_eq_none (by rw [List.length_set, tab_length]; omega), List.getElem?_eq_none (by rw [tab_length]; omega)]
theorem tab_mem {n : Nat} {f : Nat → Int} {x : Int} (h : x ∈ tab n f) : ∃ i, i < n ∧ x = f i := by
  simp only [tab, List.mem_map, List.mem_range] at h
  obtain ⟨i, hi, rfl⟩ := h
  exact ⟨i, hi, rfl⟩
theorem b16_tab_succ (n : Nat) (f : Nat → Int) : b16 (tab (n + 1) f) = b16 (tab n f) + 65536 ^ n * f n := by
  rw [tab_succ, b16_append, tab_length]
  simp [b16]
theorem b16_tab_add (f g : Nat → Int) : ∀ n, b16 (tab n (fun i => f i + g i)) = b16 (tab n f) + b16 (tab n g)
  | 0 => by simp [tab, b16]
  | n + 1 => by
    have ih := b16_tab_add f g n
    rw [b16_tab_succ, b16_tab_succ, b16_tab_succ, ih]
    grind
theorem b16_tab_mul (c : Int) (f : Nat → Int) : ∀ n, b16 (tab n (fun i => c * f i)) = c * b16 (tab n f)
  | 0 => by simp [tab, b16]
  | n + 1 => by
    have ih := b16_tab_mul c f n
    rw [b16_tab_succ, b16_tab_succ, ih]
    grind
theorem b16_tab_zero : ∀ n, b16 (tab n (fun _ => 0)) = 0
  | 0 => rfl
  | n + 1 => by rw [b16_tab_succ, b16_tab_zero n]; simp
theorem take_tab {l : List Int} {n : Nat} (h : n ≤ l.length) : l.take n = tab n (fun i => l.getD i 0) := by
  have : (l.take n).length = n := by simp; omega
  rw [← tab_self this]
  apply tab_congr
  intro i hi
  simp [List.getD, List.getElem?_take, hi]
theorem getD_dig {l : List Int} (h : ∀ x ∈ l, 0 ≤ x ∧ x < 65536) {i : Nat} (hi : i < l.length) : 0 ≤ l.getD i 0 ∧ l.getD i 0 < 65536 := by
  have : l.getD i 0 = l[i] := by simp [List.getD, hi]
  rw [this]
  exact h _ (List.getElem_mem hi)
theorem getD_le {l : List Int} {m : Int} (h : ∀ x ∈ l, 0 ≤ x ∧ x ≤ m) {i : Nat} (hi : i < l.length) : 0 ≤ l.getD i 0 ∧ l.getD i 0 ≤ m := by
  have : l.getD i 0 = l[i] := by simp [List.getD, hi]
  rw [this]
  exact h _ (List.getElem_mem hi)
theorem b16_take_succ {l : List Int} {i : Nat} (h : i < l.length) : b16 (l.take (i + 1)) = b16 (l.take i) + 65536 ^ i * l.getD i 0 := by
  rw [take_tab (by omega), take_tab (by omega), b16_tab_succ]

/-- One digit brought below the base. -/
theorem carry_step {x l : List Int} {i : Nat} {c s : Int} (h : CarryOK x i c l) (hx : x.length = 24) (hb : ∀ d ∈ x, 0 ≤ d ∧ d ≤ 1099511627776) (hi : i < 24) (hs : s = x.getD i 0 + c) :
    CarryOK x (i + 1) (s / 65536) (l.set i (s % 65536)) := by
  have hl := h.len
  have hd := getD_le hb (show i < x.length by omega)
  have hc := h.hc
  have ht : (l.set i (s % 65536)).take (i + 1) = l.take i ++ [s % 65536] := by
    rw [List.take_add_one, List.take_set_of_le (Nat.le_refl i), List.getElem?_set_self (by omega)]
    rfl
  refine ⟨by omega, by simpa using hl, by omega, ?_, ?_, ?_⟩
  · intro d hd'
    rw [ht] at hd'
    rcases List.mem_append.1 hd' with h1 | h1
    · exact h.dig d h1
    · simp at h1
      subst h1
      omega
  · have hr := congrArg (List.drop 1) h.rest
    rw [List.drop_drop, List.drop_drop] at hr
    rw [← hr]
    apply List.ext_getElem?
    intro j
    simp only [List.getElem?_drop]
    rw [List.getElem?_set_ne (by omega)]
  · rw [ht, b16_append, List.length_take, Nat.min_eq_left (by omega), b16_take_succ (by omega), Int.pow_succ]
    have hv := h.val
    simp only [b16]
    have hsd := Int.emod_add_mul_ediv s 65536
    rw [hs] at hsd ⊢
    generalize (65536 : Int) ^ i = p at *
    generalize (x.getD i 0 + c) / 65536 = q at *
    generalize (x.getD i 0 + c) % 65536 = r at *
    grind
theorem carry_end {x l : List Int} {c : Int} (h : CarryOK x 24 c l) (hx : x.length = 24) : carriedPost x l := by
  have hl := h.len
  have hd := h.dig
  have hv := h.val
  rw [List.take_of_length_le (by omega)] at hd hv
  rw [List.take_of_length_le (by omega)] at hv
  refine ⟨⟨hl, hd⟩, ?_⟩
  have b := b16_bound l hd
  rw [hl] at b
  rw [M24_eq, ← hv, Int.add_mul_emod_self_left, Int.emod_eq_of_lt b.1 b.2]

end Go.PL

/- Poly: walks. -/
set_option linter.unusedVariables false
set_option linter.unusedSectionVars false
namespace Go.Eng
variable [CW : CWorld]
open Go.Proofs
open Go.PL (L5 MacS)
set_option maxRecDepth 100000
theorem vc41 (ar : AR) (x : List Int) : (run ar PP noSpec (numInvs x []) 1000 41 0 (Try.f41.body.getD .skip) ([.agg (aggN x)] ++ List.replicate (Try.f41.ntmps - 1) .any) [] (endCall ar PP Try.f41.results.toList (carriedSpec.fin x))) = (
    (∃ (i : Nat × Int × List Int), PL.CarryOK x i.fst i.2.fst i.2.snd ∧ x.getD 0 0 = x.getD 0 0 ∧ x.getD 1 0 = x.getD 1 0 ∧ x.getD 2 0 = x.getD 2 0 ∧ x.getD 3 0 = x.getD 3 0 ∧
    x.getD 4 0 = x.getD 4 0 ∧ x.getD 5 0 = x.getD 5 0 ∧ x.getD 6 0 = x.getD 6 0 ∧ x.getD 7 0 = x.getD 7 0 ∧ x.getD 8 0 = x.getD 8 0 ∧ x.getD 9 0 = x.getD 9 0 ∧ x.getD 10 0 = x.getD
    10 0 ∧ x.getD 11 0 = x.getD 11 0 ∧ x.getD 12 0 = x.getD 12 0 ∧ x.getD 13 0 = x.getD 13 0 ∧ x.getD 14 0 = x.getD 14 0 ∧ x.getD 15 0 = x.getD 15 0 ∧ x.getD 16 0 = x.getD 16 0 ∧
    x.getD 17 0 = x.getD 17 0 ∧ x.getD 18 0 = x.getD 18 0 ∧ x.getD 19 0 = x.getD 19 0 ∧ x.getD 20 0 = x.getD 20 0 ∧ x.getD 21 0 = x.getD 21 0 ∧ x.getD 22 0 = x.getD 22 0 ∧ x.getD
    23 0 = x.getD 23 0 ∧ 0 = i.2.fst ∧ 0 = (↑i.fst : Int) ∧ [x.getD 0 0, x.getD 1 0, x.getD 2 0, x.getD 3 0, x.getD 4 0, x.getD 5 0, x.getD 6 0, x.getD 7 0, x.getD 8 0, x.getD 9 0,
    x.getD 10 0, x.getD 11 0, x.getD 12 0, x.getD 13 0, x.getD 14 0, x.getD 15 0, x.getD 16 0, x.getD 17 0, x.getD 18 0, x.getD 19 0, x.getD 20 0, x.getD 21 0, x.getD 22 0, x.getD
    23 0] = i.2.snd ∧ True) ∧ ∀ (i : Nat × Int × List Int), PL.CarryOK x i.fst i.2.fst i.2.snd → (ar.lt (↑i.fst : Int) 24 → ar.le 0 (↑i.fst : Int) ∧ ar.lt (↑i.fst : Int) 24 ∧ ar.le
    0 (↑i.fst : Int) ∧ ar.lt (↑i.fst : Int) (ar.ilen i.2.snd) ∧ ∀ (z : Int), z = ar.wrap IntKind.i64 (ar.add (ar.iget i.2.snd (↑i.fst : Int)) i.2.fst) → ∀ (z_1 : Int), z_1 = ar.rem
    z 65536 → ar.le 0 (↑i.fst : Int) ∧ ar.lt (↑i.fst : Int) 24 ∧ ar.le 0 (↑i.fst : Int) ∧ ar.lt (↑i.fst : Int) (ar.ilen i.2.snd) ∧ ∀ (z_2 : Int), z_2 = ar.wrap IntKind.i64 (ar.quo
    z 65536) → ∀ (z : Int), z = ar.wrap IntKind.i64 (ar.add (↑i.fst : Int) 1) → ∃ (j : Nat × Int × List Int), PL.CarryOK x j.fst j.2.fst j.2.snd ∧ (Nat.sub 24 j.fst).lt (Nat.sub 24
    i.fst) ∧ x.getD 0 0 = x.getD 0 0 ∧ x.getD 1 0 = x.getD 1 0 ∧ x.getD 2 0 = x.getD 2 0 ∧ x.getD 3 0 = x.getD 3 0 ∧ x.getD 4 0 = x.getD 4 0 ∧ x.getD 5 0 = x.getD 5 0 ∧ x.getD 6 0
    = x.getD 6 0 ∧ x.getD 7 0 = x.getD 7 0 ∧ x.getD 8 0 = x.getD 8 0 ∧ x.getD 9 0 = x.getD 9 0 ∧ x.getD 10 0 = x.getD 10 0 ∧ x.getD 11 0 = x.getD 11 0 ∧ x.getD 12 0 = x.getD 12 0 ∧
    x.getD 13 0 = x.getD 13 0 ∧ x.getD 14 0 = x.getD 14 0 ∧ x.getD 15 0 = x.getD 15 0 ∧ x.getD 16 0 = x.getD 16 0 ∧ x.getD 17 0 = x.getD 17 0 ∧ x.getD 18 0 = x.getD 18 0 ∧ x.getD
    19 0 = x.getD 19 0 ∧ x.getD 20 0 = x.getD 20 0 ∧ x.getD 21 0 = x.getD 21 0 ∧ x.getD 22 0 = x.getD 22 0 ∧ x.getD 23 0 = x.getD 23 0 ∧ z_2 = j.2.fst ∧ z = (↑j.fst : Int) ∧
    ar.iset i.2.snd (↑i.fst : Int) z_1 = j.2.snd ∧ True) ∧ (¬ar.lt (↑i.fst : Int) 24 → ar.le 0 0 ∧ ar.lt 0 (ar.ilen i.2.snd) ∧ ar.le 0 1 ∧ ar.lt 1 (ar.ilen i.2.snd) ∧ ar.le 0 2 ∧
    ar.lt 2 (ar.ilen i.2.snd) ∧ ar.le 0 3 ∧ ar.lt 3 (ar.ilen i.2.snd) ∧ ar.le 0 4 ∧ ar.lt 4 (ar.ilen i.2.snd) ∧ ar.le 0 5 ∧ ar.lt 5 (ar.ilen i.2.snd) ∧ ar.le 0 6 ∧ ar.lt 6 (ar.ilen
    i.2.snd) ∧ ar.le 0 7 ∧ ar.lt 7 (ar.ilen i.2.snd) ∧ ar.le 0 8 ∧ ar.lt 8 (ar.ilen i.2.snd) ∧ ar.le 0 9 ∧ ar.lt 9 (ar.ilen i.2.snd) ∧ ar.le 0 10 ∧ ar.lt 10 (ar.ilen i.2.snd) ∧
    ar.le 0 11 ∧ ar.lt 11 (ar.ilen i.2.snd) ∧ ar.le 0 12 ∧ ar.lt 12 (ar.ilen i.2.snd) ∧ ar.le 0 13 ∧ ar.lt 13 (ar.ilen i.2.snd) ∧ ar.le 0 14 ∧ ar.lt 14 (ar.ilen i.2.snd) ∧ ar.le 0
    15 ∧ ar.lt 15 (ar.ilen i.2.snd) ∧ ar.le 0 16 ∧ ar.lt 16 (ar.ilen i.2.snd) ∧ ar.le 0 17 ∧ ar.lt 17 (ar.ilen i.2.snd) ∧ ar.le 0 18 ∧ ar.lt 18 (ar.ilen i.2.snd) ∧ ar.le 0 19 ∧
    ar.lt 19 (ar.ilen i.2.snd) ∧ ar.le 0 20 ∧ ar.lt 20 (ar.ilen i.2.snd) ∧ ar.le 0 21 ∧ ar.lt 21 (ar.ilen i.2.snd) ∧ ar.le 0 22 ∧ ar.lt 22 (ar.ilen i.2.snd) ∧ ar.le 0 23 ∧ ar.lt 23
    (ar.ilen i.2.snd) ∧ ∃ (y : List Int), PL.carriedPost x y ∧ ar.iget i.2.snd 0 = y.getD 0 0 ∧ ar.iget i.2.snd 1 = y.getD 1 0 ∧ ar.iget i.2.snd 2 = y.getD 2 0 ∧ ar.iget i.2.snd 3
    = y.getD 3 0 ∧ ar.iget i.2.snd 4 = y.getD 4 0 ∧ ar.iget i.2.snd 5 = y.getD 5 0 ∧ ar.iget i.2.snd 6 = y.getD 6 0 ∧ ar.iget i.2.snd 7 = y.getD 7 0 ∧ ar.iget i.2.snd 8 = y.getD 8
    0 ∧ ar.iget i.2.snd 9 = y.getD 9 0 ∧ ar.iget i.2.snd 10 = y.getD 10 0 ∧ ar.iget i.2.snd 11 = y.getD 11 0 ∧ ar.iget i.2.snd 12 = y.getD 12 0 ∧ ar.iget i.2.snd 13 = y.getD 13 0 ∧
    ar.iget i.2.snd 14 = y.getD 14 0 ∧ ar.iget i.2.snd 15 = y.getD 15 0 ∧ ar.iget i.2.snd 16 = y.getD 16 0 ∧ ar.iget i.2.snd 17 = y.getD 17 0 ∧ ar.iget i.2.snd 18 = y.getD 18 0 ∧
    ar.iget i.2.snd 19 = y.getD 19 0 ∧ ar.iget i.2.snd 20 = y.getD 20 0 ∧ ar.iget i.2.snd 21 = y.getD 21 0 ∧ ar.iget i.2.snd 22 = y.getD 22 0 ∧ ar.iget i.2.snd 23 = y.getD 23 0 ∧
    True)) := by
  kernel_rfl
end Go.Eng


/- Poly: walks. -/
set_option linter.unusedVariables false
set_option linter.unusedSectionVars false
namespace Go.Eng
variable [CW : CWorld]
open Go.Proofs
open Go.PL (L5 MacS)
set_option maxRecDepth 100000
theorem vc35 (ar : AR) (x : List Int × List Int) : (run ar PP r41a (numInvs x.1 x.2) 1000 35 0 (Try.f35.body.getD .skip) ([.agg (aggN x.1), .agg (aggN x.2)] ++ List.replicate (Try.f35.ntmps - 2) .any) [] (endCall ar PP Try.f35.results.toList (addSpec.fin x))) = (
    (∃ (i : Nat × List Int), PL.AddOK x.fst x.snd i.fst i.snd ∧ x.fst.getD 0 0 = x.fst.getD 0 0 ∧ x.fst.getD 1 0 = x.fst.getD 1 0 ∧ x.fst.getD 2 0 = x.fst.getD 2 0 ∧ x.fst.getD 3 0
    = x.fst.getD 3 0 ∧ x.fst.getD 4 0 = x.fst.getD 4 0 ∧ x.fst.getD 5 0 = x.fst.getD 5 0 ∧ x.fst.getD 6 0 = x.fst.getD 6 0 ∧ x.fst.getD 7 0 = x.fst.getD 7 0 ∧ x.fst.getD 8 0 =
    x.fst.getD 8 0 ∧ x.fst.getD 9 0 = x.fst.getD 9 0 ∧ x.fst.getD 10 0 = x.fst.getD 10 0 ∧ x.fst.getD 11 0 = x.fst.getD 11 0 ∧ x.fst.getD 12 0 = x.fst.getD 12 0 ∧ x.fst.getD 13 0 =
    x.fst.getD 13 0 ∧ x.fst.getD 14 0 = x.fst.getD 14 0 ∧ x.fst.getD 15 0 = x.fst.getD 15 0 ∧ x.fst.getD 16 0 = x.fst.getD 16 0 ∧ x.fst.getD 17 0 = x.fst.getD 17 0 ∧ x.fst.getD 18
    0 = x.fst.getD 18 0 ∧ x.fst.getD 19 0 = x.fst.getD 19 0 ∧ x.fst.getD 20 0 = x.fst.getD 20 0 ∧ x.fst.getD 21 0 = x.fst.getD 21 0 ∧ x.fst.getD 22 0 = x.fst.getD 22 0 ∧ x.fst.getD
    23 0 = x.fst.getD 23 0 ∧ x.snd.getD 0 0 = x.snd.getD 0 0 ∧ x.snd.getD 1 0 = x.snd.getD 1 0 ∧ x.snd.getD 2 0 = x.snd.getD 2 0 ∧ x.snd.getD 3 0 = x.snd.getD 3 0 ∧ x.snd.getD 4 0
    = x.snd.getD 4 0 ∧ x.snd.getD 5 0 = x.snd.getD 5 0 ∧ x.snd.getD 6 0 = x.snd.getD 6 0 ∧ x.snd.getD 7 0 = x.snd.getD 7 0 ∧ x.snd.getD 8 0 = x.snd.getD 8 0 ∧ x.snd.getD 9 0 =
    x.snd.getD 9 0 ∧ x.snd.getD 10 0 = x.snd.getD 10 0 ∧ x.snd.getD 11 0 = x.snd.getD 11 0 ∧ x.snd.getD 12 0 = x.snd.getD 12 0 ∧ x.snd.getD 13 0 = x.snd.getD 13 0 ∧ x.snd.getD 14 0
    = x.snd.getD 14 0 ∧ x.snd.getD 15 0 = x.snd.getD 15 0 ∧ x.snd.getD 16 0 = x.snd.getD 16 0 ∧ x.snd.getD 17 0 = x.snd.getD 17 0 ∧ x.snd.getD 18 0 = x.snd.getD 18 0 ∧ x.snd.getD
    19 0 = x.snd.getD 19 0 ∧ x.snd.getD 20 0 = x.snd.getD 20 0 ∧ x.snd.getD 21 0 = x.snd.getD 21 0 ∧ x.snd.getD 22 0 = x.snd.getD 22 0 ∧ x.snd.getD 23 0 = x.snd.getD 23 0 ∧ 0 =
    (↑i.fst : Int) ∧ [x.fst.getD 0 0, x.fst.getD 1 0, x.fst.getD 2 0, x.fst.getD 3 0, x.fst.getD 4 0, x.fst.getD 5 0, x.fst.getD 6 0, x.fst.getD 7 0, x.fst.getD 8 0, x.fst.getD 9
    0, x.fst.getD 10 0, x.fst.getD 11 0, x.fst.getD 12 0, x.fst.getD 13 0, x.fst.getD 14 0, x.fst.getD 15 0, x.fst.getD 16 0, x.fst.getD 17 0, x.fst.getD 18 0, x.fst.getD 19 0,
    x.fst.getD 20 0, x.fst.getD 21 0, x.fst.getD 22 0, x.fst.getD 23 0] = i.snd ∧ [x.snd.getD 0 0, x.snd.getD 1 0, x.snd.getD 2 0, x.snd.getD 3 0, x.snd.getD 4 0, x.snd.getD 5 0,
    x.snd.getD 6 0, x.snd.getD 7 0, x.snd.getD 8 0, x.snd.getD 9 0, x.snd.getD 10 0, x.snd.getD 11 0, x.snd.getD 12 0, x.snd.getD 13 0, x.snd.getD 14 0, x.snd.getD 15 0, x.snd.getD
    16 0, x.snd.getD 17 0, x.snd.getD 18 0, x.snd.getD 19 0, x.snd.getD 20 0, x.snd.getD 21 0, x.snd.getD 22 0, x.snd.getD 23 0] = x.snd ∧ True) ∧ ∀ (i : Nat × List Int), PL.AddOK
    x.fst x.snd i.fst i.snd → (ar.lt (↑i.fst : Int) 24 → ar.le 0 (↑i.fst : Int) ∧ ar.lt (↑i.fst : Int) 24 ∧ ar.le 0 (↑i.fst : Int) ∧ ar.lt (↑i.fst : Int) (ar.ilen i.snd) ∧ ar.le 0
    (↑i.fst : Int) ∧ ar.lt (↑i.fst : Int) 24 ∧ ar.le 0 (↑i.fst : Int) ∧ ar.lt (↑i.fst : Int) (ar.ilen x.snd) ∧ ∀ (z : Int), z = ar.wrap IntKind.i64 (ar.add (ar.iget i.snd (↑i.fst :
    Int)) (ar.iget x.snd (↑i.fst : Int))) → ar.le 0 (↑i.fst : Int) ∧ ar.lt (↑i.fst : Int) 24 ∧ ar.le 0 (↑i.fst : Int) ∧ ar.lt (↑i.fst : Int) (ar.ilen i.snd) ∧ ∀ (z_1 : Int), z_1 =
    ar.wrap IntKind.i64 (ar.add (↑i.fst : Int) 1) → ∃ (j : Nat × List Int), PL.AddOK x.fst x.snd j.fst j.snd ∧ (Nat.sub 24 j.fst).lt (Nat.sub 24 i.fst) ∧ x.fst.getD 0 0 =
    x.fst.getD 0 0 ∧ x.fst.getD 1 0 = x.fst.getD 1 0 ∧ x.fst.getD 2 0 = x.fst.getD 2 0 ∧ x.fst.getD 3 0 = x.fst.getD 3 0 ∧ x.fst.getD 4 0 = x.fst.getD 4 0 ∧ x.fst.getD 5 0 =
    x.fst.getD 5 0 ∧ x.fst.getD 6 0 = x.fst.getD 6 0 ∧ x.fst.getD 7 0 = x.fst.getD 7 0 ∧ x.fst.getD 8 0 = x.fst.getD 8 0 ∧ x.fst.getD 9 0 = x.fst.getD 9 0 ∧ x.fst.getD 10 0 =
    x.fst.getD 10 0 ∧ x.fst.getD 11 0 = x.fst.getD 11 0 ∧ x.fst.getD 12 0 = x.fst.getD 12 0 ∧ x.fst.getD 13 0 = x.fst.getD 13 0 ∧ x.fst.getD 14 0 = x.fst.getD 14 0 ∧ x.fst.getD 15
    0 = x.fst.getD 15 0 ∧ x.fst.getD 16 0 = x.fst.getD 16 0 ∧ x.fst.getD 17 0 = x.fst.getD 17 0 ∧ x.fst.getD 18 0 = x.fst.getD 18 0 ∧ x.fst.getD 19 0 = x.fst.getD 19 0 ∧ x.fst.getD
    20 0 = x.fst.getD 20 0 ∧ x.fst.getD 21 0 = x.fst.getD 21 0 ∧ x.fst.getD 22 0 = x.fst.getD 22 0 ∧ x.fst.getD 23 0 = x.fst.getD 23 0 ∧ x.snd.getD 0 0 = x.snd.getD 0 0 ∧
    x.snd.getD 1 0 = x.snd.getD 1 0 ∧ x.snd.getD 2 0 = x.snd.getD 2 0 ∧ x.snd.getD 3 0 = x.snd.getD 3 0 ∧ x.snd.getD 4 0 = x.snd.getD 4 0 ∧ x.snd.getD 5 0 = x.snd.getD 5 0 ∧
    x.snd.getD 6 0 = x.snd.getD 6 0 ∧ x.snd.getD 7 0 = x.snd.getD 7 0 ∧ x.snd.getD 8 0 = x.snd.getD 8 0 ∧ x.snd.getD 9 0 = x.snd.getD 9 0 ∧ x.snd.getD 10 0 = x.snd.getD 10 0 ∧
    x.snd.getD 11 0 = x.snd.getD 11 0 ∧ x.snd.getD 12 0 = x.snd.getD 12 0 ∧ x.snd.getD 13 0 = x.snd.getD 13 0 ∧ x.snd.getD 14 0 = x.snd.getD 14 0 ∧ x.snd.getD 15 0 = x.snd.getD 15
    0 ∧ x.snd.getD 16 0 = x.snd.getD 16 0 ∧ x.snd.getD 17 0 = x.snd.getD 17 0 ∧ x.snd.getD 18 0 = x.snd.getD 18 0 ∧ x.snd.getD 19 0 = x.snd.getD 19 0 ∧ x.snd.getD 20 0 = x.snd.getD
    20 0 ∧ x.snd.getD 21 0 = x.snd.getD 21 0 ∧ x.snd.getD 22 0 = x.snd.getD 22 0 ∧ x.snd.getD 23 0 = x.snd.getD 23 0 ∧ z_1 = (↑j.fst : Int) ∧ ar.iset i.snd (↑i.fst : Int) z = j.snd
    ∧ x.snd = x.snd ∧ True) ∧ (¬ar.lt (↑i.fst : Int) 24 → ar.le 0 0 ∧ ar.lt 0 (ar.ilen i.snd) ∧ ar.le 0 1 ∧ ar.lt 1 (ar.ilen i.snd) ∧ ar.le 0 2 ∧ ar.lt 2 (ar.ilen i.snd) ∧ ar.le 0
    3 ∧ ar.lt 3 (ar.ilen i.snd) ∧ ar.le 0 4 ∧ ar.lt 4 (ar.ilen i.snd) ∧ ar.le 0 5 ∧ ar.lt 5 (ar.ilen i.snd) ∧ ar.le 0 6 ∧ ar.lt 6 (ar.ilen i.snd) ∧ ar.le 0 7 ∧ ar.lt 7 (ar.ilen
    i.snd) ∧ ar.le 0 8 ∧ ar.lt 8 (ar.ilen i.snd) ∧ ar.le 0 9 ∧ ar.lt 9 (ar.ilen i.snd) ∧ ar.le 0 10 ∧ ar.lt 10 (ar.ilen i.snd) ∧ ar.le 0 11 ∧ ar.lt 11 (ar.ilen i.snd) ∧ ar.le 0 12
    ∧ ar.lt 12 (ar.ilen i.snd) ∧ ar.le 0 13 ∧ ar.lt 13 (ar.ilen i.snd) ∧ ar.le 0 14 ∧ ar.lt 14 (ar.ilen i.snd) ∧ ar.le 0 15 ∧ ar.lt 15 (ar.ilen i.snd) ∧ ar.le 0 16 ∧ ar.lt 16
    (ar.ilen i.snd) ∧ ar.le 0 17 ∧ ar.lt 17 (ar.ilen i.snd) ∧ ar.le 0 18 ∧ ar.lt 18 (ar.ilen i.snd) ∧ ar.le 0 19 ∧ ar.lt 19 (ar.ilen i.snd) ∧ ar.le 0 20 ∧ ar.lt 20 (ar.ilen i.snd)
    ∧ ar.le 0 21 ∧ ar.lt 21 (ar.ilen i.snd) ∧ ar.le 0 22 ∧ ar.lt 22 (ar.ilen i.snd) ∧ ar.le 0 23 ∧ ar.lt 23 (ar.ilen i.snd) ∧ ∃ (x_1 : List Int), ar.iget i.snd 0 = x_1.getD 0 0 ∧
    ar.iget i.snd 1 = x_1.getD 1 0 ∧ ar.iget i.snd 2 = x_1.getD 2 0 ∧ ar.iget i.snd 3 = x_1.getD 3 0 ∧ ar.iget i.snd 4 = x_1.getD 4 0 ∧ ar.iget i.snd 5 = x_1.getD 5 0 ∧ ar.iget
    i.snd 6 = x_1.getD 6 0 ∧ ar.iget i.snd 7 = x_1.getD 7 0 ∧ ar.iget i.snd 8 = x_1.getD 8 0 ∧ ar.iget i.snd 9 = x_1.getD 9 0 ∧ ar.iget i.snd 10 = x_1.getD 10 0 ∧ ar.iget i.snd 11
    = x_1.getD 11 0 ∧ ar.iget i.snd 12 = x_1.getD 12 0 ∧ ar.iget i.snd 13 = x_1.getD 13 0 ∧ ar.iget i.snd 14 = x_1.getD 14 0 ∧ ar.iget i.snd 15 = x_1.getD 15 0 ∧ ar.iget i.snd 16 =
    x_1.getD 16 0 ∧ ar.iget i.snd 17 = x_1.getD 17 0 ∧ ar.iget i.snd 18 = x_1.getD 18 0 ∧ ar.iget i.snd 19 = x_1.getD 19 0 ∧ ar.iget i.snd 20 = x_1.getD 20 0 ∧ ar.iget i.snd 21 =
    x_1.getD 21 0 ∧ ar.iget i.snd 22 = x_1.getD 22 0 ∧ ar.iget i.snd 23 = x_1.getD 23 0 ∧ PL.Loose x_1 ∧ ∀ (y : List Int), PL.carriedPost x_1 y → ∃ (y_1 : List Int), PL.addPost
    x.fst x.snd y_1 ∧ y.getD 0 0 = y_1.getD 0 0 ∧ y.getD 1 0 = y_1.getD 1 0 ∧ y.getD 2 0 = y_1.getD 2 0 ∧ y.getD 3 0 = y_1.getD 3 0 ∧ y.getD 4 0 = y_1.getD 4 0 ∧ y.getD 5 0 =
    y_1.getD 5 0 ∧ y.getD 6 0 = y_1.getD 6 0 ∧ y.getD 7 0 = y_1.getD 7 0 ∧ y.getD 8 0 = y_1.getD 8 0 ∧ y.getD 9 0 = y_1.getD 9 0 ∧ y.getD 10 0 = y_1.getD 10 0 ∧ y.getD 11 0 =
    y_1.getD 11 0 ∧ y.getD 12 0 = y_1.getD 12 0 ∧ y.getD 13 0 = y_1.getD 13 0 ∧ y.getD 14 0 = y_1.getD 14 0 ∧ y.getD 15 0 = y_1.getD 15 0 ∧ y.getD 16 0 = y_1.getD 16 0 ∧ y.getD 17
    0 = y_1.getD 17 0 ∧ y.getD 18 0 = y_1.getD 18 0 ∧ y.getD 19 0 = y_1.getD 19 0 ∧ y.getD 20 0 = y_1.getD 20 0 ∧ y.getD 21 0 = y_1.getD 21 0 ∧ y.getD 22 0 = y_1.getD 22 0 ∧ y.getD
    23 0 = y_1.getD 23 0 ∧ True)) := by
  kernel_rfl
end Go.Eng


/- Poly: walks. -/
set_option linter.unusedVariables false
set_option linter.unusedSectionVars false
namespace Go.Eng
variable [CW : CWorld]
open Go.Proofs
open Go.PL (L5 MacS)
set_option maxRecDepth 100000
theorem vc40 (ar : AR) (x : List Int) : (run ar PP r41a (numInvs x []) 1000 40 0 (Try.f40.body.getD .skip) ([.agg (aggN x)] ++ List.replicate (Try.f40.ntmps - 1) .any) [] (endCall ar PP Try.f40.results.toList (fiveSpec.fin x))) = (
    (∃ (i : Nat × List Int), PL.FiveOK x i.fst i.snd ∧ x.getD 0 0 = x.getD 0 0 ∧ x.getD 1 0 = x.getD 1 0 ∧ x.getD 2 0 = x.getD 2 0 ∧ x.getD 3 0 = x.getD 3 0 ∧ x.getD 4 0 = x.getD 4
    0 ∧ x.getD 5 0 = x.getD 5 0 ∧ x.getD 6 0 = x.getD 6 0 ∧ x.getD 7 0 = x.getD 7 0 ∧ x.getD 8 0 = x.getD 8 0 ∧ x.getD 9 0 = x.getD 9 0 ∧ x.getD 10 0 = x.getD 10 0 ∧ x.getD 11 0 =
    x.getD 11 0 ∧ x.getD 12 0 = x.getD 12 0 ∧ x.getD 13 0 = x.getD 13 0 ∧ x.getD 14 0 = x.getD 14 0 ∧ x.getD 15 0 = x.getD 15 0 ∧ x.getD 16 0 = x.getD 16 0 ∧ x.getD 17 0 = x.getD
    17 0 ∧ x.getD 18 0 = x.getD 18 0 ∧ x.getD 19 0 = x.getD 19 0 ∧ x.getD 20 0 = x.getD 20 0 ∧ x.getD 21 0 = x.getD 21 0 ∧ x.getD 22 0 = x.getD 22 0 ∧ x.getD 23 0 = x.getD 23 0 ∧ 0
    = (↑i.fst : Int) ∧ [x.getD 0 0, x.getD 1 0, x.getD 2 0, x.getD 3 0, x.getD 4 0, x.getD 5 0, x.getD 6 0, x.getD 7 0, x.getD 8 0, x.getD 9 0, x.getD 10 0, x.getD 11 0, x.getD 12
    0, x.getD 13 0, x.getD 14 0, x.getD 15 0, x.getD 16 0, x.getD 17 0, x.getD 18 0, x.getD 19 0, x.getD 20 0, x.getD 21 0, x.getD 22 0, x.getD 23 0] = i.snd ∧ True) ∧ ∀ (i : Nat ×
    List Int), PL.FiveOK x i.fst i.snd → (ar.lt (↑i.fst : Int) 24 → ar.le 0 (↑i.fst : Int) ∧ ar.lt (↑i.fst : Int) 24 ∧ ar.le 0 (↑i.fst : Int) ∧ ar.lt (↑i.fst : Int) (ar.ilen i.snd)
    ∧ ∀ (z : Int), z = ar.wrap IntKind.i64 (ar.mul (ar.iget i.snd (↑i.fst : Int)) 5) → ar.le 0 (↑i.fst : Int) ∧ ar.lt (↑i.fst : Int) 24 ∧ ar.le 0 (↑i.fst : Int) ∧ ar.lt (↑i.fst :
    Int) (ar.ilen i.snd) ∧ ∀ (z_1 : Int), z_1 = ar.wrap IntKind.i64 (ar.add (↑i.fst : Int) 1) → ∃ (j : Nat × List Int), PL.FiveOK x j.fst j.snd ∧ (Nat.sub 24 j.fst).lt (Nat.sub 24
    i.fst) ∧ x.getD 0 0 = x.getD 0 0 ∧ x.getD 1 0 = x.getD 1 0 ∧ x.getD 2 0 = x.getD 2 0 ∧ x.getD 3 0 = x.getD 3 0 ∧ x.getD 4 0 = x.getD 4 0 ∧ x.getD 5 0 = x.getD 5 0 ∧ x.getD 6 0
    = x.getD 6 0 ∧ x.getD 7 0 = x.getD 7 0 ∧ x.getD 8 0 = x.getD 8 0 ∧ x.getD 9 0 = x.getD 9 0 ∧ x.getD 10 0 = x.getD 10 0 ∧ x.getD 11 0 = x.getD 11 0 ∧ x.getD 12 0 = x.getD 12 0 ∧
    x.getD 13 0 = x.getD 13 0 ∧ x.getD 14 0 = x.getD 14 0 ∧ x.getD 15 0 = x.getD 15 0 ∧ x.getD 16 0 = x.getD 16 0 ∧ x.getD 17 0 = x.getD 17 0 ∧ x.getD 18 0 = x.getD 18 0 ∧ x.getD
    19 0 = x.getD 19 0 ∧ x.getD 20 0 = x.getD 20 0 ∧ x.getD 21 0 = x.getD 21 0 ∧ x.getD 22 0 = x.getD 22 0 ∧ x.getD 23 0 = x.getD 23 0 ∧ z_1 = (↑j.fst : Int) ∧ ar.iset i.snd
    (↑i.fst : Int) z = j.snd ∧ True) ∧ (¬ar.lt (↑i.fst : Int) 24 → ar.le 0 0 ∧ ar.lt 0 (ar.ilen i.snd) ∧ ar.le 0 1 ∧ ar.lt 1 (ar.ilen i.snd) ∧ ar.le 0 2 ∧ ar.lt 2 (ar.ilen i.snd) ∧
    ar.le 0 3 ∧ ar.lt 3 (ar.ilen i.snd) ∧ ar.le 0 4 ∧ ar.lt 4 (ar.ilen i.snd) ∧ ar.le 0 5 ∧ ar.lt 5 (ar.ilen i.snd) ∧ ar.le 0 6 ∧ ar.lt 6 (ar.ilen i.snd) ∧ ar.le 0 7 ∧ ar.lt 7
    (ar.ilen i.snd) ∧ ar.le 0 8 ∧ ar.lt 8 (ar.ilen i.snd) ∧ ar.le 0 9 ∧ ar.lt 9 (ar.ilen i.snd) ∧ ar.le 0 10 ∧ ar.lt 10 (ar.ilen i.snd) ∧ ar.le 0 11 ∧ ar.lt 11 (ar.ilen i.snd) ∧
    ar.le 0 12 ∧ ar.lt 12 (ar.ilen i.snd) ∧ ar.le 0 13 ∧ ar.lt 13 (ar.ilen i.snd) ∧ ar.le 0 14 ∧ ar.lt 14 (ar.ilen i.snd) ∧ ar.le 0 15 ∧ ar.lt 15 (ar.ilen i.snd) ∧ ar.le 0 16 ∧
    ar.lt 16 (ar.ilen i.snd) ∧ ar.le 0 17 ∧ ar.lt 17 (ar.ilen i.snd) ∧ ar.le 0 18 ∧ ar.lt 18 (ar.ilen i.snd) ∧ ar.le 0 19 ∧ ar.lt 19 (ar.ilen i.snd) ∧ ar.le 0 20 ∧ ar.lt 20
    (ar.ilen i.snd) ∧ ar.le 0 21 ∧ ar.lt 21 (ar.ilen i.snd) ∧ ar.le 0 22 ∧ ar.lt 22 (ar.ilen i.snd) ∧ ar.le 0 23 ∧ ar.lt 23 (ar.ilen i.snd) ∧ ∃ (x_1 : List Int), ar.iget i.snd 0 =
    x_1.getD 0 0 ∧ ar.iget i.snd 1 = x_1.getD 1 0 ∧ ar.iget i.snd 2 = x_1.getD 2 0 ∧ ar.iget i.snd 3 = x_1.getD 3 0 ∧ ar.iget i.snd 4 = x_1.getD 4 0 ∧ ar.iget i.snd 5 = x_1.getD 5
    0 ∧ ar.iget i.snd 6 = x_1.getD 6 0 ∧ ar.iget i.snd 7 = x_1.getD 7 0 ∧ ar.iget i.snd 8 = x_1.getD 8 0 ∧ ar.iget i.snd 9 = x_1.getD 9 0 ∧ ar.iget i.snd 10 = x_1.getD 10 0 ∧
    ar.iget i.snd 11 = x_1.getD 11 0 ∧ ar.iget i.snd 12 = x_1.getD 12 0 ∧ ar.iget i.snd 13 = x_1.getD 13 0 ∧ ar.iget i.snd 14 = x_1.getD 14 0 ∧ ar.iget i.snd 15 = x_1.getD 15 0 ∧
    ar.iget i.snd 16 = x_1.getD 16 0 ∧ ar.iget i.snd 17 = x_1.getD 17 0 ∧ ar.iget i.snd 18 = x_1.getD 18 0 ∧ ar.iget i.snd 19 = x_1.getD 19 0 ∧ ar.iget i.snd 20 = x_1.getD 20 0 ∧
    ar.iget i.snd 21 = x_1.getD 21 0 ∧ ar.iget i.snd 22 = x_1.getD 22 0 ∧ ar.iget i.snd 23 = x_1.getD 23 0 ∧ PL.Loose x_1 ∧ ∀ (y : List Int), PL.carriedPost x_1 y → ∃ (y_1 : List
    Int), PL.fivePost x y_1 ∧ y.getD 0 0 = y_1.getD 0 0 ∧ y.getD 1 0 = y_1.getD 1 0 ∧ y.getD 2 0 = y_1.getD 2 0 ∧ y.getD 3 0 = y_1.getD 3 0 ∧ y.getD 4 0 = y_1.getD 4 0 ∧ y.getD 5 0
    = y_1.getD 5 0 ∧ y.getD 6 0 = y_1.getD 6 0 ∧ y.getD 7 0 = y_1.getD 7 0 ∧ y.getD 8 0 = y_1.getD 8 0 ∧ y.getD 9 0 = y_1.getD 9 0 ∧ y.getD 10 0 = y_1.getD 10 0 ∧ y.getD 11 0 =
    y_1.getD 11 0 ∧ y.getD 12 0 = y_1.getD 12 0 ∧ y.getD 13 0 = y_1.getD 13 0 ∧ y.getD 14 0 = y_1.getD 14 0 ∧ y.getD 15 0 = y_1.getD 15 0 ∧ y.getD 16 0 = y_1.getD 16 0 ∧ y.getD 17
    0 = y_1.getD 17 0 ∧ y.getD 18 0 = y_1.getD 18 0 ∧ y.getD 19 0 = y_1.getD 19 0 ∧ y.getD 20 0 = y_1.getD 20 0 ∧ y.getD 21 0 = y_1.getD 21 0 ∧ y.getD 22 0 = y_1.getD 22 0 ∧ y.getD
    23 0 = y_1.getD 23 0 ∧ True)) := by
  kernel_rfl
end Go.Eng


/- Poly: walks. -/
set_option linter.unusedVariables false
set_option linter.unusedSectionVars false
namespace Go.Eng
variable [CW : CWorld]
open Go.Proofs
open Go.PL (L5 MacS)
set_option maxRecDepth 100000
theorem vc39 (ar : AR) (x : List Int) : (run ar PP noSpec (numInvs x []) 1000 39 0 (Try.f39.body.getD .skip) ([.agg (aggN x)] ++ List.replicate (Try.f39.ntmps - 1) .any) [] (endCall ar PP Try.f39.results.toList (zeroSpec.fin x))) = (
    (∃ (i : Nat), PL.ZeroOK x i ∧ x.getD 0 0 = x.getD 0 0 ∧ x.getD 1 0 = x.getD 1 0 ∧ x.getD 2 0 = x.getD 2 0 ∧ x.getD 3 0 = x.getD 3 0 ∧ x.getD 4 0 = x.getD 4 0 ∧ x.getD 5 0 =
    x.getD 5 0 ∧ x.getD 6 0 = x.getD 6 0 ∧ x.getD 7 0 = x.getD 7 0 ∧ x.getD 8 0 = x.getD 8 0 ∧ x.getD 9 0 = x.getD 9 0 ∧ x.getD 10 0 = x.getD 10 0 ∧ x.getD 11 0 = x.getD 11 0 ∧
    x.getD 12 0 = x.getD 12 0 ∧ x.getD 13 0 = x.getD 13 0 ∧ x.getD 14 0 = x.getD 14 0 ∧ x.getD 15 0 = x.getD 15 0 ∧ x.getD 16 0 = x.getD 16 0 ∧ x.getD 17 0 = x.getD 17 0 ∧ x.getD
    18 0 = x.getD 18 0 ∧ x.getD 19 0 = x.getD 19 0 ∧ x.getD 20 0 = x.getD 20 0 ∧ x.getD 21 0 = x.getD 21 0 ∧ x.getD 22 0 = x.getD 22 0 ∧ x.getD 23 0 = x.getD 23 0 ∧ 0 = (↑i : Int)
    ∧ [x.getD 0 0, x.getD 1 0, x.getD 2 0, x.getD 3 0, x.getD 4 0, x.getD 5 0, x.getD 6 0, x.getD 7 0, x.getD 8 0, x.getD 9 0, x.getD 10 0, x.getD 11 0, x.getD 12 0, x.getD 13 0,
    x.getD 14 0, x.getD 15 0, x.getD 16 0, x.getD 17 0, x.getD 18 0, x.getD 19 0, x.getD 20 0, x.getD 21 0, x.getD 22 0, x.getD 23 0] = x ∧ True) ∧ ∀ (i : Nat), PL.ZeroOK x i →
    (ar.lt (↑i : Int) 24 → ar.le 0 (↑i : Int) ∧ ar.lt (↑i : Int) 24 ∧ ar.le 0 (↑i : Int) ∧ ar.lt (↑i : Int) (ar.ilen x) ∧ (¬ar.eq (ar.iget x (↑i : Int)) 0 → ∃ (y : Unit), True ∧
    (false = true ↔ PL.b16 x = 0) ∧ True) ∧ (¬¬ar.eq (ar.iget x (↑i : Int)) 0 → ∀ (z : Int), z = ar.wrap IntKind.i64 (ar.add (↑i : Int) 1) → ∃ (j : Nat), PL.ZeroOK x j ∧ (Nat.sub
    24 j).lt (Nat.sub 24 i) ∧ x.getD 0 0 = x.getD 0 0 ∧ x.getD 1 0 = x.getD 1 0 ∧ x.getD 2 0 = x.getD 2 0 ∧ x.getD 3 0 = x.getD 3 0 ∧ x.getD 4 0 = x.getD 4 0 ∧ x.getD 5 0 = x.getD
    5 0 ∧ x.getD 6 0 = x.getD 6 0 ∧ x.getD 7 0 = x.getD 7 0 ∧ x.getD 8 0 = x.getD 8 0 ∧ x.getD 9 0 = x.getD 9 0 ∧ x.getD 10 0 = x.getD 10 0 ∧ x.getD 11 0 = x.getD 11 0 ∧ x.getD 12
    0 = x.getD 12 0 ∧ x.getD 13 0 = x.getD 13 0 ∧ x.getD 14 0 = x.getD 14 0 ∧ x.getD 15 0 = x.getD 15 0 ∧ x.getD 16 0 = x.getD 16 0 ∧ x.getD 17 0 = x.getD 17 0 ∧ x.getD 18 0 =
    x.getD 18 0 ∧ x.getD 19 0 = x.getD 19 0 ∧ x.getD 20 0 = x.getD 20 0 ∧ x.getD 21 0 = x.getD 21 0 ∧ x.getD 22 0 = x.getD 22 0 ∧ x.getD 23 0 = x.getD 23 0 ∧ z = (↑j : Int) ∧ x = x
    ∧ True)) ∧ (¬ar.lt (↑i : Int) 24 → ∃ (y : Unit), True ∧ (true = true ↔ PL.b16 x = 0) ∧ True)) := by
  kernel_rfl
end Go.Eng


/- Poly: the document's own numbers: carried, add, five, zero hold their contracts. -/
set_option linter.unusedSimpArgs false
set_option linter.unusedVariables false
set_option linter.unusedSectionVars false
set_option maxRecDepth 100000
namespace Go.Eng
variable [CW : CWorld]
open Go.Proofs

theorem ints24 {l : List Int} (h : l.length = 24) : [l.getD 0 0, l.getD 1 0, l.getD 2 0, l.getD 3 0, l.getD 4 0, l.getD 5 0, l.getD 6 0, l.getD 7 0, l.getD 8 0, l.getD 9 0, l.getD 10 0, l.getD 11 0, l.getD 12 0, l.getD 13 0, l.getD 14 0, l.getD 15 0, l.getD 16 0, l.getD 17 0, l.getD 18 0, l.getD 19 0, l.getD 20 0, l.getD 21 0, l.getD 22 0, l.getD 23 0] = l := PL.tab_self h
/-- i is a place of a list of 24. -/
theorem at24 {i : Nat} (h : i < 24) {l : List Int} (hl : l.length = 24) : ar0.le 0 (i : Int) ∧ ar0.lt (i : Int) 24 ∧ ar0.le 0 (i : Int) ∧ ar0.lt (i : Int) (ar0.ilen l) :=
  ⟨Int.natCast_nonneg i, by show (i : Int) < 24; omega, Int.natCast_nonneg i, by show (i : Int) < (l.length : Int); omega⟩
theorem lt24 {l : List Int} (hl : l.length = 24) : ∀ k : Nat, decide (k < 24) = true → ar0.lt (k : Int) (ar0.ilen l) := fun k hk => by
  have := of_decide_eq_true hk
  show (k : Int) < (l.length : Int)
  omega
theorem next24 {i : Nat} (h : i < 24) {z : Int} (hz : z = ar0.wrap .i64 (ar0.add (i : Int) 1)) : z = ((i + 1 : Nat) : Int) := by
  rw [hz]
  show IntKind.i64.wrap ((i : Int) + 1) = _
  rw [wrap_i64 (by omega) (by omega)]
  omega
theorem nlt24 {i : Nat} (h : ¬ ar0.lt (i : Int) 24) (hi : i ≤ 24) : i = 24 := by
  have : ¬ (i : Int) < 24 := h
  omega

theorem carriedSpec_ok : carriedSpec.OK PP 41 := by
  refine Spec.ok_of_run (fn := Try.f41) (c := Try.f41.body.getD .skip) (by kernel_rfl) (by kernel_rfl) (by kernel_rfl) (specs := noSpec) noSpec_ok (fun x => numInvs x []) 1000 ?_
  intro (x : List Int) ⟨hx, hb⟩
  refine (vc41 ar0 x).mpr ?_
  refine ⟨⟨(0, 0, x), ⟨Nat.zero_le _, hx, by show (0 : Int) ≤ 0 ∧ (0 : Int) ≤ 2199023255552; omega, by simp, by simp, by simp [PL.b16]⟩, ?_⟩, ?_⟩
  · and_intros <;> first | rfl | trivial | exact ints24 hx
  rintro ⟨i, c, l⟩ hok
  dsimp only at hok ⊢
  have hi := hok.hi
  have hl := hok.len
  have hc := hok.hc
  refine ⟨fun hlt => ?_, fun hge => ?_⟩
  · replace hlt : i < 24 := by
      have : (i : Int) < 24 := hlt
      omega
    obtain ⟨s1, s2, s3, s4⟩ := at24 hlt hl
    refine ⟨s1, s2, s3, s4, ?_⟩
    intro z hz z1 hz1
    have hg : ar0.iget l (i : Int) = x.getD i 0 := by
      show l.getD (i : Int).toNat 0 = _
      rw [Int.toNat_natCast]
      have := congrArg (fun m => m.getD 0 0) hok.rest
      simpa [List.getD, List.getElem?_drop] using this
    have hd := PL.getD_le hb (show i < x.length by omega)
    replace hz : z = x.getD i 0 + c := by
      rw [hz, hg]
      exact wrap_i64 (by show _ ≤ x.getD i 0 + c; omega) (by show x.getD i 0 + c < _; omega)
    replace hz1 : z1 = z % 65536 := by
      rw [hz1]
      exact Int.tmod_eq_emod_of_nonneg (by omega)
    refine ⟨s1, s2, s3, s4, ?_⟩
    intro z2 hz2
    replace hz2 : z2 = z / 65536 := by
      rw [hz2]
      show IntKind.i64.wrap (z.tdiv 65536) = _
      rw [Int.tdiv_eq_ediv_of_nonneg (by omega), wrap_i64 (by omega) (by omega)]
    intro z3 hz3
    have st := PL.carry_step hok hx hb hlt hz
    refine ⟨(i + 1, z / 65536, l.set i (z % 65536)), st, by show 24 - (i + 1) < 24 - i; omega, ?_⟩
    have hset : ar0.iset l (i : Int) z1 = l.set i (z % 65536) := by
      rw [hz1]; rfl
    and_intros <;> first | rfl | trivial | exact hz2 | exact next24 hlt hz3 | exact hset
  · obtain rfl := nlt24 hge hi
    have hlt := lt24 hl
    refine ⟨le_ar rfl, hlt 0 (by decide), le_ar rfl, hlt 1 (by decide), le_ar rfl, hlt 2 (by decide), le_ar rfl, hlt 3 (by decide), le_ar rfl, hlt 4 (by decide), le_ar rfl, hlt 5 (by decide), le_ar rfl, hlt 6 (by decide), le_ar rfl, hlt 7 (by decide), le_ar rfl, hlt 8 (by decide), le_ar rfl, hlt 9 (by decide), le_ar rfl, hlt 10 (by decide), le_ar rfl, hlt 11 (by decide), le_ar rfl, hlt 12 (by decide), le_ar rfl, hlt 13 (by decide), le_ar rfl, hlt 14 (by decide), le_ar rfl, hlt 15 (by decide), le_ar rfl, hlt 16 (by decide), le_ar rfl, hlt 17 (by decide), le_ar rfl, hlt 18 (by decide), le_ar rfl, hlt 19 (by decide), le_ar rfl, hlt 20 (by decide), le_ar rfl, hlt 21 (by decide), le_ar rfl, hlt 22 (by decide), le_ar rfl, hlt 23 (by decide), l, PL.carry_end hok hx, rfl, rfl, rfl, rfl, rfl, rfl, rfl, rfl, rfl, rfl, rfl, rfl, rfl, rfl, rfl, rfl, rfl, rfl, rfl, rfl, rfl, rfl, rfl, rfl, trivial⟩

theorem r41_ok_of (h : addSpec.OK PP 35) : SpecsOK PP r41 := by
  intro f xs _ S hS
  unfold r41 at hS
  split at hS
  · cases hS; exact carriedSpec_ok
  · cases hS; exact h
  · cases hS
theorem r41a_ok : SpecsOK PP r41a := by
  intro f xs _ S hS
  unfold r41a at hS
  split at hS
  · cases hS; exact carriedSpec_ok
  · cases hS


theorem addSpec_ok : addSpec.OK PP 35 := by
  refine Spec.ok_of_run (fn := Try.f35) (c := Try.f35.body.getD .skip) (by kernel_rfl) (by kernel_rfl) (by kernel_rfl) r41a_ok (fun x => numInvs x.1 x.2) 1000 ?_
  rintro ⟨a, b⟩ ⟨⟨ha, hda⟩, ⟨hb, hdb⟩⟩
  replace ha : a.length = 24 := ha
  replace hb : b.length = 24 := hb
  replace hda : ∀ x ∈ a, 0 ≤ x ∧ x < 65536 := hda
  replace hdb : ∀ x ∈ b, 0 ≤ x ∧ x < 65536 := hdb
  refine (vc35 ar0 (a, b)).mpr ?_
  refine ⟨⟨(0, a), ⟨Nat.zero_le _, ?_⟩, ?_⟩, ?_⟩
  · exact (PL.tab_self ha).symm.trans (PL.tab_congr fun i _ => by rw [if_neg (by omega)])
  · and_intros <;> first | rfl | trivial | exact ints24 ha | exact ints24 hb
  rintro ⟨i, l⟩ hok
  dsimp only at hok ⊢
  have hi := hok.hi
  have he := hok.eq
  have hl : l.length = 24 := by rw [he]; simp
  refine ⟨fun hlt => ?_, fun hge => ?_⟩
  · replace hlt : i < 24 := by
      have : (i : Int) < 24 := hlt
      omega
    obtain ⟨s1, s2, s3, s4⟩ := at24 hlt hl
    have ga := PL.getD_dig hda (show i < a.length by omega)
    have gb := PL.getD_dig hdb (show i < b.length by omega)
    obtain ⟨u1, u2, u3, u4⟩ := at24 hlt hb
    refine ⟨s1, s2, s3, s4, u1, u2, u3, u4, ?_⟩
    intro z hz
    have hg : ar0.iget l (i : Int) = a.getD i 0 := by
      show l.getD (i : Int).toNat 0 = _
      rw [Int.toNat_natCast, he]
      show (PL.tab 24 _).getD i 0 = _
      rw [PL.tab_getD _ hlt, if_neg (by omega)]
    replace hz : z = a.getD i 0 + b.getD i 0 := by
      rw [hz, hg]
      exact wrap_i64 (by show _ ≤ a.getD i 0 + b.getD i 0; omega) (by show a.getD i 0 + b.getD i 0 < _; omega)
    refine ⟨s1, s2, s3, s4, ?_⟩
    intro z1 hz1
    refine ⟨(i + 1, l.set i z), ⟨by omega, ?_⟩, by show 24 - (i + 1) < 24 - i; omega, ?_⟩
    · rw [he]
      show (PL.tab 24 _).set i z = _
      rw [PL.tab_set]
      refine PL.tab_congr fun j hj => ?_
      by_cases e : j = i
      · subst e
        rw [if_pos rfl, if_pos (by omega), hz]
      · rw [if_neg e]
        by_cases hji : j < i
        · rw [if_pos hji, if_pos (by omega)]
        · rw [if_neg hji, if_neg (by omega)]
    · and_intros <;> first | rfl | trivial | exact next24 hlt hz1
  · obtain rfl := nlt24 hge hi
    have hlt := lt24 hl
    have he' : l = PL.tab 24 fun j => a.getD j 0 + b.getD j 0 := he.trans (PL.tab_congr fun j hj => by rw [if_pos hj])
    refine ⟨le_ar rfl, hlt 0 (by decide), le_ar rfl, hlt 1 (by decide), le_ar rfl, hlt 2 (by decide), le_ar rfl, hlt 3 (by decide), le_ar rfl, hlt 4 (by decide), le_ar rfl, hlt 5 (by decide), le_ar rfl, hlt 6 (by decide), le_ar rfl, hlt 7 (by decide), le_ar rfl, hlt 8 (by decide), le_ar rfl, hlt 9 (by decide), le_ar rfl, hlt 10 (by decide), le_ar rfl, hlt 11 (by decide), le_ar rfl, hlt 12 (by decide), le_ar rfl, hlt 13 (by decide), le_ar rfl, hlt 14 (by decide), le_ar rfl, hlt 15 (by decide), le_ar rfl, hlt 16 (by decide), le_ar rfl, hlt 17 (by decide), le_ar rfl, hlt 18 (by decide), le_ar rfl, hlt 19 (by decide), le_ar rfl, hlt 20 (by decide), le_ar rfl, hlt 21 (by decide), le_ar rfl, hlt 22 (by decide), le_ar rfl, hlt 23 (by decide), l, rfl, rfl, rfl, rfl, rfl, rfl, rfl, rfl, rfl, rfl, rfl, rfl, rfl, rfl, rfl, rfl, rfl, rfl, rfl, rfl, rfl, rfl, rfl, rfl, ⟨hl, fun d hd => ?_⟩, fun y hy => ?_⟩
    · rw [he'] at hd
      obtain ⟨j, hj, rfl⟩ := PL.tab_mem hd
      have ga := PL.getD_dig hda (show j < a.length by omega)
      have gb := PL.getD_dig hdb (show j < b.length by omega)
      omega
    · refine ⟨y, ⟨hy.num, ?_⟩, rfl, rfl, rfl, rfl, rfl, rfl, rfl, rfl, rfl, rfl, rfl, rfl, rfl, rfl, rfl, rfl, rfl, rfl, rfl, rfl, rfl, rfl, rfl, rfl, trivial⟩
      rw [hy.val, he']
      rw [PL.b16_tab_add, PL.tab_self ha, PL.tab_self hb]

theorem fiveSpec_ok : fiveSpec.OK PP 40 := by
  refine Spec.ok_of_run (fn := Try.f40) (c := Try.f40.body.getD .skip) (by kernel_rfl) (by kernel_rfl) (by kernel_rfl) r41a_ok (fun x => numInvs x []) 1000 ?_
  intro (a : List Int) ⟨ha, hda⟩
  refine (vc40 ar0 a).mpr ?_
  refine ⟨⟨(0, a), ⟨Nat.zero_le _, ?_⟩, ?_⟩, ?_⟩
  · exact (PL.tab_self ha).symm.trans (PL.tab_congr fun i _ => by rw [if_neg (by omega)])
  · and_intros <;> first | rfl | trivial | exact ints24 ha
  rintro ⟨i, l⟩ hok
  dsimp only at hok ⊢
  have hi := hok.hi
  have he := hok.eq
  have hl : l.length = 24 := by rw [he]; simp
  refine ⟨fun hlt => ?_, fun hge => ?_⟩
  · replace hlt : i < 24 := by
      have : (i : Int) < 24 := hlt
      omega
    obtain ⟨s1, s2, s3, s4⟩ := at24 hlt hl
    have ga := PL.getD_dig hda (show i < a.length by omega)
    refine ⟨s1, s2, s3, s4, ?_⟩
    intro z hz
    have hg : ar0.iget l (i : Int) = a.getD i 0 := by
      show l.getD (i : Int).toNat 0 = _
      rw [Int.toNat_natCast, he]
      show (PL.tab 24 _).getD i 0 = _
      rw [PL.tab_getD _ hlt, if_neg (by omega)]
    replace hz : z = a.getD i 0 * 5 := by
      rw [hz, hg]
      exact wrap_i64 (by show _ ≤ a.getD i 0 * 5; omega) (by show a.getD i 0 * 5 < _; omega)
    refine ⟨s1, s2, s3, s4, ?_⟩
    intro z1 hz1
    refine ⟨(i + 1, l.set i z), ⟨by omega, ?_⟩, by show 24 - (i + 1) < 24 - i; omega, ?_⟩
    · rw [he]
      show (PL.tab 24 _).set i z = _
      rw [PL.tab_set]
      refine PL.tab_congr fun j hj => ?_
      by_cases e : j = i
      · subst e
        rw [if_pos rfl, if_pos (by omega), hz]
      · rw [if_neg e]
        by_cases hji : j < i
        · rw [if_pos hji, if_pos (by omega)]
        · rw [if_neg hji, if_neg (by omega)]
    · and_intros <;> first | rfl | trivial | exact next24 hlt hz1
  · obtain rfl := nlt24 hge hi
    have hlt := lt24 hl
    have he' : l = PL.tab 24 fun j => a.getD j 0 * 5 := he.trans (PL.tab_congr fun j hj => by rw [if_pos hj])
    refine ⟨le_ar rfl, hlt 0 (by decide), le_ar rfl, hlt 1 (by decide), le_ar rfl, hlt 2 (by decide), le_ar rfl, hlt 3 (by decide), le_ar rfl, hlt 4 (by decide), le_ar rfl, hlt 5 (by decide), le_ar rfl, hlt 6 (by decide), le_ar rfl, hlt 7 (by decide), le_ar rfl, hlt 8 (by decide), le_ar rfl, hlt 9 (by decide), le_ar rfl, hlt 10 (by decide), le_ar rfl, hlt 11 (by decide), le_ar rfl, hlt 12 (by decide), le_ar rfl, hlt 13 (by decide), le_ar rfl, hlt 14 (by decide), le_ar rfl, hlt 15 (by decide), le_ar rfl, hlt 16 (by decide), le_ar rfl, hlt 17 (by decide), le_ar rfl, hlt 18 (by decide), le_ar rfl, hlt 19 (by decide), le_ar rfl, hlt 20 (by decide), le_ar rfl, hlt 21 (by decide), le_ar rfl, hlt 22 (by decide), le_ar rfl, hlt 23 (by decide), l, rfl, rfl, rfl, rfl, rfl, rfl, rfl, rfl, rfl, rfl, rfl, rfl, rfl, rfl, rfl, rfl, rfl, rfl, rfl, rfl, rfl, rfl, rfl, rfl, ⟨hl, fun d hd => ?_⟩, fun y hy => ?_⟩
    · rw [he'] at hd
      obtain ⟨j, hj, rfl⟩ := PL.tab_mem hd
      have ga := PL.getD_dig hda (show j < a.length by omega)
      omega
    · refine ⟨y, ⟨hy.num, ?_⟩, rfl, rfl, rfl, rfl, rfl, rfl, rfl, rfl, rfl, rfl, rfl, rfl, rfl, rfl, rfl, rfl, rfl, rfl, rfl, rfl, rfl, rfl, rfl, rfl, trivial⟩
      rw [hy.val, he']
      have : (PL.tab 24 fun j => a.getD j 0 * 5) = PL.tab 24 fun j => 5 * a.getD j 0 := PL.tab_congr fun j _ => Int.mul_comm _ _
      rw [this, PL.b16_tab_mul, PL.tab_self ha]

theorem r41_ok : SpecsOK PP r41 := r41_ok_of addSpec_ok

theorem b16_zero : ∀ (l : List Int), (∀ x ∈ l, 0 ≤ x ∧ x < 65536) → (PL.b16 l = 0 ↔ ∀ x ∈ l, x = 0)
  | [], _ => by simp [PL.b16]
  | x :: l, h => by
    have ih := b16_zero l (fun y hy => h y (by simp [hy]))
    have hx := h x (by simp)
    have hn := PL.b16_nonneg l (fun y hy => (h y (by simp [hy])).1)
    simp only [PL.b16, List.mem_cons, forall_eq_or_imp, ← ih]
    omega

theorem zeroSpec_ok : zeroSpec.OK PP 39 := by
  refine Spec.ok_of_run (fn := Try.f39) (c := Try.f39.body.getD .skip) (by kernel_rfl) (by kernel_rfl) (by kernel_rfl) (specs := noSpec) noSpec_ok (fun x => numInvs x []) 1000 ?_
  intro (x : List Int) ⟨hx, hd⟩
  refine (vc39 ar0 x).mpr ?_
  refine ⟨⟨0, ⟨by decide, fun j hj => by omega⟩, ?_⟩, ?_⟩
  · and_intros <;> first | rfl | trivial | exact ints24 hx
  intro i hok
  have hi := hok.hi
  refine ⟨fun hlt => ?_, fun hge => ?_⟩
  · replace hlt : i < 24 := by
      have : (i : Int) < 24 := hlt
      omega
    obtain ⟨s1, s2, s3, s4⟩ := at24 hlt hx
    refine ⟨s1, s2, s3, s4, fun hne => ⟨(), trivial, ⟨fun h => absurd h Bool.false_ne_true, fun h => ?_⟩, trivial⟩, fun heq => ?_⟩
    · have hm := (b16_zero x hd).1 h (x.getD i 0) (by
        have : x.getD i 0 = x[i] := by simp [List.getD, hx, hlt]
        rw [this]
        exact List.getElem_mem _)
      exact absurd hm hne
    · have hz0 : x.getD i 0 = 0 := Classical.byContradiction heq
      intro z hz
      refine ⟨i + 1, ⟨by omega, fun j hj => ?_⟩, by show 24 - (i + 1) < 24 - i; omega, ?_⟩
      · by_cases e : j = i
        · subst e; exact hz0
        · exact hok.eq j (by omega)
      · and_intros <;> first | rfl | trivial | exact next24 hlt hz
  · obtain rfl := nlt24 hge hi
    refine ⟨(), trivial, ⟨fun _ => (b16_zero x hd).2 fun y hy => ?_, fun _ => rfl⟩, trivial⟩
    obtain ⟨j, hj⟩ := List.getElem?_of_mem hy
    have hjl := (List.getElem?_eq_some_iff.1 hj).1
    have := hok.eq j (by omega)
    simpa [List.getD, hj] using this
end Go.Eng

/- Poly: walks. -/
set_option linter.unusedVariables false
set_option linter.unusedSectionVars false
namespace Go.Eng
variable [CW : CWorld]
open Go.Proofs
open Go.PL (L5 MacS)
set_option maxRecDepth 100000
theorem vc34 (ar : AR) (x : List Int × List Int) : (run ar PP r41 (numInvs x.1 x.2) 1000 34 0 (Try.f34.body.getD .skip) ([.agg (aggN x.1), .agg (aggN x.2)] ++ List.replicate (Try.f34.ntmps - 2) .any) [] (endCall ar PP Try.f34.results.toList (timesSpec.fin x))) = (
    (∃ (i : Nat × List Int), PL.TimesOK x.fst x.snd i.fst i.snd ∧ x.fst.getD 0 0 = x.fst.getD 0 0 ∧ x.fst.getD 1 0 = x.fst.getD 1 0 ∧ x.fst.getD 2 0 = x.fst.getD 2 0 ∧ x.fst.getD 3
    0 = x.fst.getD 3 0 ∧ x.fst.getD 4 0 = x.fst.getD 4 0 ∧ x.fst.getD 5 0 = x.fst.getD 5 0 ∧ x.fst.getD 6 0 = x.fst.getD 6 0 ∧ x.fst.getD 7 0 = x.fst.getD 7 0 ∧ x.fst.getD 8 0 =
    x.fst.getD 8 0 ∧ x.fst.getD 9 0 = x.fst.getD 9 0 ∧ x.fst.getD 10 0 = x.fst.getD 10 0 ∧ x.fst.getD 11 0 = x.fst.getD 11 0 ∧ x.fst.getD 12 0 = x.fst.getD 12 0 ∧ x.fst.getD 13 0 =
    x.fst.getD 13 0 ∧ x.fst.getD 14 0 = x.fst.getD 14 0 ∧ x.fst.getD 15 0 = x.fst.getD 15 0 ∧ x.fst.getD 16 0 = x.fst.getD 16 0 ∧ x.fst.getD 17 0 = x.fst.getD 17 0 ∧ x.fst.getD 18
    0 = x.fst.getD 18 0 ∧ x.fst.getD 19 0 = x.fst.getD 19 0 ∧ x.fst.getD 20 0 = x.fst.getD 20 0 ∧ x.fst.getD 21 0 = x.fst.getD 21 0 ∧ x.fst.getD 22 0 = x.fst.getD 22 0 ∧ x.fst.getD
    23 0 = x.fst.getD 23 0 ∧ x.snd.getD 0 0 = x.snd.getD 0 0 ∧ x.snd.getD 1 0 = x.snd.getD 1 0 ∧ x.snd.getD 2 0 = x.snd.getD 2 0 ∧ x.snd.getD 3 0 = x.snd.getD 3 0 ∧ x.snd.getD 4 0
    = x.snd.getD 4 0 ∧ x.snd.getD 5 0 = x.snd.getD 5 0 ∧ x.snd.getD 6 0 = x.snd.getD 6 0 ∧ x.snd.getD 7 0 = x.snd.getD 7 0 ∧ x.snd.getD 8 0 = x.snd.getD 8 0 ∧ x.snd.getD 9 0 =
    x.snd.getD 9 0 ∧ x.snd.getD 10 0 = x.snd.getD 10 0 ∧ x.snd.getD 11 0 = x.snd.getD 11 0 ∧ x.snd.getD 12 0 = x.snd.getD 12 0 ∧ x.snd.getD 13 0 = x.snd.getD 13 0 ∧ x.snd.getD 14 0
    = x.snd.getD 14 0 ∧ x.snd.getD 15 0 = x.snd.getD 15 0 ∧ x.snd.getD 16 0 = x.snd.getD 16 0 ∧ x.snd.getD 17 0 = x.snd.getD 17 0 ∧ x.snd.getD 18 0 = x.snd.getD 18 0 ∧ x.snd.getD
    19 0 = x.snd.getD 19 0 ∧ x.snd.getD 20 0 = x.snd.getD 20 0 ∧ x.snd.getD 21 0 = x.snd.getD 21 0 ∧ x.snd.getD 22 0 = x.snd.getD 22 0 ∧ x.snd.getD 23 0 = x.snd.getD 23 0 ∧ 0 =
    (↑i.fst : Int) ∧ [x.fst.getD 0 0, x.fst.getD 1 0, x.fst.getD 2 0, x.fst.getD 3 0, x.fst.getD 4 0, x.fst.getD 5 0, x.fst.getD 6 0, x.fst.getD 7 0, x.fst.getD 8 0, x.fst.getD 9
    0, x.fst.getD 10 0, x.fst.getD 11 0, x.fst.getD 12 0, x.fst.getD 13 0, x.fst.getD 14 0, x.fst.getD 15 0, x.fst.getD 16 0, x.fst.getD 17 0, x.fst.getD 18 0, x.fst.getD 19 0,
    x.fst.getD 20 0, x.fst.getD 21 0, x.fst.getD 22 0, x.fst.getD 23 0] = x.fst ∧ [x.snd.getD 0 0, x.snd.getD 1 0, x.snd.getD 2 0, x.snd.getD 3 0, x.snd.getD 4 0, x.snd.getD 5 0,
    x.snd.getD 6 0, x.snd.getD 7 0, x.snd.getD 8 0, x.snd.getD 9 0, x.snd.getD 10 0, x.snd.getD 11 0, x.snd.getD 12 0, x.snd.getD 13 0, x.snd.getD 14 0, x.snd.getD 15 0, x.snd.getD
    16 0, x.snd.getD 17 0, x.snd.getD 18 0, x.snd.getD 19 0, x.snd.getD 20 0, x.snd.getD 21 0, x.snd.getD 22 0, x.snd.getD 23 0] = x.snd ∧ [0, 0, 0, 0, 0, 0, 0, 0, 0, 0, 0, 0, 0,
    0, 0, 0, 0, 0, 0, 0, 0, 0, 0, 0] = i.snd ∧ True) ∧ ∀ (i : Nat × List Int), PL.TimesOK x.fst x.snd i.fst i.snd → (ar.lt (↑i.fst : Int) 9 → (∃ (i_1 : Nat × List Int), PL.RowsOK
    x.fst x.snd (↑i.fst : Int).toNat i_1.fst i_1.snd ∧ x.fst.getD 0 0 = x.fst.getD 0 0 ∧ x.fst.getD 1 0 = x.fst.getD 1 0 ∧ x.fst.getD 2 0 = x.fst.getD 2 0 ∧ x.fst.getD 3 0 =
    x.fst.getD 3 0 ∧ x.fst.getD 4 0 = x.fst.getD 4 0 ∧ x.fst.getD 5 0 = x.fst.getD 5 0 ∧ x.fst.getD 6 0 = x.fst.getD 6 0 ∧ x.fst.getD 7 0 = x.fst.getD 7 0 ∧ x.fst.getD 8 0 =
    x.fst.getD 8 0 ∧ x.fst.getD 9 0 = x.fst.getD 9 0 ∧ x.fst.getD 10 0 = x.fst.getD 10 0 ∧ x.fst.getD 11 0 = x.fst.getD 11 0 ∧ x.fst.getD 12 0 = x.fst.getD 12 0 ∧ x.fst.getD 13 0 =
    x.fst.getD 13 0 ∧ x.fst.getD 14 0 = x.fst.getD 14 0 ∧ x.fst.getD 15 0 = x.fst.getD 15 0 ∧ x.fst.getD 16 0 = x.fst.getD 16 0 ∧ x.fst.getD 17 0 = x.fst.getD 17 0 ∧ x.fst.getD 18
    0 = x.fst.getD 18 0 ∧ x.fst.getD 19 0 = x.fst.getD 19 0 ∧ x.fst.getD 20 0 = x.fst.getD 20 0 ∧ x.fst.getD 21 0 = x.fst.getD 21 0 ∧ x.fst.getD 22 0 = x.fst.getD 22 0 ∧ x.fst.getD
    23 0 = x.fst.getD 23 0 ∧ x.snd.getD 0 0 = x.snd.getD 0 0 ∧ x.snd.getD 1 0 = x.snd.getD 1 0 ∧ x.snd.getD 2 0 = x.snd.getD 2 0 ∧ x.snd.getD 3 0 = x.snd.getD 3 0 ∧ x.snd.getD 4 0
    = x.snd.getD 4 0 ∧ x.snd.getD 5 0 = x.snd.getD 5 0 ∧ x.snd.getD 6 0 = x.snd.getD 6 0 ∧ x.snd.getD 7 0 = x.snd.getD 7 0 ∧ x.snd.getD 8 0 = x.snd.getD 8 0 ∧ x.snd.getD 9 0 =
    x.snd.getD 9 0 ∧ x.snd.getD 10 0 = x.snd.getD 10 0 ∧ x.snd.getD 11 0 = x.snd.getD 11 0 ∧ x.snd.getD 12 0 = x.snd.getD 12 0 ∧ x.snd.getD 13 0 = x.snd.getD 13 0 ∧ x.snd.getD 14 0
    = x.snd.getD 14 0 ∧ x.snd.getD 15 0 = x.snd.getD 15 0 ∧ x.snd.getD 16 0 = x.snd.getD 16 0 ∧ x.snd.getD 17 0 = x.snd.getD 17 0 ∧ x.snd.getD 18 0 = x.snd.getD 18 0 ∧ x.snd.getD
    19 0 = x.snd.getD 19 0 ∧ x.snd.getD 20 0 = x.snd.getD 20 0 ∧ x.snd.getD 21 0 = x.snd.getD 21 0 ∧ x.snd.getD 22 0 = x.snd.getD 22 0 ∧ x.snd.getD 23 0 = x.snd.getD 23 0 ∧ (↑i.fst
    : Int) = (↑i.fst : Int) ∧ 0 = (↑i_1.fst : Int) ∧ (↑i.fst : Int) = (↑i.fst : Int) ∧ (ar.lt (↑i.fst : Int) 9 ↔ ar.lt (↑i.fst : Int) 9) ∧ x.fst = x.fst ∧ x.snd = x.snd ∧ i.snd =
    i.snd ∧ [0, 0, 0, 0, 0, 0, 0, 0, 0, 0, 0, 0, 0, 0, 0, 0, 0, 0, 0, 0, 0, 0, 0, 0] = i_1.snd ∧ True) ∧ ∀ (i_1 : Nat × List Int), PL.RowsOK x.fst x.snd (↑i.fst : Int).toNat
    i_1.fst i_1.snd → (ar.lt (↑i_1.fst : Int) 9 → ∀ (z : Int), z = ar.wrap IntKind.i64 (ar.add (↑i.fst : Int) (↑i_1.fst : Int)) → ar.le 0 (↑i.fst : Int) ∧ ar.lt (↑i.fst : Int) 24 ∧
    ar.le 0 (↑i.fst : Int) ∧ ar.lt (↑i.fst : Int) (ar.ilen x.fst) ∧ ar.le 0 (↑i_1.fst : Int) ∧ ar.lt (↑i_1.fst : Int) 24 ∧ ar.le 0 (↑i_1.fst : Int) ∧ ar.lt (↑i_1.fst : Int)
    (ar.ilen x.snd) ∧ ∀ (z_1 : Int), z_1 = ar.wrap IntKind.i64 (ar.mul (ar.iget x.fst (↑i.fst : Int)) (ar.iget x.snd (↑i_1.fst : Int))) → ar.le 0 z ∧ ar.lt z 24 ∧ ar.le 0 z ∧ ar.lt
    z (ar.ilen i_1.snd) ∧ ∀ (z_2 : Int), z_2 = ar.wrap IntKind.i64 (ar.add (↑i_1.fst : Int) 1) → ∃ (j : Nat × List Int), PL.RowsOK x.fst x.snd (↑i.fst : Int).toNat j.fst j.snd ∧
    (Nat.sub 9 j.fst).lt (Nat.sub 9 i_1.fst) ∧ x.fst.getD 0 0 = x.fst.getD 0 0 ∧ x.fst.getD 1 0 = x.fst.getD 1 0 ∧ x.fst.getD 2 0 = x.fst.getD 2 0 ∧ x.fst.getD 3 0 = x.fst.getD 3 0
    ∧ x.fst.getD 4 0 = x.fst.getD 4 0 ∧ x.fst.getD 5 0 = x.fst.getD 5 0 ∧ x.fst.getD 6 0 = x.fst.getD 6 0 ∧ x.fst.getD 7 0 = x.fst.getD 7 0 ∧ x.fst.getD 8 0 = x.fst.getD 8 0 ∧
    x.fst.getD 9 0 = x.fst.getD 9 0 ∧ x.fst.getD 10 0 = x.fst.getD 10 0 ∧ x.fst.getD 11 0 = x.fst.getD 11 0 ∧ x.fst.getD 12 0 = x.fst.getD 12 0 ∧ x.fst.getD 13 0 = x.fst.getD 13 0
    ∧ x.fst.getD 14 0 = x.fst.getD 14 0 ∧ x.fst.getD 15 0 = x.fst.getD 15 0 ∧ x.fst.getD 16 0 = x.fst.getD 16 0 ∧ x.fst.getD 17 0 = x.fst.getD 17 0 ∧ x.fst.getD 18 0 = x.fst.getD
    18 0 ∧ x.fst.getD 19 0 = x.fst.getD 19 0 ∧ x.fst.getD 20 0 = x.fst.getD 20 0 ∧ x.fst.getD 21 0 = x.fst.getD 21 0 ∧ x.fst.getD 22 0 = x.fst.getD 22 0 ∧ x.fst.getD 23 0 =
    x.fst.getD 23 0 ∧ x.snd.getD 0 0 = x.snd.getD 0 0 ∧ x.snd.getD 1 0 = x.snd.getD 1 0 ∧ x.snd.getD 2 0 = x.snd.getD 2 0 ∧ x.snd.getD 3 0 = x.snd.getD 3 0 ∧ x.snd.getD 4 0 =
    x.snd.getD 4 0 ∧ x.snd.getD 5 0 = x.snd.getD 5 0 ∧ x.snd.getD 6 0 = x.snd.getD 6 0 ∧ x.snd.getD 7 0 = x.snd.getD 7 0 ∧ x.snd.getD 8 0 = x.snd.getD 8 0 ∧ x.snd.getD 9 0 =
    x.snd.getD 9 0 ∧ x.snd.getD 10 0 = x.snd.getD 10 0 ∧ x.snd.getD 11 0 = x.snd.getD 11 0 ∧ x.snd.getD 12 0 = x.snd.getD 12 0 ∧ x.snd.getD 13 0 = x.snd.getD 13 0 ∧ x.snd.getD 14 0
    = x.snd.getD 14 0 ∧ x.snd.getD 15 0 = x.snd.getD 15 0 ∧ x.snd.getD 16 0 = x.snd.getD 16 0 ∧ x.snd.getD 17 0 = x.snd.getD 17 0 ∧ x.snd.getD 18 0 = x.snd.getD 18 0 ∧ x.snd.getD
    19 0 = x.snd.getD 19 0 ∧ x.snd.getD 20 0 = x.snd.getD 20 0 ∧ x.snd.getD 21 0 = x.snd.getD 21 0 ∧ x.snd.getD 22 0 = x.snd.getD 22 0 ∧ x.snd.getD 23 0 = x.snd.getD 23 0 ∧ (↑i.fst
    : Int) = (↑i.fst : Int) ∧ z_2 = (↑j.fst : Int) ∧ (↑i.fst : Int) = (↑i.fst : Int) ∧ (ar.lt (↑i.fst : Int) 9 ↔ ar.lt (↑i.fst : Int) 9) ∧ x.fst = x.fst ∧ x.snd = x.snd ∧ i.snd =
    i.snd ∧ ar.iset i_1.snd z z_1 = j.snd ∧ True) ∧ (¬ar.lt (↑i_1.fst : Int) 9 → ar.le 0 0 ∧ ar.lt 0 (ar.ilen i.snd) ∧ ar.le 0 1 ∧ ar.lt 1 (ar.ilen i.snd) ∧ ar.le 0 2 ∧ ar.lt 2
    (ar.ilen i.snd) ∧ ar.le 0 3 ∧ ar.lt 3 (ar.ilen i.snd) ∧ ar.le 0 4 ∧ ar.lt 4 (ar.ilen i.snd) ∧ ar.le 0 5 ∧ ar.lt 5 (ar.ilen i.snd) ∧ ar.le 0 6 ∧ ar.lt 6 (ar.ilen i.snd) ∧ ar.le
    0 7 ∧ ar.lt 7 (ar.ilen i.snd) ∧ ar.le 0 8 ∧ ar.lt 8 (ar.ilen i.snd) ∧ ar.le 0 9 ∧ ar.lt 9 (ar.ilen i.snd) ∧ ar.le 0 10 ∧ ar.lt 10 (ar.ilen i.snd) ∧ ar.le 0 11 ∧ ar.lt 11
    (ar.ilen i.snd) ∧ ar.le 0 12 ∧ ar.lt 12 (ar.ilen i.snd) ∧ ar.le 0 13 ∧ ar.lt 13 (ar.ilen i.snd) ∧ ar.le 0 14 ∧ ar.lt 14 (ar.ilen i.snd) ∧ ar.le 0 15 ∧ ar.lt 15 (ar.ilen i.snd)
    ∧ ar.le 0 16 ∧ ar.lt 16 (ar.ilen i.snd) ∧ ar.le 0 17 ∧ ar.lt 17 (ar.ilen i.snd) ∧ ar.le 0 18 ∧ ar.lt 18 (ar.ilen i.snd) ∧ ar.le 0 19 ∧ ar.lt 19 (ar.ilen i.snd) ∧ ar.le 0 20 ∧
    ar.lt 20 (ar.ilen i.snd) ∧ ar.le 0 21 ∧ ar.lt 21 (ar.ilen i.snd) ∧ ar.le 0 22 ∧ ar.lt 22 (ar.ilen i.snd) ∧ ar.le 0 23 ∧ ar.lt 23 (ar.ilen i.snd) ∧ ar.le 0 0 ∧ ar.lt 0 (ar.ilen
    i_1.snd) ∧ ar.le 0 1 ∧ ar.lt 1 (ar.ilen i_1.snd) ∧ ar.le 0 2 ∧ ar.lt 2 (ar.ilen i_1.snd) ∧ ar.le 0 3 ∧ ar.lt 3 (ar.ilen i_1.snd) ∧ ar.le 0 4 ∧ ar.lt 4 (ar.ilen i_1.snd) ∧ ar.le
    0 5 ∧ ar.lt 5 (ar.ilen i_1.snd) ∧ ar.le 0 6 ∧ ar.lt 6 (ar.ilen i_1.snd) ∧ ar.le 0 7 ∧ ar.lt 7 (ar.ilen i_1.snd) ∧ ar.le 0 8 ∧ ar.lt 8 (ar.ilen i_1.snd) ∧ ar.le 0 9 ∧ ar.lt 9
    (ar.ilen i_1.snd) ∧ ar.le 0 10 ∧ ar.lt 10 (ar.ilen i_1.snd) ∧ ar.le 0 11 ∧ ar.lt 11 (ar.ilen i_1.snd) ∧ ar.le 0 12 ∧ ar.lt 12 (ar.ilen i_1.snd) ∧ ar.le 0 13 ∧ ar.lt 13 (ar.ilen
    i_1.snd) ∧ ar.le 0 14 ∧ ar.lt 14 (ar.ilen i_1.snd) ∧ ar.le 0 15 ∧ ar.lt 15 (ar.ilen i_1.snd) ∧ ar.le 0 16 ∧ ar.lt 16 (ar.ilen i_1.snd) ∧ ar.le 0 17 ∧ ar.lt 17 (ar.ilen i_1.snd)
    ∧ ar.le 0 18 ∧ ar.lt 18 (ar.ilen i_1.snd) ∧ ar.le 0 19 ∧ ar.lt 19 (ar.ilen i_1.snd) ∧ ar.le 0 20 ∧ ar.lt 20 (ar.ilen i_1.snd) ∧ ar.le 0 21 ∧ ar.lt 21 (ar.ilen i_1.snd) ∧ ar.le
    0 22 ∧ ar.lt 22 (ar.ilen i_1.snd) ∧ ar.le 0 23 ∧ ar.lt 23 (ar.ilen i_1.snd) ∧ ∃ (x_1 : List Int), ar.iget i_1.snd 0 = x_1.getD 0 0 ∧ ar.iget i_1.snd 1 = x_1.getD 1 0 ∧ ar.iget
    i_1.snd 2 = x_1.getD 2 0 ∧ ar.iget i_1.snd 3 = x_1.getD 3 0 ∧ ar.iget i_1.snd 4 = x_1.getD 4 0 ∧ ar.iget i_1.snd 5 = x_1.getD 5 0 ∧ ar.iget i_1.snd 6 = x_1.getD 6 0 ∧ ar.iget
    i_1.snd 7 = x_1.getD 7 0 ∧ ar.iget i_1.snd 8 = x_1.getD 8 0 ∧ ar.iget i_1.snd 9 = x_1.getD 9 0 ∧ ar.iget i_1.snd 10 = x_1.getD 10 0 ∧ ar.iget i_1.snd 11 = x_1.getD 11 0 ∧
    ar.iget i_1.snd 12 = x_1.getD 12 0 ∧ ar.iget i_1.snd 13 = x_1.getD 13 0 ∧ ar.iget i_1.snd 14 = x_1.getD 14 0 ∧ ar.iget i_1.snd 15 = x_1.getD 15 0 ∧ ar.iget i_1.snd 16 =
    x_1.getD 16 0 ∧ ar.iget i_1.snd 17 = x_1.getD 17 0 ∧ ar.iget i_1.snd 18 = x_1.getD 18 0 ∧ ar.iget i_1.snd 19 = x_1.getD 19 0 ∧ ar.iget i_1.snd 20 = x_1.getD 20 0 ∧ ar.iget
    i_1.snd 21 = x_1.getD 21 0 ∧ ar.iget i_1.snd 22 = x_1.getD 22 0 ∧ ar.iget i_1.snd 23 = x_1.getD 23 0 ∧ PL.Loose x_1 ∧ ∀ (y : List Int), PL.carriedPost x_1 y → ∃ (x_2 : List Int
    × List Int), ar.iget i.snd 0 = x_2.fst.getD 0 0 ∧ ar.iget i.snd 1 = x_2.fst.getD 1 0 ∧ ar.iget i.snd 2 = x_2.fst.getD 2 0 ∧ ar.iget i.snd 3 = x_2.fst.getD 3 0 ∧ ar.iget i.snd 4
    = x_2.fst.getD 4 0 ∧ ar.iget i.snd 5 = x_2.fst.getD 5 0 ∧ ar.iget i.snd 6 = x_2.fst.getD 6 0 ∧ ar.iget i.snd 7 = x_2.fst.getD 7 0 ∧ ar.iget i.snd 8 = x_2.fst.getD 8 0 ∧ ar.iget
    i.snd 9 = x_2.fst.getD 9 0 ∧ ar.iget i.snd 10 = x_2.fst.getD 10 0 ∧ ar.iget i.snd 11 = x_2.fst.getD 11 0 ∧ ar.iget i.snd 12 = x_2.fst.getD 12 0 ∧ ar.iget i.snd 13 =
    x_2.fst.getD 13 0 ∧ ar.iget i.snd 14 = x_2.fst.getD 14 0 ∧ ar.iget i.snd 15 = x_2.fst.getD 15 0 ∧ ar.iget i.snd 16 = x_2.fst.getD 16 0 ∧ ar.iget i.snd 17 = x_2.fst.getD 17 0 ∧
    ar.iget i.snd 18 = x_2.fst.getD 18 0 ∧ ar.iget i.snd 19 = x_2.fst.getD 19 0 ∧ ar.iget i.snd 20 = x_2.fst.getD 20 0 ∧ ar.iget i.snd 21 = x_2.fst.getD 21 0 ∧ ar.iget i.snd 22 =
    x_2.fst.getD 22 0 ∧ ar.iget i.snd 23 = x_2.fst.getD 23 0 ∧ y.getD 0 0 = x_2.snd.getD 0 0 ∧ y.getD 1 0 = x_2.snd.getD 1 0 ∧ y.getD 2 0 = x_2.snd.getD 2 0 ∧ y.getD 3 0 =
    x_2.snd.getD 3 0 ∧ y.getD 4 0 = x_2.snd.getD 4 0 ∧ y.getD 5 0 = x_2.snd.getD 5 0 ∧ y.getD 6 0 = x_2.snd.getD 6 0 ∧ y.getD 7 0 = x_2.snd.getD 7 0 ∧ y.getD 8 0 = x_2.snd.getD 8 0
    ∧ y.getD 9 0 = x_2.snd.getD 9 0 ∧ y.getD 10 0 = x_2.snd.getD 10 0 ∧ y.getD 11 0 = x_2.snd.getD 11 0 ∧ y.getD 12 0 = x_2.snd.getD 12 0 ∧ y.getD 13 0 = x_2.snd.getD 13 0 ∧ y.getD
    14 0 = x_2.snd.getD 14 0 ∧ y.getD 15 0 = x_2.snd.getD 15 0 ∧ y.getD 16 0 = x_2.snd.getD 16 0 ∧ y.getD 17 0 = x_2.snd.getD 17 0 ∧ y.getD 18 0 = x_2.snd.getD 18 0 ∧ y.getD 19 0 =
    x_2.snd.getD 19 0 ∧ y.getD 20 0 = x_2.snd.getD 20 0 ∧ y.getD 21 0 = x_2.snd.getD 21 0 ∧ y.getD 22 0 = x_2.snd.getD 22 0 ∧ y.getD 23 0 = x_2.snd.getD 23 0 ∧ PL.Two x_2.fst
    x_2.snd ∧ ∀ (y : List Int), PL.addPost x_2.fst x_2.snd y → ∀ (z : Int), z = ar.wrap IntKind.i64 (ar.add (↑i.fst : Int) 1) → ∃ (j : Nat × List Int), PL.TimesOK x.fst x.snd j.fst
    j.snd ∧ (Nat.sub 9 j.fst).lt (Nat.sub 9 i.fst) ∧ x.fst.getD 0 0 = x.fst.getD 0 0 ∧ x.fst.getD 1 0 = x.fst.getD 1 0 ∧ x.fst.getD 2 0 = x.fst.getD 2 0 ∧ x.fst.getD 3 0 =
    x.fst.getD 3 0 ∧ x.fst.getD 4 0 = x.fst.getD 4 0 ∧ x.fst.getD 5 0 = x.fst.getD 5 0 ∧ x.fst.getD 6 0 = x.fst.getD 6 0 ∧ x.fst.getD 7 0 = x.fst.getD 7 0 ∧ x.fst.getD 8 0 =
    x.fst.getD 8 0 ∧ x.fst.getD 9 0 = x.fst.getD 9 0 ∧ x.fst.getD 10 0 = x.fst.getD 10 0 ∧ x.fst.getD 11 0 = x.fst.getD 11 0 ∧ x.fst.getD 12 0 = x.fst.getD 12 0 ∧ x.fst.getD 13 0 =
    x.fst.getD 13 0 ∧ x.fst.getD 14 0 = x.fst.getD 14 0 ∧ x.fst.getD 15 0 = x.fst.getD 15 0 ∧ x.fst.getD 16 0 = x.fst.getD 16 0 ∧ x.fst.getD 17 0 = x.fst.getD 17 0 ∧ x.fst.getD 18
    0 = x.fst.getD 18 0 ∧ x.fst.getD 19 0 = x.fst.getD 19 0 ∧ x.fst.getD 20 0 = x.fst.getD 20 0 ∧ x.fst.getD 21 0 = x.fst.getD 21 0 ∧ x.fst.getD 22 0 = x.fst.getD 22 0 ∧ x.fst.getD
    23 0 = x.fst.getD 23 0 ∧ x.snd.getD 0 0 = x.snd.getD 0 0 ∧ x.snd.getD 1 0 = x.snd.getD 1 0 ∧ x.snd.getD 2 0 = x.snd.getD 2 0 ∧ x.snd.getD 3 0 = x.snd.getD 3 0 ∧ x.snd.getD 4 0
    = x.snd.getD 4 0 ∧ x.snd.getD 5 0 = x.snd.getD 5 0 ∧ x.snd.getD 6 0 = x.snd.getD 6 0 ∧ x.snd.getD 7 0 = x.snd.getD 7 0 ∧ x.snd.getD 8 0 = x.snd.getD 8 0 ∧ x.snd.getD 9 0 =
    x.snd.getD 9 0 ∧ x.snd.getD 10 0 = x.snd.getD 10 0 ∧ x.snd.getD 11 0 = x.snd.getD 11 0 ∧ x.snd.getD 12 0 = x.snd.getD 12 0 ∧ x.snd.getD 13 0 = x.snd.getD 13 0 ∧ x.snd.getD 14 0
    = x.snd.getD 14 0 ∧ x.snd.getD 15 0 = x.snd.getD 15 0 ∧ x.snd.getD 16 0 = x.snd.getD 16 0 ∧ x.snd.getD 17 0 = x.snd.getD 17 0 ∧ x.snd.getD 18 0 = x.snd.getD 18 0 ∧ x.snd.getD
    19 0 = x.snd.getD 19 0 ∧ x.snd.getD 20 0 = x.snd.getD 20 0 ∧ x.snd.getD 21 0 = x.snd.getD 21 0 ∧ x.snd.getD 22 0 = x.snd.getD 22 0 ∧ x.snd.getD 23 0 = x.snd.getD 23 0 ∧ z =
    (↑j.fst : Int) ∧ x.fst = x.fst ∧ x.snd = x.snd ∧ [y.getD 0 0, y.getD 1 0, y.getD 2 0, y.getD 3 0, y.getD 4 0, y.getD 5 0, y.getD 6 0, y.getD 7 0, y.getD 8 0, y.getD 9 0, y.getD
    10 0, y.getD 11 0, y.getD 12 0, y.getD 13 0, y.getD 14 0, y.getD 15 0, y.getD 16 0, y.getD 17 0, y.getD 18 0, y.getD 19 0, y.getD 20 0, y.getD 21 0, y.getD 22 0, y.getD 23 0] =
    j.snd ∧ True)) ∧ (¬ar.lt (↑i.fst : Int) 9 → ar.le 0 0 ∧ ar.lt 0 (ar.ilen i.snd) ∧ ar.le 0 1 ∧ ar.lt 1 (ar.ilen i.snd) ∧ ar.le 0 2 ∧ ar.lt 2 (ar.ilen i.snd) ∧ ar.le 0 3 ∧ ar.lt
    3 (ar.ilen i.snd) ∧ ar.le 0 4 ∧ ar.lt 4 (ar.ilen i.snd) ∧ ar.le 0 5 ∧ ar.lt 5 (ar.ilen i.snd) ∧ ar.le 0 6 ∧ ar.lt 6 (ar.ilen i.snd) ∧ ar.le 0 7 ∧ ar.lt 7 (ar.ilen i.snd) ∧
    ar.le 0 8 ∧ ar.lt 8 (ar.ilen i.snd) ∧ ar.le 0 9 ∧ ar.lt 9 (ar.ilen i.snd) ∧ ar.le 0 10 ∧ ar.lt 10 (ar.ilen i.snd) ∧ ar.le 0 11 ∧ ar.lt 11 (ar.ilen i.snd) ∧ ar.le 0 12 ∧ ar.lt
    12 (ar.ilen i.snd) ∧ ar.le 0 13 ∧ ar.lt 13 (ar.ilen i.snd) ∧ ar.le 0 14 ∧ ar.lt 14 (ar.ilen i.snd) ∧ ar.le 0 15 ∧ ar.lt 15 (ar.ilen i.snd) ∧ ar.le 0 16 ∧ ar.lt 16 (ar.ilen
    i.snd) ∧ ar.le 0 17 ∧ ar.lt 17 (ar.ilen i.snd) ∧ ar.le 0 18 ∧ ar.lt 18 (ar.ilen i.snd) ∧ ar.le 0 19 ∧ ar.lt 19 (ar.ilen i.snd) ∧ ar.le 0 20 ∧ ar.lt 20 (ar.ilen i.snd) ∧ ar.le 0
    21 ∧ ar.lt 21 (ar.ilen i.snd) ∧ ar.le 0 22 ∧ ar.lt 22 (ar.ilen i.snd) ∧ ar.le 0 23 ∧ ar.lt 23 (ar.ilen i.snd) ∧ ∃ (y : List Int), PL.timesPost x.fst x.snd y ∧ ar.iget i.snd 0 =
    y.getD 0 0 ∧ ar.iget i.snd 1 = y.getD 1 0 ∧ ar.iget i.snd 2 = y.getD 2 0 ∧ ar.iget i.snd 3 = y.getD 3 0 ∧ ar.iget i.snd 4 = y.getD 4 0 ∧ ar.iget i.snd 5 = y.getD 5 0 ∧ ar.iget
    i.snd 6 = y.getD 6 0 ∧ ar.iget i.snd 7 = y.getD 7 0 ∧ ar.iget i.snd 8 = y.getD 8 0 ∧ ar.iget i.snd 9 = y.getD 9 0 ∧ ar.iget i.snd 10 = y.getD 10 0 ∧ ar.iget i.snd 11 = y.getD
    11 0 ∧ ar.iget i.snd 12 = y.getD 12 0 ∧ ar.iget i.snd 13 = y.getD 13 0 ∧ ar.iget i.snd 14 = y.getD 14 0 ∧ ar.iget i.snd 15 = y.getD 15 0 ∧ ar.iget i.snd 16 = y.getD 16 0 ∧
    ar.iget i.snd 17 = y.getD 17 0 ∧ ar.iget i.snd 18 = y.getD 18 0 ∧ ar.iget i.snd 19 = y.getD 19 0 ∧ ar.iget i.snd 20 = y.getD 20 0 ∧ ar.iget i.snd 21 = y.getD 21 0 ∧ ar.iget
    i.snd 22 = y.getD 22 0 ∧ ar.iget i.snd 23 = y.getD 23 0 ∧ True)) := by
  kernel_rfl
end Go.Eng


/- Poly: walks. -/
set_option linter.unusedVariables false
set_option linter.unusedSectionVars false
namespace Go.Eng
variable [CW : CWorld]
open Go.Proofs
open Go.PL (L5 MacS)
set_option maxRecDepth 100000
theorem vc38 (ar : AR) (x : List Int) : (run ar PP noSpec (numInvs x []) 1000 38 0 (Try.f38.body.getD .skip) ([.agg (aggN x)] ++ List.replicate (Try.f38.ntmps - 1) .any) [] (endCall ar PP Try.f38.results.toList (partedSpec.fin x))) = (
    (∃ (i : Nat × List Int), PL.PartLow x i.fst i.snd ∧ x.getD 0 0 = x.getD 0 0 ∧ x.getD 1 0 = x.getD 1 0 ∧ x.getD 2 0 = x.getD 2 0 ∧ x.getD 3 0 = x.getD 3 0 ∧ x.getD 4 0 = x.getD
    4 0 ∧ x.getD 5 0 = x.getD 5 0 ∧ x.getD 6 0 = x.getD 6 0 ∧ x.getD 7 0 = x.getD 7 0 ∧ x.getD 8 0 = x.getD 8 0 ∧ x.getD 9 0 = x.getD 9 0 ∧ x.getD 10 0 = x.getD 10 0 ∧ x.getD 11 0
    = x.getD 11 0 ∧ x.getD 12 0 = x.getD 12 0 ∧ x.getD 13 0 = x.getD 13 0 ∧ x.getD 14 0 = x.getD 14 0 ∧ x.getD 15 0 = x.getD 15 0 ∧ x.getD 16 0 = x.getD 16 0 ∧ x.getD 17 0 = x.getD
    17 0 ∧ x.getD 18 0 = x.getD 18 0 ∧ x.getD 19 0 = x.getD 19 0 ∧ x.getD 20 0 = x.getD 20 0 ∧ x.getD 21 0 = x.getD 21 0 ∧ x.getD 22 0 = x.getD 22 0 ∧ x.getD 23 0 = x.getD 23 0 ∧ 0
    = (↑i.fst : Int) ∧ [x.getD 0 0, x.getD 1 0, x.getD 2 0, x.getD 3 0, x.getD 4 0, x.getD 5 0, x.getD 6 0, x.getD 7 0, x.getD 8 0, x.getD 9 0, x.getD 10 0, x.getD 11 0, x.getD 12
    0, x.getD 13 0, x.getD 14 0, x.getD 15 0, x.getD 16 0, x.getD 17 0, x.getD 18 0, x.getD 19 0, x.getD 20 0, x.getD 21 0, x.getD 22 0, x.getD 23 0] = x ∧ [0, 0, 0, 0, 0, 0, 0, 0,
    0, 0, 0, 0, 0, 0, 0, 0, 0, 0, 0, 0, 0, 0, 0, 0] = i.snd ∧ True) ∧ ∀ (i : Nat × List Int), PL.PartLow x i.fst i.snd → (ar.lt (↑i.fst : Int) 8 → ar.le 0 (↑i.fst : Int) ∧ ar.lt
    (↑i.fst : Int) 24 ∧ ar.le 0 (↑i.fst : Int) ∧ ar.lt (↑i.fst : Int) (ar.ilen x) ∧ ar.le 0 (↑i.fst : Int) ∧ ar.lt (↑i.fst : Int) 24 ∧ ar.le 0 (↑i.fst : Int) ∧ ar.lt (↑i.fst : Int)
    (ar.ilen i.snd) ∧ ∀ (z : Int), z = ar.wrap IntKind.i64 (ar.add (↑i.fst : Int) 1) → ∃ (j : Nat × List Int), PL.PartLow x j.fst j.snd ∧ (Nat.sub 8 j.fst).lt (Nat.sub 8 i.fst) ∧
    x.getD 0 0 = x.getD 0 0 ∧ x.getD 1 0 = x.getD 1 0 ∧ x.getD 2 0 = x.getD 2 0 ∧ x.getD 3 0 = x.getD 3 0 ∧ x.getD 4 0 = x.getD 4 0 ∧ x.getD 5 0 = x.getD 5 0 ∧ x.getD 6 0 = x.getD
    6 0 ∧ x.getD 7 0 = x.getD 7 0 ∧ x.getD 8 0 = x.getD 8 0 ∧ x.getD 9 0 = x.getD 9 0 ∧ x.getD 10 0 = x.getD 10 0 ∧ x.getD 11 0 = x.getD 11 0 ∧ x.getD 12 0 = x.getD 12 0 ∧ x.getD
    13 0 = x.getD 13 0 ∧ x.getD 14 0 = x.getD 14 0 ∧ x.getD 15 0 = x.getD 15 0 ∧ x.getD 16 0 = x.getD 16 0 ∧ x.getD 17 0 = x.getD 17 0 ∧ x.getD 18 0 = x.getD 18 0 ∧ x.getD 19 0 =
    x.getD 19 0 ∧ x.getD 20 0 = x.getD 20 0 ∧ x.getD 21 0 = x.getD 21 0 ∧ x.getD 22 0 = x.getD 22 0 ∧ x.getD 23 0 = x.getD 23 0 ∧ z = (↑j.fst : Int) ∧ x = x ∧ ar.iset i.snd (↑i.fst
    : Int) (ar.iget x (↑i.fst : Int)) = j.snd ∧ True) ∧ (¬ar.lt (↑i.fst : Int) 8 → ar.le 0 8 ∧ ar.lt 8 (ar.ilen x) ∧ ∀ (z : Int), z = ar.rem (ar.iget x 8) 4 → ar.le 0 8 ∧ ar.lt 8
    (ar.ilen i.snd) ∧ (∃ (i_1 : Nat × List Int), PL.PartHigh x i_1.fst i_1.snd ∧ x.getD 0 0 = x.getD 0 0 ∧ x.getD 1 0 = x.getD 1 0 ∧ x.getD 2 0 = x.getD 2 0 ∧ x.getD 3 0 = x.getD 3
    0 ∧ x.getD 4 0 = x.getD 4 0 ∧ x.getD 5 0 = x.getD 5 0 ∧ x.getD 6 0 = x.getD 6 0 ∧ x.getD 7 0 = x.getD 7 0 ∧ x.getD 8 0 = x.getD 8 0 ∧ x.getD 9 0 = x.getD 9 0 ∧ x.getD 10 0 =
    x.getD 10 0 ∧ x.getD 11 0 = x.getD 11 0 ∧ x.getD 12 0 = x.getD 12 0 ∧ x.getD 13 0 = x.getD 13 0 ∧ x.getD 14 0 = x.getD 14 0 ∧ x.getD 15 0 = x.getD 15 0 ∧ x.getD 16 0 = x.getD
    16 0 ∧ x.getD 17 0 = x.getD 17 0 ∧ x.getD 18 0 = x.getD 18 0 ∧ x.getD 19 0 = x.getD 19 0 ∧ x.getD 20 0 = x.getD 20 0 ∧ x.getD 21 0 = x.getD 21 0 ∧ x.getD 22 0 = x.getD 22 0 ∧
    x.getD 23 0 = x.getD 23 0 ∧ (↑i.fst : Int) = (↑i.fst : Int) ∧ 8 = (↑i_1.fst : Int) ∧ (↑i.fst : Int) = (↑i.fst : Int) ∧ (ar.lt (↑i.fst : Int) 8 ↔ ar.lt (↑i.fst : Int) 8) ∧
    ar.iget x 8 = ar.iget x 8 ∧ z = z ∧ x = x ∧ ar.iset i.snd 8 z = ar.iset i.snd 8 z ∧ [0, 0, 0, 0, 0, 0, 0, 0, 0, 0, 0, 0, 0, 0, 0, 0, 0, 0, 0, 0, 0, 0, 0, 0] = i_1.snd ∧ True) ∧
    ∀ (i_1 : Nat × List Int), PL.PartHigh x i_1.fst i_1.snd → (ar.lt (↑i_1.fst : Int) 24 → ∀ (z_1 : Int), z_1 = ar.wrap IntKind.i64 (ar.add (↑i_1.fst : Int) 1) → (ar.lt z_1 24 → ∀
    (z_2 : Int), z_2 = ar.wrap IntKind.i64 (ar.add (↑i_1.fst : Int) 1) → ar.le 0 z_2 ∧ ar.lt z_2 24 ∧ ar.le 0 z_2 ∧ ar.lt z_2 (ar.ilen x) ∧ ∀ (z_3 : Int), z_3 = ar.rem (ar.iget x
    z_2) 4 → ∀ (z_4 : Int), z_4 = ar.wrap IntKind.i64 (ar.sub (↑i_1.fst : Int) 8) → ar.le 0 (↑i_1.fst : Int) ∧ ar.lt (↑i_1.fst : Int) 24 ∧ ar.le 0 (↑i_1.fst : Int) ∧ ar.lt
    (↑i_1.fst : Int) (ar.ilen x) ∧ ∀ (z_5 : Int), z_5 = ar.wrap IntKind.i64 (ar.quo (ar.iget x (↑i_1.fst : Int)) 4) → ∀ (z_6 : Int), z_6 = ar.wrap IntKind.i64 (ar.mul z_3 16384) →
    ∀ (z_7 : Int), z_7 = ar.wrap IntKind.i64 (ar.add z_5 z_6) → ar.le 0 z_4 ∧ ar.lt z_4 24 ∧ ar.le 0 z_4 ∧ ar.lt z_4 (ar.ilen i_1.snd) ∧ ∀ (z_8 : Int), z_8 = ar.wrap IntKind.i64
    (ar.add (↑i_1.fst : Int) 1) → ∃ (j : Nat × List Int), PL.PartHigh x j.fst j.snd ∧ (Nat.sub 24 j.fst).lt (Nat.sub 24 i_1.fst) ∧ x.getD 0 0 = x.getD 0 0 ∧ x.getD 1 0 = x.getD 1 0
    ∧ x.getD 2 0 = x.getD 2 0 ∧ x.getD 3 0 = x.getD 3 0 ∧ x.getD 4 0 = x.getD 4 0 ∧ x.getD 5 0 = x.getD 5 0 ∧ x.getD 6 0 = x.getD 6 0 ∧ x.getD 7 0 = x.getD 7 0 ∧ x.getD 8 0 =
    x.getD 8 0 ∧ x.getD 9 0 = x.getD 9 0 ∧ x.getD 10 0 = x.getD 10 0 ∧ x.getD 11 0 = x.getD 11 0 ∧ x.getD 12 0 = x.getD 12 0 ∧ x.getD 13 0 = x.getD 13 0 ∧ x.getD 14 0 = x.getD 14 0
    ∧ x.getD 15 0 = x.getD 15 0 ∧ x.getD 16 0 = x.getD 16 0 ∧ x.getD 17 0 = x.getD 17 0 ∧ x.getD 18 0 = x.getD 18 0 ∧ x.getD 19 0 = x.getD 19 0 ∧ x.getD 20 0 = x.getD 20 0 ∧ x.getD
    21 0 = x.getD 21 0 ∧ x.getD 22 0 = x.getD 22 0 ∧ x.getD 23 0 = x.getD 23 0 ∧ (↑i.fst : Int) = (↑i.fst : Int) ∧ z_8 = (↑j.fst : Int) ∧ (↑i.fst : Int) = (↑i.fst : Int) ∧ (ar.lt
    (↑i.fst : Int) 8 ↔ ar.lt (↑i.fst : Int) 8) ∧ ar.iget x 8 = ar.iget x 8 ∧ z = z ∧ x = x ∧ ar.iset i.snd 8 z = ar.iset i.snd 8 z ∧ ar.iset i_1.snd z_4 z_7 = j.snd ∧ True) ∧
    (¬ar.lt z_1 24 → ∀ (z_2 : Int), z_2 = ar.wrap IntKind.i64 (ar.sub (↑i_1.fst : Int) 8) → ar.le 0 (↑i_1.fst : Int) ∧ ar.lt (↑i_1.fst : Int) 24 ∧ ar.le 0 (↑i_1.fst : Int) ∧ ar.lt
    (↑i_1.fst : Int) (ar.ilen x) ∧ ∀ (z_3 : Int), z_3 = ar.wrap IntKind.i64 (ar.quo (ar.iget x (↑i_1.fst : Int)) 4) → ∀ (z_4 : Int), z_4 = ar.wrap IntKind.i64 (ar.add z_3 0) →
    ar.le 0 z_2 ∧ ar.lt z_2 24 ∧ ar.le 0 z_2 ∧ ar.lt z_2 (ar.ilen i_1.snd) ∧ ∀ (z_5 : Int), z_5 = ar.wrap IntKind.i64 (ar.add (↑i_1.fst : Int) 1) → ∃ (j : Nat × List Int),
    PL.PartHigh x j.fst j.snd ∧ (Nat.sub 24 j.fst).lt (Nat.sub 24 i_1.fst) ∧ x.getD 0 0 = x.getD 0 0 ∧ x.getD 1 0 = x.getD 1 0 ∧ x.getD 2 0 = x.getD 2 0 ∧ x.getD 3 0 = x.getD 3 0 ∧
    x.getD 4 0 = x.getD 4 0 ∧ x.getD 5 0 = x.getD 5 0 ∧ x.getD 6 0 = x.getD 6 0 ∧ x.getD 7 0 = x.getD 7 0 ∧ x.getD 8 0 = x.getD 8 0 ∧ x.getD 9 0 = x.getD 9 0 ∧ x.getD 10 0 = x.getD
    10 0 ∧ x.getD 11 0 = x.getD 11 0 ∧ x.getD 12 0 = x.getD 12 0 ∧ x.getD 13 0 = x.getD 13 0 ∧ x.getD 14 0 = x.getD 14 0 ∧ x.getD 15 0 = x.getD 15 0 ∧ x.getD 16 0 = x.getD 16 0 ∧
    x.getD 17 0 = x.getD 17 0 ∧ x.getD 18 0 = x.getD 18 0 ∧ x.getD 19 0 = x.getD 19 0 ∧ x.getD 20 0 = x.getD 20 0 ∧ x.getD 21 0 = x.getD 21 0 ∧ x.getD 22 0 = x.getD 22 0 ∧ x.getD
    23 0 = x.getD 23 0 ∧ (↑i.fst : Int) = (↑i.fst : Int) ∧ z_5 = (↑j.fst : Int) ∧ (↑i.fst : Int) = (↑i.fst : Int) ∧ (ar.lt (↑i.fst : Int) 8 ↔ ar.lt (↑i.fst : Int) 8) ∧ ar.iget x 8
    = ar.iget x 8 ∧ z = z ∧ x = x ∧ ar.iset i.snd 8 z = ar.iset i.snd 8 z ∧ ar.iset i_1.snd z_2 z_4 = j.snd ∧ True)) ∧ (¬ar.lt (↑i_1.fst : Int) 24 → ar.le 0 0 ∧ ar.lt 0 (ar.ilen
    (ar.iset i.snd 8 z)) ∧ ar.le 0 1 ∧ ar.lt 1 (ar.ilen (ar.iset i.snd 8 z)) ∧ ar.le 0 2 ∧ ar.lt 2 (ar.ilen (ar.iset i.snd 8 z)) ∧ ar.le 0 3 ∧ ar.lt 3 (ar.ilen (ar.iset i.snd 8 z))
    ∧ ar.le 0 4 ∧ ar.lt 4 (ar.ilen (ar.iset i.snd 8 z)) ∧ ar.le 0 5 ∧ ar.lt 5 (ar.ilen (ar.iset i.snd 8 z)) ∧ ar.le 0 6 ∧ ar.lt 6 (ar.ilen (ar.iset i.snd 8 z)) ∧ ar.le 0 7 ∧ ar.lt
    7 (ar.ilen (ar.iset i.snd 8 z)) ∧ ar.le 0 8 ∧ ar.lt 8 (ar.ilen (ar.iset i.snd 8 z)) ∧ ar.le 0 9 ∧ ar.lt 9 (ar.ilen (ar.iset i.snd 8 z)) ∧ ar.le 0 10 ∧ ar.lt 10 (ar.ilen
    (ar.iset i.snd 8 z)) ∧ ar.le 0 11 ∧ ar.lt 11 (ar.ilen (ar.iset i.snd 8 z)) ∧ ar.le 0 12 ∧ ar.lt 12 (ar.ilen (ar.iset i.snd 8 z)) ∧ ar.le 0 13 ∧ ar.lt 13 (ar.ilen (ar.iset i.snd
    8 z)) ∧ ar.le 0 14 ∧ ar.lt 14 (ar.ilen (ar.iset i.snd 8 z)) ∧ ar.le 0 15 ∧ ar.lt 15 (ar.ilen (ar.iset i.snd 8 z)) ∧ ar.le 0 16 ∧ ar.lt 16 (ar.ilen (ar.iset i.snd 8 z)) ∧ ar.le
    0 17 ∧ ar.lt 17 (ar.ilen (ar.iset i.snd 8 z)) ∧ ar.le 0 18 ∧ ar.lt 18 (ar.ilen (ar.iset i.snd 8 z)) ∧ ar.le 0 19 ∧ ar.lt 19 (ar.ilen (ar.iset i.snd 8 z)) ∧ ar.le 0 20 ∧ ar.lt
    20 (ar.ilen (ar.iset i.snd 8 z)) ∧ ar.le 0 21 ∧ ar.lt 21 (ar.ilen (ar.iset i.snd 8 z)) ∧ ar.le 0 22 ∧ ar.lt 22 (ar.ilen (ar.iset i.snd 8 z)) ∧ ar.le 0 23 ∧ ar.lt 23 (ar.ilen
    (ar.iset i.snd 8 z)) ∧ ar.le 0 0 ∧ ar.lt 0 (ar.ilen i_1.snd) ∧ ar.le 0 1 ∧ ar.lt 1 (ar.ilen i_1.snd) ∧ ar.le 0 2 ∧ ar.lt 2 (ar.ilen i_1.snd) ∧ ar.le 0 3 ∧ ar.lt 3 (ar.ilen
    i_1.snd) ∧ ar.le 0 4 ∧ ar.lt 4 (ar.ilen i_1.snd) ∧ ar.le 0 5 ∧ ar.lt 5 (ar.ilen i_1.snd) ∧ ar.le 0 6 ∧ ar.lt 6 (ar.ilen i_1.snd) ∧ ar.le 0 7 ∧ ar.lt 7 (ar.ilen i_1.snd) ∧ ar.le
    0 8 ∧ ar.lt 8 (ar.ilen i_1.snd) ∧ ar.le 0 9 ∧ ar.lt 9 (ar.ilen i_1.snd) ∧ ar.le 0 10 ∧ ar.lt 10 (ar.ilen i_1.snd) ∧ ar.le 0 11 ∧ ar.lt 11 (ar.ilen i_1.snd) ∧ ar.le 0 12 ∧ ar.lt
    12 (ar.ilen i_1.snd) ∧ ar.le 0 13 ∧ ar.lt 13 (ar.ilen i_1.snd) ∧ ar.le 0 14 ∧ ar.lt 14 (ar.ilen i_1.snd) ∧ ar.le 0 15 ∧ ar.lt 15 (ar.ilen i_1.snd) ∧ ar.le 0 16 ∧ ar.lt 16
    (ar.ilen i_1.snd) ∧ ar.le 0 17 ∧ ar.lt 17 (ar.ilen i_1.snd) ∧ ar.le 0 18 ∧ ar.lt 18 (ar.ilen i_1.snd) ∧ ar.le 0 19 ∧ ar.lt 19 (ar.ilen i_1.snd) ∧ ar.le 0 20 ∧ ar.lt 20 (ar.ilen
    i_1.snd) ∧ ar.le 0 21 ∧ ar.lt 21 (ar.ilen i_1.snd) ∧ ar.le 0 22 ∧ ar.lt 22 (ar.ilen i_1.snd) ∧ ar.le 0 23 ∧ ar.lt 23 (ar.ilen i_1.snd) ∧ ∃ (y : List Int × List Int),
    PL.partedPost x y.fst y.snd ∧ ar.iget (ar.iset i.snd 8 z) 0 = y.fst.getD 0 0 ∧ ar.iget (ar.iset i.snd 8 z) 1 = y.fst.getD 1 0 ∧ ar.iget (ar.iset i.snd 8 z) 2 = y.fst.getD 2 0 ∧
    ar.iget (ar.iset i.snd 8 z) 3 = y.fst.getD 3 0 ∧ ar.iget (ar.iset i.snd 8 z) 4 = y.fst.getD 4 0 ∧ ar.iget (ar.iset i.snd 8 z) 5 = y.fst.getD 5 0 ∧ ar.iget (ar.iset i.snd 8 z) 6
    = y.fst.getD 6 0 ∧ ar.iget (ar.iset i.snd 8 z) 7 = y.fst.getD 7 0 ∧ ar.iget (ar.iset i.snd 8 z) 8 = y.fst.getD 8 0 ∧ ar.iget (ar.iset i.snd 8 z) 9 = y.fst.getD 9 0 ∧ ar.iget
    (ar.iset i.snd 8 z) 10 = y.fst.getD 10 0 ∧ ar.iget (ar.iset i.snd 8 z) 11 = y.fst.getD 11 0 ∧ ar.iget (ar.iset i.snd 8 z) 12 = y.fst.getD 12 0 ∧ ar.iget (ar.iset i.snd 8 z) 13
    = y.fst.getD 13 0 ∧ ar.iget (ar.iset i.snd 8 z) 14 = y.fst.getD 14 0 ∧ ar.iget (ar.iset i.snd 8 z) 15 = y.fst.getD 15 0 ∧ ar.iget (ar.iset i.snd 8 z) 16 = y.fst.getD 16 0 ∧
    ar.iget (ar.iset i.snd 8 z) 17 = y.fst.getD 17 0 ∧ ar.iget (ar.iset i.snd 8 z) 18 = y.fst.getD 18 0 ∧ ar.iget (ar.iset i.snd 8 z) 19 = y.fst.getD 19 0 ∧ ar.iget (ar.iset i.snd
    8 z) 20 = y.fst.getD 20 0 ∧ ar.iget (ar.iset i.snd 8 z) 21 = y.fst.getD 21 0 ∧ ar.iget (ar.iset i.snd 8 z) 22 = y.fst.getD 22 0 ∧ ar.iget (ar.iset i.snd 8 z) 23 = y.fst.getD 23
    0 ∧ ar.iget i_1.snd 0 = y.snd.getD 0 0 ∧ ar.iget i_1.snd 1 = y.snd.getD 1 0 ∧ ar.iget i_1.snd 2 = y.snd.getD 2 0 ∧ ar.iget i_1.snd 3 = y.snd.getD 3 0 ∧ ar.iget i_1.snd 4 =
    y.snd.getD 4 0 ∧ ar.iget i_1.snd 5 = y.snd.getD 5 0 ∧ ar.iget i_1.snd 6 = y.snd.getD 6 0 ∧ ar.iget i_1.snd 7 = y.snd.getD 7 0 ∧ ar.iget i_1.snd 8 = y.snd.getD 8 0 ∧ ar.iget
    i_1.snd 9 = y.snd.getD 9 0 ∧ ar.iget i_1.snd 10 = y.snd.getD 10 0 ∧ ar.iget i_1.snd 11 = y.snd.getD 11 0 ∧ ar.iget i_1.snd 12 = y.snd.getD 12 0 ∧ ar.iget i_1.snd 13 =
    y.snd.getD 13 0 ∧ ar.iget i_1.snd 14 = y.snd.getD 14 0 ∧ ar.iget i_1.snd 15 = y.snd.getD 15 0 ∧ ar.iget i_1.snd 16 = y.snd.getD 16 0 ∧ ar.iget i_1.snd 17 = y.snd.getD 17 0 ∧
    ar.iget i_1.snd 18 = y.snd.getD 18 0 ∧ ar.iget i_1.snd 19 = y.snd.getD 19 0 ∧ ar.iget i_1.snd 20 = y.snd.getD 20 0 ∧ ar.iget i_1.snd 21 = y.snd.getD 21 0 ∧ ar.iget i_1.snd 22 =
    y.snd.getD 22 0 ∧ ar.iget i_1.snd 23 = y.snd.getD 23 0 ∧ True))) := by
  kernel_rfl
end Go.Eng


set_option linter.unusedSimpArgs false
set_option linter.unusedVariables false
set_option linter.unusedSectionVars false
set_option maxRecDepth 100000
namespace Go.Eng
variable [CW : CWorld]
open Go.Proofs

theorem list24 {l : List Int} (h : l.length = 24) : ∃ x0 x1 x2 x3 x4 x5 x6 x7 x8 x9 x10 x11 x12 x13 x14 x15 x16 x17 x18 x19 x20 x21 x22 x23 : Int, l = [x0, x1, x2, x3, x4, x5, x6, x7, x8, x9, x10, x11, x12, x13, x14, x15, x16, x17, x18, x19, x20, x21, x22, x23] := by
  match l, h with
  | [x0, x1, x2, x3, x4, x5, x6, x7, x8, x9, x10, x11, x12, x13, x14, x15, x16, x17, x18, x19, x20, x21, x22, x23], _ => exact ⟨x0, x1, x2, x3, x4, x5, x6, x7, x8, x9, x10, x11, x12, x13, x14, x15, x16, x17, x18, x19, x20, x21, x22, x23, rfl⟩

/-- A row of the product. -/
theorem row_val (b : List Int) (hb : b.length = 24) (c : Int) (i : Nat) (hi : i < 9) :
    PL.b16 (PL.tab 24 fun k => if i ≤ k ∧ k < i + 9 then c * b.getD (k - i) 0 else 0) = 65536 ^ i * (c * PL.b16 (b.take 9)) := by
  have e : (PL.tab 24 fun k => if i ≤ k ∧ k < i + 9 then c * b.getD (k - i) 0 else 0) = PL.tab i (fun _ => 0) ++ (PL.tab 9 (fun j => c * b.getD j 0) ++ PL.tab (15 - i) (fun _ => 0)) := by
    apply List.ext_getElem?
    intro k
    by_cases h1 : k < i
    · rw [List.getElem?_append_left (by rw [PL.tab_length]; exact h1)]
      simp [PL.tab, h1, show k < 24 by omega, show ¬ i ≤ k by omega]
    · rw [List.getElem?_append_right (by rw [PL.tab_length]; omega), PL.tab_length]
      by_cases h2 : k - i < 9
      · rw [List.getElem?_append_left (by rw [PL.tab_length]; exact h2)]
        simp [PL.tab, h2, show k < 24 by omega, show i ≤ k by omega, show k < i + 9 by omega]
      · rw [List.getElem?_append_right (by rw [PL.tab_length]; omega), PL.tab_length]
        by_cases h3 : k < 24
        · simp [PL.tab, h3, show ¬ k < i + 9 by omega, show k - i - 9 < 15 - i by omega]
        · rw [List.getElem?_eq_none (by rw [PL.tab_length]; omega), List.getElem?_eq_none (by rw [PL.tab_length]; omega)]
  rw [e, PL.b16_append, PL.b16_append, PL.tab_length, PL.tab_length, PL.b16_tab_zero, PL.b16_tab_zero, PL.b16_tab_mul, ← PL.take_tab (by omega)]
  rw [Int.mul_zero, Int.add_zero, Int.zero_add]

theorem timesSpec_ok : timesSpec.OK PP 34 := by
  refine Spec.ok_of_run (fn := Try.f34) (c := Try.f34.body.getD .skip) (by kernel_rfl) (by kernel_rfl) (by kernel_rfl) r41_ok (fun x => numInvs x.1 x.2) 1000 ?_
  rintro ⟨a, b⟩ ⟨⟨ha, hda⟩, ⟨hb, hdb⟩⟩
  replace ha : a.length = 24 := ha
  replace hb : b.length = 24 := hb
  replace hda : ∀ x ∈ a, 0 ≤ x ∧ x < 65536 := hda
  replace hdb : ∀ x ∈ b, 0 ≤ x ∧ x < 65536 := hdb
  refine (vc34 ar0 (a, b)).mpr ?_
  refine ⟨⟨(0, PL.tab 24 fun _ => 0), ⟨Nat.zero_le _, ⟨rfl, fun x hx => ?_⟩, ?_⟩, ?_⟩, ?_⟩
  · obtain ⟨j, _, rfl⟩ := PL.tab_mem hx
    omega
  · show PL.b16 (PL.tab 24 fun _ => 0) = PL.b16 (a.take 0) * _
    rw [PL.b16_tab_zero]; simp [PL.b16]
  · and_intros <;> first | rfl | trivial | exact ints24 ha | exact ints24 hb
  rintro ⟨i, n⟩ hok
  dsimp only at hok ⊢
  have hi := hok.hi
  have hn := hok.num
  have hv := hok.val
  have hB := PL.b16_bound (b.take 9) (fun x hx => hdb x (List.mem_of_mem_take hx))
  rw [List.length_take, Nat.min_eq_left (by omega)] at hB
  refine ⟨fun hlt => ?_, fun hge => ?_⟩
  · replace hlt : i < 9 := by
      have : (i : Int) < 9 := hlt
      omega
    refine ⟨⟨(0, PL.tab 24 fun _ => 0), ⟨Nat.zero_le _, PL.tab_congr fun k _ => by rw [if_neg (by omega)]⟩, ?_⟩, ?_⟩
    · and_intros <;> first | rfl | trivial
    rintro ⟨j, l⟩ hrow
    dsimp only at hrow ⊢
    have hj := hrow.hj
    have he := hrow.eq
    rw [Int.toNat_natCast] at he
    have hl : l.length = 24 := by rw [he]; simp
    have ga := PL.getD_dig hda (show i < a.length by omega)
    refine ⟨fun hjlt => ?_, fun hjge => ?_⟩
    · replace hjlt : j < 9 := by
        have : (j : Int) < 9 := hjlt
        omega
      have gb := PL.getD_dig hdb (show j < b.length by omega)
      intro z hz
      replace hz : z = ((i + j : Nat) : Int) := by
        rw [hz]
        show IntKind.i64.wrap ((i : Int) + (j : Int)) = _
        rw [wrap_i64 (by omega) (by omega)]
        omega
      obtain ⟨s1, s2, s3, s4⟩ := at24 (show i < 24 by omega) ha
      obtain ⟨u1, u2, u3, u4⟩ := at24 (show j < 24 by omega) hb
      obtain ⟨w1, w2, w3, w4⟩ := at24 (show i + j < 24 by omega) hl
      refine ⟨s1, s2, s3, s4, u1, u2, u3, u4, ?_⟩
      intro z1 hz1
      have hpr : 0 ≤ a.getD i 0 * b.getD j 0 ∧ a.getD i 0 * b.getD j 0 ≤ 65535 * 65535 :=
        ⟨Int.mul_nonneg ga.1 gb.1, Int.mul_le_mul (by omega) (by omega) gb.1 (by omega)⟩
      replace hz1 : z1 = a.getD i 0 * b.getD j 0 := by
        rw [hz1]
        exact wrap_i64 (by show _ ≤ a.getD i 0 * b.getD j 0; omega) (by show a.getD i 0 * b.getD j 0 < _; omega)
      rw [hz]
      refine ⟨w1, w2, w3, w4, ?_⟩
      intro z2 hz2
      refine ⟨(j + 1, l.set (i + j) z1), ⟨by show j + 1 ≤ 9; omega, ?_⟩, by show 9 - (j + 1) < 9 - j; omega, ?_⟩
      · rw [Int.toNat_natCast, he]
        show (PL.tab 24 _).set (i + j) z1 = _
        rw [PL.tab_set]
        refine PL.tab_congr fun k hk => ?_
        by_cases e : k = i + j
        · subst e
          rw [if_pos rfl, if_pos (by omega), hz1]
          congr 2
          omega
        · rw [if_neg e]
          by_cases hk' : i ≤ k ∧ k < i + j
          · rw [if_pos hk', if_pos (by omega)]
          · rw [if_neg hk', if_neg (by omega)]
      · have hn2 : z2 = ((j + 1 : Nat) : Int) := by
          rw [hz2]
          show IntKind.i64.wrap ((j : Int) + 1) = _
          rw [wrap_i64 (by omega) (by omega)]
          omega
        and_intros <;> first | rfl | trivial | exact hn2
    · obtain rfl : j = 9 := by
        have : ¬ (j : Int) < 9 := hjge
        omega
      have hltl := lt24 hl
      have hr := row_val b hb (a.getD i 0) i hlt
      have he' : l = PL.tab 24 fun k => if i ≤ k ∧ k < i + 9 then a.getD i 0 * b.getD (k - i) 0 else 0 := he
      rw [← he'] at hr
      have hld : ∀ d ∈ l, 0 ≤ d ∧ d ≤ 1099511627776 := fun d hd => by
        rw [he'] at hd
        obtain ⟨k, hk, rfl⟩ := PL.tab_mem hd
        split
        · have gb := PL.getD_dig hdb (show k - i < b.length by omega)
          have h1 : 0 ≤ a.getD i 0 * b.getD (k - i) 0 := Int.mul_nonneg ga.1 gb.1
          have h2 : a.getD i 0 * b.getD (k - i) 0 ≤ 65535 * 65535 := Int.mul_le_mul (by omega) (by omega) gb.1 (by omega)
          omega
        · omega
      have hA : PL.b16 (a.take (i + 1)) = PL.b16 (a.take i) + 65536 ^ i * a.getD i 0 := PL.b16_take_succ (by omega)
      have hA1 := PL.b16_bound (a.take (i + 1)) (fun x hx => hda x (List.mem_of_mem_take hx))
      rw [List.length_take, Nat.min_eq_left (by omega)] at hA1
      have hA0 := PL.b16_bound (a.take i) (fun x hx => hda x (List.mem_of_mem_take hx))
      have htot : PL.b16 (a.take (i + 1)) * PL.b16 (b.take 9) = PL.b16 n + 65536 ^ i * (a.getD i 0 * PL.b16 (b.take 9)) := by
        rw [hA, hv]
        grind
      have hpow : (65536 : Int) ^ (i + 1) ≤ 65536 ^ 9 := by
        have h1 : (65536 : Nat) ^ (i + 1) ≤ 65536 ^ 9 := Nat.pow_le_pow_right (by omega) (by omega)
        have h2 := Int.ofNat_le.2 h1
        rw [Int.natCast_pow, Int.natCast_pow] at h2
        exact h2
      have hM : PL.b16 (a.take (i + 1)) * PL.b16 (b.take 9) < PL.M24 := by
        have h1 : PL.b16 (a.take (i + 1)) * PL.b16 (b.take 9) ≤ 65536 ^ 9 * 65536 ^ 9 := Int.mul_le_mul (by omega) (by omega) hB.1 (by omega)
        have h2 : (65536 : Int) ^ 9 * 65536 ^ 9 < PL.M24 := by decide +kernel
        omega
      have hn0 := PL.b16_bound n hn.dig
      have hr0 : 0 ≤ PL.b16 l := PL.b16_nonneg l (fun x hx => (hld x hx).1)
      have hltn := lt24 hn.len
      refine ⟨le_ar rfl, hltn 0 (by decide), le_ar rfl, hltn 1 (by decide), le_ar rfl, hltn 2 (by decide), le_ar rfl, hltn 3 (by decide), le_ar rfl, hltn 4 (by decide), le_ar rfl, hltn 5 (by decide), le_ar rfl, hltn 6 (by decide), le_ar rfl, hltn 7 (by decide), le_ar rfl, hltn 8 (by decide), le_ar rfl, hltn 9 (by decide), le_ar rfl, hltn 10 (by decide), le_ar rfl, hltn 11 (by decide), le_ar rfl, hltn 12 (by decide), le_ar rfl, hltn 13 (by decide), le_ar rfl, hltn 14 (by decide), le_ar rfl, hltn 15 (by decide), le_ar rfl, hltn 16 (by decide), le_ar rfl, hltn 17 (by decide), le_ar rfl, hltn 18 (by decide), le_ar rfl, hltn 19 (by decide), le_ar rfl, hltn 20 (by decide), le_ar rfl, hltn 21 (by decide), le_ar rfl, hltn 22 (by decide), le_ar rfl, hltn 23 (by decide), le_ar rfl, hltl 0 (by decide), le_ar rfl, hltl 1 (by decide), le_ar rfl, hltl 2 (by decide), le_ar rfl, hltl 3 (by decide), le_ar rfl, hltl 4 (by decide), le_ar rfl, hltl 5 (by decide), le_ar rfl, hltl 6 (by decide), le_ar rfl, hltl 7 (by decide), le_ar rfl, hltl 8 (by decide), le_ar rfl, hltl 9 (by decide), le_ar rfl, hltl 10 (by decide), le_ar rfl, hltl 11 (by decide), le_ar rfl, hltl 12 (by decide), le_ar rfl, hltl 13 (by decide), le_ar rfl, hltl 14 (by decide), le_ar rfl, hltl 15 (by decide), le_ar rfl, hltl 16 (by decide), le_ar rfl, hltl 17 (by decide), le_ar rfl, hltl 18 (by decide), le_ar rfl, hltl 19 (by decide), le_ar rfl, hltl 20 (by decide), le_ar rfl, hltl 21 (by decide), le_ar rfl, hltl 22 (by decide), le_ar rfl, hltl 23 (by decide), l, rfl, rfl, rfl, rfl, rfl, rfl, rfl, rfl, rfl, rfl, rfl, rfl, rfl, rfl, rfl, rfl, rfl, rfl, rfl, rfl, rfl, rfl, rfl, rfl, ⟨hl, hld⟩, fun y hy => ?_⟩
      have hyv : PL.b16 y = PL.b16 l := by
        rw [hy.val]
        exact Int.emod_eq_of_lt hr0 (by omega)
      refine ⟨(n, y), rfl, rfl, rfl, rfl, rfl, rfl, rfl, rfl, rfl, rfl, rfl, rfl, rfl, rfl, rfl, rfl, rfl, rfl, rfl, rfl, rfl, rfl, rfl, rfl, rfl, rfl, rfl, rfl, rfl, rfl, rfl, rfl, rfl, rfl, rfl, rfl, rfl, rfl, rfl, rfl, rfl, rfl, rfl, rfl, rfl, rfl, rfl, rfl, ⟨hn, hy.num⟩, fun y2 hy2 => ?_⟩
      intro z hz
      replace hz : z = ((i + 1 : Nat) : Int) := next24 (by omega) hz
      refine ⟨(i + 1, y2), ⟨by show i + 1 ≤ 9; omega, hy2.num, ?_⟩, by show 9 - (i + 1) < 9 - i; omega, ?_⟩
      · have h2 : PL.b16 y2 = (PL.b16 n + PL.b16 y) % PL.M24 := hy2.val
        show PL.b16 y2 = PL.b16 (a.take (i + 1)) * PL.b16 (b.take 9)
        rw [h2, hyv, hr, ← htot]
        exact Int.emod_eq_of_lt (by rw [htot, ← hr]; omega) hM
      · and_intros <;> first | rfl | trivial | exact hz | exact ints24 hy2.num.len
  · obtain rfl : i = 9 := by
      have : ¬ (i : Int) < 9 := hge
      omega
    have hlt := lt24 hn.len
    refine ⟨le_ar rfl, hlt 0 (by decide), le_ar rfl, hlt 1 (by decide), le_ar rfl, hlt 2 (by decide), le_ar rfl, hlt 3 (by decide), le_ar rfl, hlt 4 (by decide), le_ar rfl, hlt 5 (by decide), le_ar rfl, hlt 6 (by decide), le_ar rfl, hlt 7 (by decide), le_ar rfl, hlt 8 (by decide), le_ar rfl, hlt 9 (by decide), le_ar rfl, hlt 10 (by decide), le_ar rfl, hlt 11 (by decide), le_ar rfl, hlt 12 (by decide), le_ar rfl, hlt 13 (by decide), le_ar rfl, hlt 14 (by decide), le_ar rfl, hlt 15 (by decide), le_ar rfl, hlt 16 (by decide), le_ar rfl, hlt 17 (by decide), le_ar rfl, hlt 18 (by decide), le_ar rfl, hlt 19 (by decide), le_ar rfl, hlt 20 (by decide), le_ar rfl, hlt 21 (by decide), le_ar rfl, hlt 22 (by decide), le_ar rfl, hlt 23 (by decide), n, ⟨hn, hv⟩, rfl, rfl, rfl, rfl, rfl, rfl, rfl, rfl, rfl, rfl, rfl, rfl, rfl, rfl, rfl, rfl, rfl, rfl, rfl, rfl, rfl, rfl, rfl, rfl, trivial⟩


theorem parted_vals {x : List Int} (h : PL.Num x) : PL.partedPost x ((PL.tab 24 fun j => if j < 8 then x.getD j 0 else 0).set 8 (x.getD 8 0 % 4)) (PL.tab 24 fun j => if j + 8 < 24 then x.getD (j + 8) 0 / 4 + x.getD (j + 9) 0 % 4 * 16384 else 0) := by
  obtain ⟨hl, hd⟩ := h
  obtain ⟨x0, x1, x2, x3, x4, x5, x6, x7, x8, x9, x10, x11, x12, x13, x14, x15, x16, x17, x18, x19, x20, x21, x22, x23, rfl⟩ := list24 hl
  have d0 := hd x0 (by simp)
  have d1 := hd x1 (by simp)
  have d2 := hd x2 (by simp)
  have d3 := hd x3 (by simp)
  have d4 := hd x4 (by simp)
  have d5 := hd x5 (by simp)
  have d6 := hd x6 (by simp)
  have d7 := hd x7 (by simp)
  have d8 := hd x8 (by simp)
  have d9 := hd x9 (by simp)
  have d10 := hd x10 (by simp)
  have d11 := hd x11 (by simp)
  have d12 := hd x12 (by simp)
  have d13 := hd x13 (by simp)
  have d14 := hd x14 (by simp)
  have d15 := hd x15 (by simp)
  have d16 := hd x16 (by simp)
  have d17 := hd x17 (by simp)
  have d18 := hd x18 (by simp)
  have d19 := hd x19 (by simp)
  have d20 := hd x20 (by simp)
  have d21 := hd x21 (by simp)
  have d22 := hd x22 (by simp)
  have d23 := hd x23 (by simp)
  have e1 : ((PL.tab 24 fun j => if j < 8 then [x0, x1, x2, x3, x4, x5, x6, x7, x8, x9, x10, x11, x12, x13, x14, x15, x16, x17, x18, x19, x20, x21, x22, x23].getD j 0 else 0).set 8 ([x0, x1, x2, x3, x4, x5, x6, x7, x8, x9, x10, x11, x12, x13, x14, x15, x16, x17, x18, x19, x20, x21, x22, x23].getD 8 0 % 4)) = [x0, x1, x2, x3, x4, x5, x6, x7, x8 % 4, 0, 0, 0, 0, 0, 0, 0, 0, 0, 0, 0, 0, 0, 0, 0] := rfl
  have e2 : (PL.tab 24 fun j => if j + 8 < 24 then [x0, x1, x2, x3, x4, x5, x6, x7, x8, x9, x10, x11, x12, x13, x14, x15, x16, x17, x18, x19, x20, x21, x22, x23].getD (j + 8) 0 / 4 + [x0, x1, x2, x3, x4, x5, x6, x7, x8, x9, x10, x11, x12, x13, x14, x15, x16, x17, x18, x19, x20, x21, x22, x23].getD (j + 9) 0 % 4 * 16384 else 0) = [x8 / 4 + x9 % 4 * 16384, x9 / 4 + x10 % 4 * 16384, x10 / 4 + x11 % 4 * 16384, x11 / 4 + x12 % 4 * 16384, x12 / 4 + x13 % 4 * 16384, x13 / 4 + x14 % 4 * 16384, x14 / 4 + x15 % 4 * 16384, x15 / 4 + x16 % 4 * 16384, x16 / 4 + x17 % 4 * 16384, x17 / 4 + x18 % 4 * 16384, x18 / 4 + x19 % 4 * 16384, x19 / 4 + x20 % 4 * 16384, x20 / 4 + x21 % 4 * 16384, x21 / 4 + x22 % 4 * 16384, x22 / 4 + x23 % 4 * 16384, x23 / 4 + 0 % 4 * 16384, 0, 0, 0, 0, 0, 0, 0, 0] := rfl
  rw [e1, e2]
  have hlo : PL.b16 [x0, x1, x2, x3, x4, x5, x6, x7, x8 % 4, 0, 0, 0, 0, 0, 0, 0, 0, 0, 0, 0, 0, 0, 0, 0] = x0 + 65536 * (x1 + 65536 * (x2 + 65536 * (x3 + 65536 * (x4 + 65536 * (x5 + 65536 * (x6 + 65536 * (x7 + 65536 * (x8 % 4)))))))) := by
    simp only [PL.b16]
    omega
  have hq : PL.b16 [x0, x1, x2, x3, x4, x5, x6, x7, x8, x9, x10, x11, x12, x13, x14, x15, x16, x17, x18, x19, x20, x21, x22, x23] = PL.b16 [x0, x1, x2, x3, x4, x5, x6, x7, x8 % 4, 0, 0, 0, 0, 0, 0, 0, 0, 0, 0, 0, 0, 0, 0, 0] + 1361129467683753853853498429727072845824 * PL.b16 [x8 / 4 + x9 % 4 * 16384, x9 / 4 + x10 % 4 * 16384, x10 / 4 + x11 % 4 * 16384, x11 / 4 + x12 % 4 * 16384, x12 / 4 + x13 % 4 * 16384, x13 / 4 + x14 % 4 * 16384, x14 / 4 + x15 % 4 * 16384, x15 / 4 + x16 % 4 * 16384, x16 / 4 + x17 % 4 * 16384, x17 / 4 + x18 % 4 * 16384, x18 / 4 + x19 % 4 * 16384, x19 / 4 + x20 % 4 * 16384, x20 / 4 + x21 % 4 * 16384, x21 / 4 + x22 % 4 * 16384, x22 / 4 + x23 % 4 * 16384, x23 / 4 + 0 % 4 * 16384, 0, 0, 0, 0, 0, 0, 0, 0] := by
    simp only [PL.b16]
    omega
  have hb : 0 ≤ PL.b16 [x0, x1, x2, x3, x4, x5, x6, x7, x8 % 4, 0, 0, 0, 0, 0, 0, 0, 0, 0, 0, 0, 0, 0, 0, 0] ∧ PL.b16 [x0, x1, x2, x3, x4, x5, x6, x7, x8 % 4, 0, 0, 0, 0, 0, 0, 0, 0, 0, 0, 0, 0, 0, 0, 0] < 1361129467683753853853498429727072845824 := by
    rw [hlo]
    omega
  refine ⟨⟨rfl, ?_⟩, ⟨rfl, ?_⟩, ?_, ?_⟩
  · intro y hy
    simp only [List.mem_cons, List.not_mem_nil, or_false] at hy
    omega
  · intro y hy
    simp only [List.mem_cons, List.not_mem_nil, or_false] at hy
    omega
  · rw [hq, Int.add_mul_emod_self_left, Int.emod_eq_of_lt hb.1 hb.2]
  · rw [hq, Int.add_mul_ediv_left _ _ (by decide), Int.ediv_eq_zero_of_lt hb.1 hb.2, Int.zero_add]

theorem partedSpec_ok : partedSpec.OK PP 38 := by
  refine Spec.ok_of_run (fn := Try.f38) (c := Try.f38.body.getD .skip) (by kernel_rfl) (by kernel_rfl) (by kernel_rfl) (specs := noSpec) noSpec_ok (fun x => numInvs x []) 1000 ?_
  intro (x : List Int) ⟨hx, hd⟩
  refine (vc38 ar0 x).mpr ?_
  refine ⟨⟨(0, PL.tab 24 fun _ => 0), ⟨Nat.zero_le _, PL.tab_congr fun j _ => by rw [if_neg (by omega)]⟩, ?_⟩, ?_⟩
  · and_intros <;> first | rfl | trivial | exact ints24 hx
  rintro ⟨i, l⟩ hok
  dsimp only at hok ⊢
  have hi := hok.hi
  have he := hok.eq
  have hl : l.length = 24 := by rw [he]; simp
  refine ⟨fun hlt => ?_, fun hge => ?_⟩
  · replace hlt : i < 8 := by
      have : (i : Int) < 8 := hlt
      omega
    obtain ⟨s1, s2, s3, s4⟩ := at24 (show i < 24 by omega) hx
    obtain ⟨u1, u2, u3, u4⟩ := at24 (show i < 24 by omega) hl
    refine ⟨s1, s2, s3, s4, u1, u2, u3, u4, ?_⟩
    intro z hz
    replace hz : z = ((i + 1 : Nat) : Int) := next24 (by omega) hz
    refine ⟨(i + 1, l.set i (x.getD i 0)), ⟨by show i + 1 ≤ 8; omega, ?_⟩, by show 8 - (i + 1) < 8 - i; omega, ?_⟩
    · rw [he]
      show (PL.tab 24 _).set i (x.getD i 0) = _
      rw [PL.tab_set]
      refine PL.tab_congr fun j hj => ?_
      by_cases e : j = i
      · subst e
        rw [if_pos rfl, if_pos (by omega)]
      · rw [if_neg e]
        by_cases hji : j < i
        · rw [if_pos hji, if_pos (by omega)]
        · rw [if_neg hji, if_neg (by omega)]
    · and_intros <;> first | rfl | trivial | exact hz
  obtain rfl : i = 8 := by
    have : ¬ (i : Int) < 8 := hge
    omega
  refine ⟨le_ar rfl, lt24 hx 8 (by decide), ?_⟩
  intro z hz
  have g8 := PL.getD_dig hd (show 8 < x.length by omega)
  replace hz : z = x.getD 8 0 % 4 := by
    rw [hz]
    exact Int.tmod_eq_emod_of_nonneg g8.1
  refine ⟨le_ar rfl, lt24 hl 8 (by decide), ⟨(8, PL.tab 24 fun _ => 0), ⟨Nat.le_refl _, by show 8 ≤ 24; omega, PL.tab_congr fun j _ => by rw [if_neg (by omega)]⟩, ?_⟩, ?_⟩
  · and_intros <;> first | rfl | trivial
  rintro ⟨i, h⟩ hhi
  dsimp only at hhi ⊢
  have hi8 := hhi.lo
  have hi24 := hhi.hi
  have heh := hhi.eq
  have hhl : h.length = 24 := by rw [heh]; simp
  have step : ∀ (v : Int), i < 24 → v = x.getD i 0 / 4 + x.getD (i + 1) 0 % 4 * 16384 → PL.PartHigh x (i + 1) (h.set (i - 8) v) := fun v hlt hv => ⟨by omega, by omega, by
    rw [heh]
    show (PL.tab 24 _).set (i - 8) v = _
    rw [PL.tab_set]
    refine PL.tab_congr fun j hj => ?_
    by_cases e : j = i - 8
    · subst e
      rw [if_pos rfl, if_pos (by omega), hv, show i - 8 + 8 = i by omega, show i - 8 + 9 = i + 1 by omega]
    · rw [if_neg e]
      by_cases hji : j + 8 < i
      · rw [if_pos hji, if_pos (by omega)]
      · rw [if_neg hji, if_neg (by omega)]⟩
  refine ⟨fun hlt => ?_, fun hge => ?_⟩
  · replace hlt : i < 24 := by
      have : (i : Int) < 24 := hlt
      omega
    have gi := PL.getD_dig hd (show i < x.length by omega)
    have hsub : ∀ w : Int, w = ar0.wrap .i64 (ar0.sub (i : Int) 8) → w = ((i - 8 : Nat) : Int) := fun w hw => by
      rw [hw]
      show IntKind.i64.wrap ((i : Int) - 8) = _
      rw [wrap_i64 (by omega) (by omega)]
      omega
    have hq : ∀ w : Int, w = ar0.wrap .i64 (ar0.quo (ar0.iget x (i : Int)) 4) → w = x.getD i 0 / 4 := fun w hw => by
      rw [hw]
      show IntKind.i64.wrap ((x.getD (i : Int).toNat 0).tdiv 4) = _
      rw [Int.toNat_natCast, Int.tdiv_eq_ediv_of_nonneg gi.1, wrap_i64 (by omega) (by omega)]
    obtain ⟨s1, s2, s3, s4⟩ := at24 (show i < 24 by omega) hx
    obtain ⟨w1, w2, w3, w4⟩ := at24 (show i - 8 < 24 by omega) hhl
    intro z1 hz1
    replace hz1 := next24 (by omega) hz1
    refine ⟨fun hl24 => ?_, fun hl24 => ?_⟩
    · have hi1 : i + 1 < 24 := by
        have : z1 < 24 := hl24
        omega
      have gj := PL.getD_dig hd (show i + 1 < x.length by omega)
      intro z2 hz2
      replace hz2 := next24 (by omega) hz2
      obtain ⟨t1, t2, t3, t4⟩ := at24 hi1 hx
      rw [← hz2] at t1 t2 t3 t4
      refine ⟨t1, t2, t3, t4, ?_⟩
      intro z3 hz3
      replace hz3 : z3 = x.getD (i + 1) 0 % 4 := by
        rw [hz3, hz2]
        show (x.getD ((i + 1 : Nat) : Int).toNat 0).tmod 4 = _
        rw [Int.toNat_natCast]
        exact Int.tmod_eq_emod_of_nonneg gj.1
      intro z4 hz4
      replace hz4 := hsub z4 hz4
      refine ⟨s1, s2, s3, s4, ?_⟩
      intro z5 hz5
      replace hz5 := hq z5 hz5
      intro z6 hz6
      replace hz6 : z6 = z3 * 16384 := by
        rw [hz6]
        exact wrap_i64 (by show _ ≤ z3 * 16384; omega) (by show z3 * 16384 < _; omega)
      intro z7 hz7
      replace hz7 : z7 = z5 + z6 := by
        rw [hz7]
        exact wrap_i64 (by show _ ≤ z5 + z6; omega) (by show z5 + z6 < _; omega)
      rw [← hz4] at w1 w2 w3 w4
      refine ⟨w1, w2, w3, w4, ?_⟩
      intro z8 hz8
      replace hz8 := next24 (by omega) hz8
      refine ⟨(i + 1, h.set (i - 8) z7), step z7 hlt (by rw [hz7, hz6, hz5, hz3]), by show 24 - (i + 1) < 24 - i; omega, ?_⟩
      have hset : ar0.iset h z4 z7 = h.set (i - 8) z7 := by rw [hz4]; rfl
      and_intros <;> first | rfl | trivial | exact hz8 | exact hset
    · have hi1 : i = 23 := by
        have : ¬ z1 < 24 := hl24
        omega
      intro z4 hz4
      replace hz4 := hsub z4 hz4
      refine ⟨s1, s2, s3, s4, ?_⟩
      intro z5 hz5
      replace hz5 := hq z5 hz5
      intro z7 hz7
      replace hz7 : z7 = z5 + 0 := by
        rw [hz7]
        exact wrap_i64 (by show _ ≤ z5 + 0; omega) (by show z5 + 0 < _; omega)
      rw [← hz4] at w1 w2 w3 w4
      refine ⟨w1, w2, w3, w4, ?_⟩
      intro z8 hz8
      replace hz8 := next24 (by omega) hz8
      have hx24 : x.getD (i + 1) 0 = 0 := by
        rw [hi1]
        simp [List.getD, hx]
      refine ⟨(i + 1, h.set (i - 8) z7), step z7 hlt (by rw [hz7, hz5, hx24]; omega), by show 24 - (i + 1) < 24 - i; omega, ?_⟩
      have hset : ar0.iset h z4 z7 = h.set (i - 8) z7 := by rw [hz4]; rfl
      and_intros <;> first | rfl | trivial | exact hz8 | exact hset
  · obtain rfl := nlt24 hge hi24
    have hlo : ar0.iset l 8 z = (PL.tab 24 fun j => if j < 8 then x.getD j 0 else 0).set 8 (x.getD 8 0 % 4) := by
      rw [hz, he]; rfl
    have hll : (ar0.iset l 8 z).length = 24 := by rw [hlo]; simp [PL.tab]
    have hlt1 := lt24 hll
    have hlt2 := lt24 hhl
    have hv := parted_vals (x := x) ⟨hx, hd⟩
    rw [← hlo] at hv
    have heh' : h = PL.tab 24 fun j => if j + 8 < 24 then x.getD (j + 8) 0 / 4 + x.getD (j + 9) 0 % 4 * 16384 else 0 := heh
    rw [← heh'] at hv
    refine ⟨le_ar rfl, hlt1 0 (by decide), le_ar rfl, hlt1 1 (by decide), le_ar rfl, hlt1 2 (by decide), le_ar rfl, hlt1 3 (by decide), le_ar rfl, hlt1 4 (by decide), le_ar rfl, hlt1 5 (by decide), le_ar rfl, hlt1 6 (by decide), le_ar rfl, hlt1 7 (by decide), le_ar rfl, hlt1 8 (by decide), le_ar rfl, hlt1 9 (by decide), le_ar rfl, hlt1 10 (by decide), le_ar rfl, hlt1 11 (by decide), le_ar rfl, hlt1 12 (by decide), le_ar rfl, hlt1 13 (by decide), le_ar rfl, hlt1 14 (by decide), le_ar rfl, hlt1 15 (by decide), le_ar rfl, hlt1 16 (by decide), le_ar rfl, hlt1 17 (by decide), le_ar rfl, hlt1 18 (by decide), le_ar rfl, hlt1 19 (by decide), le_ar rfl, hlt1 20 (by decide), le_ar rfl, hlt1 21 (by decide), le_ar rfl, hlt1 22 (by decide), le_ar rfl, hlt1 23 (by decide), le_ar rfl, hlt2 0 (by decide), le_ar rfl, hlt2 1 (by decide), le_ar rfl, hlt2 2 (by decide), le_ar rfl, hlt2 3 (by decide), le_ar rfl, hlt2 4 (by decide), le_ar rfl, hlt2 5 (by decide), le_ar rfl, hlt2 6 (by decide), le_ar rfl, hlt2 7 (by decide), le_ar rfl, hlt2 8 (by decide), le_ar rfl, hlt2 9 (by decide), le_ar rfl, hlt2 10 (by decide), le_ar rfl, hlt2 11 (by decide), le_ar rfl, hlt2 12 (by decide), le_ar rfl, hlt2 13 (by decide), le_ar rfl, hlt2 14 (by decide), le_ar rfl, hlt2 15 (by decide), le_ar rfl, hlt2 16 (by decide), le_ar rfl, hlt2 17 (by decide), le_ar rfl, hlt2 18 (by decide), le_ar rfl, hlt2 19 (by decide), le_ar rfl, hlt2 20 (by decide), le_ar rfl, hlt2 21 (by decide), le_ar rfl, hlt2 22 (by decide), le_ar rfl, hlt2 23 (by decide), (ar0.iset l 8 z, h), hv, rfl, rfl, rfl, rfl, rfl, rfl, rfl, rfl, rfl, rfl, rfl, rfl, rfl, rfl, rfl, rfl, rfl, rfl, rfl, rfl, rfl, rfl, rfl, rfl, rfl, rfl, rfl, rfl, rfl, rfl, rfl, rfl, rfl, rfl, rfl, rfl, rfl, rfl, rfl, rfl, rfl, rfl, rfl, rfl, rfl, rfl, rfl, rfl, trivial⟩
end Go.Eng
