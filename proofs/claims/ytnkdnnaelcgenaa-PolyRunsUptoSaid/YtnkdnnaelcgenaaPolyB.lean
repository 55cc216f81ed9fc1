/- Poly: Sum: the contract holds. -/
import Derived.Test.YtnkdnnaelcgenaaPolyA
set_option linter.unusedVariables false
set_option linter.unusedSimpArgs false

/- Poly: the contracts of New, Write, Sum. -/
namespace Go.PL
def ints (s : List UInt8) : List Int := s.map fun b => (b.toNat : Int)
/-- The first half of a key, its barred bits taken as 0. -/
def clampI (l : List Int) : List Int := (List.range 16).map fun i => if i % 4 = 3 then l.getD i 0 % 16 else if i % 4 = 0 ∧ 0 < i then l.getD i 0 / 4 * 4 else l.getD i 0
def rOf (key : List UInt8) : Int := leI (clampI (ints (key.take 16)))
def sOf (key : List UInt8) : Int := leI (ints (key.drop 16))
/-- So many whole blocks taken in. -/
def absorbN (R : Int) : Nat → Int → List UInt8 → Int
  | 0, a, _ => a
  | n + 1, a, t => absorbN R n ((a + leI (ints (t.take 16)) + 340282366920938463463374607431768211456) * R % PQ) (t.drop 16)
/-- This Mac has taken in this text. -/
structure MacOK (R : Int) (t : List UInt8) (m : MacS) : Prop where
  acc : m.acc.lt 134217728
  r : m.r.lt 67108864
  rv : m.r.val = R
  val : m.acc.val % PQ = absorbN R (t.length / 16) 0 t % PQ
  len : m.rest.length = 16
  b : Bytes m.rest
  held : m.held = (t.length % 16 : Nat)
  rest : m.rest.take (t.length % 16) = ints (t.drop (16 * (t.length / 16)))
structure NewOK (key : List UInt8) (m : MacS) : Prop where
  len : key.length = 32
  ok : MacOK (rOf key) [] m
  s0 : m.s0 = leI (ints ((key.drop 16).take 8))
  s1 : m.s1 = leI (ints (key.drop 24))
/-- The number behind the last block. -/
def lastN (R : Int) (t : List UInt8) : Int :=
  let a := absorbN R (t.length / 16) 0 t
  let r := t.drop (16 * (t.length / 16))
  if r = [] then a % PQ else (a + leI (ints r ++ [1])) * R % PQ
def leBytes (v : Int) : List UInt8 := (List.range 16).map fun i => UInt8.ofNat (v / 256 ^ i % 256).toNat
structure WritePre (R : Int) (t s : List UInt8) (m : MacS) : Prop where
  ok : MacOK R t m
  len : s.length < 4611686018427387904
structure Written (R : Int) (t s : List UInt8) (m y : MacS) : Prop where
  ok : MacOK R (t ++ s) y
  s0 : y.s0 = m.s0
  s1 : y.s1 = m.s1
structure SumPre (R : Int) (t : List UInt8) (m : MacS) : Prop where
  ok : MacOK R t m
  s0 : 0 ≤ m.s0 ∧ m.s0 < 18446744073709551616
  s1 : 0 ≤ m.s1 ∧ m.s1 < 18446744073709551616
structure NotKey (key : List UInt8) : Prop where
  ne : key.length ≠ 32
structure LenOK (key : List UInt8) : Prop where
  len : key.length < 4611686018427387904
end Go.PL
set_option linter.unusedSectionVars false
namespace Go.Eng
variable [CW : CWorld]
open Go.Proofs
open Go.PL (L5 MacS)
set_option maxRecDepth 100000

def newSpec : Spec where
  X := List UInt8
  A x := [.str x]
  H _ := []
  pre x := PL.LenOK x
  outs := [{ Y _ := Unit, post x _ := PL.NotKey x, R _ _ := .tup [.nptr, .int .i64 (.l 40)], H' _ _ := [] },
    { Y _ := MacS, post x y := PL.NewOK x y, R _ _ := .tup [.ptr 0 (.l 0), .int .i64 (.l 0)], H' _ y := [.mk 62 (macSegs y)] }]

def writeSpec : Spec where
  X := MacS × List UInt8 × Int × List UInt8
  A x := [.ptr 0 (.l 0), .str x.2.1]
  H x := [.mk 62 (macSegs x.1)]
  pre x := PL.WritePre x.2.2.1 x.2.2.2 x.2.1 x.1
  outs := [{ Y _ := MacS, post x y := PL.Written x.2.2.1 x.2.2.2 x.2.1 x.1 y, R _ _ := .int .i64 (.l 0), H' _ y := [.mk 62 (macSegs y)] }]

def sumSpec : Spec where
  X := MacS × Int × List UInt8
  A x := [.ptr 0 (.l 0)]
  H x := [.mk 62 (macSegs x.1)]
  pre x := PL.SumPre x.2.1 x.2.2 x.1
  outs := [{ Y _ := Unit, post _ _ := True, R x _ := .str (PL.leBytes (PL.lastN x.2.1 x.2.2 + x.1.s0 + x.1.s1 * 18446744073709551616)), H' x _ := [.mk 62 (macSegs x.1)] }]

noncomputable def wSpecs : Specs := fun f xs _ => match f with
  | 37 => some carrySpec
  | 29 => some blockSpec
  | 30 => some reducedSpec
  | 26 => match xs with
    | .ptr _ (.l 12) :: _ => some loadMacSpec
    | _ => some loadSpec
  | _ => none

/-- Write's loop: what is written and what is left. -/
def writeInv (R : Int) (t s : List UInt8) (m : MacS) : Code → List SV → List Blk → Inv := fun b fr hp => {
  ι := MacS × List UInt8 × List UInt8
  fr := fun i => upd (havoc b fr) [(1, .str i.2.2)]
  hp := fun i => [.mk 62 (macSegs i.1)]
  μ := fun i => i.2.2.length
  ok := fun i => PL.Written R t i.2.1 m i.1 ∧ i.2.1 ++ i.2.2 = s }
def writeInvs (R : Int) (t s : List UInt8) (m : MacS) : Invs := fun f n => match f, n with
  | 24, 3 => some fun b fr hp => [writeInv R t s m b fr hp]
  | _, _ => none

end Go.Eng

/- Poly: New, Write, Sum: the walks. -/
set_option linter.unusedVariables false
set_option linter.unusedSectionVars false
namespace Go.Eng
variable [CW : CWorld]
open Go.Proofs
open Go.PL (L5 MacS)
set_option maxRecDepth 100000
theorem vc24 (ar : AR) (x : MacS × List UInt8 × Int × List UInt8) : (run ar PP wSpecs (writeInvs x.2.2.1 x.2.2.2 x.2.1 x.1) 1000 24 1 (Try.f24.body.getD .skip) ([.ptr 0 (.l 0), .str x.2.1] ++ List.replicate (Try.f24.ntmps - 2) .any) [.mk 62 (macSegs x.1)] (endCall ar PP Try.f24.results.toList (writeSpec.fin x))) = (
    (∃ (i : MacS × List UInt8 × List UInt8), (PL.Written x.snd.snd.fst x.snd.snd.snd i.2.fst x.fst i.fst ∧ i.2.fst.append i.2.snd = x.snd.fst) ∧ x.snd.fst = i.2.snd ∧ x.fst.acc.a =
    i.fst.acc.a ∧ x.fst.acc.b = i.fst.acc.b ∧ x.fst.acc.c = i.fst.acc.c ∧ x.fst.acc.d = i.fst.acc.d ∧ x.fst.acc.e = i.fst.acc.e ∧ x.fst.r.a = i.fst.r.a ∧ x.fst.r.b = i.fst.r.b ∧
    x.fst.r.c = i.fst.r.c ∧ x.fst.r.d = i.fst.r.d ∧ x.fst.r.e = i.fst.r.e ∧ x.fst.s0 = i.1.s0 ∧ x.fst.s1 = i.1.s1 ∧ x.fst.rest = i.1.rest ∧ x.fst.held = i.1.held ∧ True) ∧ ∀ (i :
    MacS × List UInt8 × List UInt8), PL.Written x.snd.snd.fst x.snd.snd.snd i.2.fst x.fst i.fst ∧ i.2.fst.append i.2.snd = x.snd.fst → (ar.lt 0 (ar.slen i.2.snd) → ar.le 0 i.1.held
    ∧ ar.le i.1.held 16 ∧ ar.le 0 i.1.held ∧ ar.le i.1.held (ar.ilen i.1.rest) ∧ ar.le (ar.add i.1.held (ar.ilen (ar.isub (ar.ints i.2.snd) 0 (ar.mn (ar.slen i.2.snd) (ar.sub 16
    i.1.held))))) 16 ∧ ∀ (z : Int), z = ar.wrap IntKind.i64 (ar.add i.1.held (ar.mn (ar.slen i.2.snd) (ar.sub 16 i.1.held))) → ar.le 0 (ar.mn (ar.slen i.2.snd) (ar.sub 16
    i.1.held)) ∧ ar.le (ar.mn (ar.slen i.2.snd) (ar.sub 16 i.1.held)) (ar.slen i.2.snd) ∧ ∀ (t : List UInt8), t = ar.sext i.2.snd (ar.mn (ar.slen i.2.snd) (ar.sub 16 i.1.held))
    (ar.slen i.2.snd) → (ar.eq z 16 → ∃ (x_1 : MacS × Int), 1 = x_1.snd ∧ i.fst.acc.a = x_1.fst.acc.a ∧ i.fst.acc.b = x_1.fst.acc.b ∧ i.fst.acc.c = x_1.fst.acc.c ∧ i.fst.acc.d =
    x_1.fst.acc.d ∧ i.fst.acc.e = x_1.fst.acc.e ∧ i.fst.r.a = x_1.fst.r.a ∧ i.fst.r.b = x_1.fst.r.b ∧ i.fst.r.c = x_1.fst.r.c ∧ i.fst.r.d = x_1.fst.r.d ∧ i.fst.r.e = x_1.fst.r.e ∧
    i.1.s0 = x_1.1.s0 ∧ i.1.s1 = x_1.1.s1 ∧ ar.iover i.1.rest i.1.held (ar.isub (ar.ints i.2.snd) 0 (ar.mn (ar.slen i.2.snd) (ar.sub 16 i.1.held))) = x_1.1.rest ∧ z = x_1.1.held ∧
    PL.loadPre x_1.1.rest x_1.snd ∧ ∀ (y : L5), PL.loaded x_1.1.rest x_1.snd y → ∃ (x_2 : MacS × L5), y.a = x_2.2.a ∧ y.b = x_2.2.b ∧ y.c = x_2.2.c ∧ y.d = x_2.2.d ∧ y.e = x_2.2.e
    ∧ x_1.fst.acc.a = x_2.fst.acc.a ∧ x_1.fst.acc.b = x_2.fst.acc.b ∧ x_1.fst.acc.c = x_2.fst.acc.c ∧ x_1.fst.acc.d = x_2.fst.acc.d ∧ x_1.fst.acc.e = x_2.fst.acc.e ∧ x_1.fst.r.a =
    x_2.fst.r.a ∧ x_1.fst.r.b = x_2.fst.r.b ∧ x_1.fst.r.c = x_2.fst.r.c ∧ x_1.fst.r.d = x_2.fst.r.d ∧ x_1.fst.r.e = x_2.fst.r.e ∧ x_1.1.s0 = x_2.1.s0 ∧ x_1.1.s1 = x_2.1.s1 ∧
    x_1.1.rest = x_2.1.rest ∧ x_1.1.held = x_2.1.held ∧ PL.blockPre x_2.fst x_2.snd ∧ ∀ (y : L5), PL.blocked x_2.fst x_2.snd y → ∃ (j : MacS × List UInt8 × List UInt8), (PL.Written
    x.snd.snd.fst x.snd.snd.snd j.2.fst x.fst j.fst ∧ j.2.fst.append j.2.snd = x.snd.fst) ∧ j.2.snd.length.lt i.2.snd.length ∧ t = j.2.snd ∧ y.a = j.fst.acc.a ∧ y.b = j.fst.acc.b ∧
    y.c = j.fst.acc.c ∧ y.d = j.fst.acc.d ∧ y.e = j.fst.acc.e ∧ x_2.fst.r.a = j.fst.r.a ∧ x_2.fst.r.b = j.fst.r.b ∧ x_2.fst.r.c = j.fst.r.c ∧ x_2.fst.r.d = j.fst.r.d ∧ x_2.fst.r.e
    = j.fst.r.e ∧ x_2.1.s0 = j.1.s0 ∧ x_2.1.s1 = j.1.s1 ∧ x_2.1.rest = j.1.rest ∧ 0 = j.1.held ∧ True) ∧ (¬ar.eq z 16 → ∃ (j : MacS × List UInt8 × List UInt8), (PL.Written
    x.snd.snd.fst x.snd.snd.snd j.2.fst x.fst j.fst ∧ j.2.fst.append j.2.snd = x.snd.fst) ∧ j.2.snd.length.lt i.2.snd.length ∧ t = j.2.snd ∧ i.fst.acc.a = j.fst.acc.a ∧ i.fst.acc.b
    = j.fst.acc.b ∧ i.fst.acc.c = j.fst.acc.c ∧ i.fst.acc.d = j.fst.acc.d ∧ i.fst.acc.e = j.fst.acc.e ∧ i.fst.r.a = j.fst.r.a ∧ i.fst.r.b = j.fst.r.b ∧ i.fst.r.c = j.fst.r.c ∧
    i.fst.r.d = j.fst.r.d ∧ i.fst.r.e = j.fst.r.e ∧ i.1.s0 = j.1.s0 ∧ i.1.s1 = j.1.s1 ∧ ar.iover i.1.rest i.1.held (ar.isub (ar.ints i.2.snd) 0 (ar.mn (ar.slen i.2.snd) (ar.sub 16
    i.1.held))) = j.1.rest ∧ z = j.1.held ∧ True)) ∧ (¬ar.lt 0 (ar.slen i.2.snd) → ∃ (y : MacS), PL.Written x.snd.snd.fst x.snd.snd.snd x.snd.fst x.fst y ∧ i.fst.acc.a = y.1.a ∧
    i.fst.acc.b = y.1.b ∧ i.fst.acc.c = y.1.c ∧ i.fst.acc.d = y.1.d ∧ i.fst.acc.e = y.1.e ∧ i.fst.r.a = y.2.a ∧ i.fst.r.b = y.2.b ∧ i.fst.r.c = y.2.c ∧ i.fst.r.d = y.2.d ∧
    i.fst.r.e = y.2.e ∧ i.1.s0 = y.s0 ∧ i.1.s1 = y.s1 ∧ i.1.rest = y.rest ∧ i.1.held = y.held ∧ True)) := by
  kernel_rfl
end Go.Eng


/- Poly: the laws of the text that a Mac has taken in. -/
set_option linter.unusedSimpArgs false
set_option linter.unusedVariables false
namespace Go.PL

theorem ints_length (s : List UInt8) : (ints s).length = s.length := by simp [ints]
theorem ints_append (s t : List UInt8) : ints (s ++ t) = ints s ++ ints t := by simp [ints]
theorem ints_take (s : List UInt8) (n : Nat) : ints (s.take n) = (ints s).take n := by simp [ints, List.map_take]
theorem ints_bytes (s : List UInt8) : Bytes (ints s) := ⟨fun x hx => by
  obtain ⟨b, _, rfl⟩ := List.mem_map.1 hx
  have := b.toNat_lt
  omega⟩

theorem absorbN_append (R : Int) : ∀ (n : Nat) (a : Int) (t u : List UInt8), 16 * n ≤ t.length → absorbN R n a (t ++ u) = absorbN R n a t
  | 0, _, _, _, _ => rfl
  | n + 1, a, t, u, h => by
    have h1 : (t ++ u).take 16 = t.take 16 := List.take_append_of_le_length (by omega)
    have h2 : (t ++ u).drop 16 = t.drop 16 ++ u := List.drop_append_of_le_length (by omega)
    simp only [absorbN, h1, h2]
    exact absorbN_append R n _ _ _ (by simp; omega)

theorem absorbN_succ (R : Int) : ∀ (n : Nat) (a : Int) (t : List UInt8),
    absorbN R (n + 1) a t = (absorbN R n a t + leI (ints ((t.drop (16 * n)).take 16)) + 340282366920938463463374607431768211456) * R % PQ
  | 0, a, t => by simp [absorbN]
  | n + 1, a, t => by
    have ih := absorbN_succ R n ((a + leI (ints (t.take 16)) + 340282366920938463463374607431768211456) * R % PQ) (t.drop 16)
    rw [absorbN, ih]
    simp only [absorbN, List.drop_drop]
    rw [show 16 + 16 * n = 16 * (n + 1) by omega]

/-- Some bytes more, but no whole block. -/
theorem MacOK.more {R : Int} {T p : List UInt8} {m : MacS} (h : MacOK R T m) (hp : T.length % 16 + p.length < 16) :
    MacOK R (T ++ p) { m with rest := m.rest.take (T.length % 16) ++ ints p ++ m.rest.drop (T.length % 16 + p.length), held := (T.length % 16 + p.length : Nat) } := by
  have hq : (T ++ p).length / 16 = T.length / 16 := by simp; omega
  have hr : (T ++ p).length % 16 = T.length % 16 + p.length := by simp; omega
  have hl := h.len
  refine ⟨h.acc, h.r, h.rv, ?_, ?_, ⟨?_⟩, ?_, ?_⟩
  · rw [hq, absorbN_append R _ _ _ _ (by omega)]
    exact h.val
  · simp [ints_length]; omega
  · intro x hx
    simp only [List.mem_append] at hx
    rcases hx with (hx | hx) | hx
    · exact h.b.b x (List.mem_of_mem_take hx)
    · exact (ints_bytes p).b x hx
    · exact h.b.b x (List.mem_of_mem_drop hx)
  · rw [hr]
  · simp only [hr, hq]
    rw [h.rest, ← ints_append, List.drop_append_of_le_length (by omega), List.take_append_of_le_length (by simp [ints_length]; omega), List.take_of_length_le (by simp [ints_length]; omega)]

/-- A whole block. -/
theorem MacOK.full {R : Int} {T p : List UInt8} {m : MacS} {x y : L5} (h : MacOK R T m) (hp : T.length % 16 + p.length = 16)
    (hx : x.val = leI (m.rest.take (T.length % 16) ++ ints p ++ m.rest.drop (T.length % 16 + p.length)) + 1 * 340282366920938463463374607431768211456)
    (hy : y.lt 134217728) (hv : ∃ k : Int, y.val = (m.acc.val + x.val) * m.r.val - PQ * k) :
    MacOK R (T ++ p) { m with acc := y, rest := m.rest.take (T.length % 16) ++ ints p ++ m.rest.drop (T.length % 16 + p.length), held := 0 } := by
  have hq : (T ++ p).length / 16 = T.length / 16 + 1 := by simp; omega
  have hr : (T ++ p).length % 16 = 0 := by simp; omega
  have hl := h.len
  have hd : m.rest.drop (T.length % 16 + p.length) = [] := List.drop_eq_nil_of_le (by omega)
  refine ⟨hy, h.r, h.rv, ?_, ?_, ⟨?_⟩, ?_, ?_⟩
  · show y.val % PQ = _
    rw [hq, absorbN_succ, absorbN_append R _ _ _ _ (by omega), List.drop_append_of_le_length (by omega), List.take_of_length_le (l := T.drop (16 * (T.length / 16)) ++ p) (by simp; omega), ints_append, ← h.rest]
    obtain ⟨k, hk⟩ := hv
    rw [hd, List.append_nil] at hx
    have e1 := Int.mul_ediv_add_emod m.acc.val PQ
    have e2 := Int.mul_ediv_add_emod (absorbN R (T.length / 16) 0 T) PQ
    rw [h.val] at e1
    generalize absorbN R (T.length / 16) 0 T = A at e1 e2
    generalize m.acc.val / PQ = c at e1
    generalize A / PQ = d at e2
    generalize A % PQ = e at e1 e2
    rw [h.rv] at hk
    rw [Int.emod_emod_of_dvd _ (Int.dvd_refl _)]
    have : y.val = (A + leI (m.rest.take (T.length % 16) ++ ints p) + 340282366920938463463374607431768211456) * R + PQ * ((c - d) * R - k) := by
      have e3 : m.acc.val = A + PQ * (c - d) := by
        rw [Int.mul_sub]; omega
      rw [hk, e3, hx]
      generalize leI (m.rest.take (T.length % 16) ++ ints p) = X
      grind
    rw [this, Int.add_mul_emod_self_left]
  · simp [ints_length]; omega
  · intro x hx
    simp only [List.mem_append] at hx
    rcases hx with (hx | hx) | hx
    · exact h.b.b x (List.mem_of_mem_take hx)
    · exact (ints_bytes p).b x hx
    · exact h.b.b x (List.mem_of_mem_drop hx)
  · rw [hr]; rfl
  · rw [hr, List.take_zero]
    rw [List.drop_eq_nil_of_le (by simp; omega)]
    rfl

end Go.PL

/- Poly: Write: the contract holds. -/
set_option linter.unusedSimpArgs false
set_option linter.unusedVariables false
set_option maxRecDepth 100000
set_option linter.unusedSectionVars false
namespace Go.Eng
variable [CW : CWorld]
open Go.Proofs
open Go.PL (L5 MacS)

theorem wSpecs_ok : SpecsOK PP wSpecs := by
  intro f xs _ S h
  unfold wSpecs at h
  split at h
  · cases h; exact carrySpec_ok
  · cases h; exact blockSpec_ok
  · cases h; exact reducedSpec_ok
  · split at h
    · cases h; exact loadMacSpec_ok
    · cases h; exact loadSpec_ok
  · cases h

theorem writeSpec_ok : writeSpec.OK PP 24 := by
  refine Spec.ok_of_run (fn := Try.f24) (c := Try.f24.body.getD .skip) (by kernel_rfl) (by kernel_rfl) (by kernel_rfl) wSpecs_ok (fun x => writeInvs x.2.2.1 x.2.2.2 x.2.1 x.1) 1000 ?_
  rintro ⟨m, s, R, t⟩ ⟨hok, hlen⟩
  refine (vc24 ar0 _).mpr ?_
  simp only at hok hlen
  refine ⟨⟨(m, [], s), ⟨⟨by simpa using hok, rfl, rfl⟩, rfl⟩, rfl, rfl, rfl, rfl, rfl, rfl, rfl, rfl, rfl, rfl, rfl, rfl, rfl, rfl, rfl, trivial⟩, ?_⟩
  rintro ⟨m', d, u⟩ ⟨⟨hm, hs0, hs1⟩, hsplit⟩
  replace hm : PL.MacOK R (t ++ d) m' := hm
  replace hs0 : m'.s0 = m.s0 := hs0
  replace hs1 : m'.s1 = m.s1 := hs1
  replace hsplit : d ++ u = s := hsplit
  have hul : u.length ≤ s.length := by rw [← hsplit]; simp
  refine ⟨fun hu => ?_, fun hu => ?_⟩
  · replace hu : 0 < (u.length : Int) := hu
    have hheld := hm.held
    have hml := hm.len
    obtain ⟨n, hn⟩ : ∃ n : Nat, ar0.mn (ar0.slen u) (ar0.sub 16 m'.held) = (n : Int) ∧ n = min u.length (16 - (t ++ d).length % 16) := by
      refine ⟨min u.length (16 - (t ++ d).length % 16), ?_, rfl⟩
      show (if (16 - m'.held : Int) < (u.length : Int) then 16 - m'.held else (u.length : Int)) = _
      rw [hheld]
      split <;> omega
    obtain ⟨hn, hnv⟩ := hn
    have hover : ar0.iover m'.rest m'.held (ar0.isub (ar0.ints u) 0 (n : Int)) =
        m'.rest.take ((t ++ d).length % 16) ++ PL.ints (u.take n) ++ m'.rest.drop ((t ++ d).length % 16 + (u.take n).length) := by
      show m'.rest.take m'.held.toNat ++ ((PL.ints u).drop 0).take (n : Int).toNat ++ m'.rest.drop (m'.held.toNat + (((PL.ints u).drop 0).take (n : Int).toNat).length) = _
      rw [hheld, Int.toNat_natCast, Int.toNat_natCast, List.drop_zero, ← PL.ints_take, PL.ints_length]
    have hlenp : (u.take n).length = n := by simp; omega
    have hsub : ar0.ilen (ar0.isub (ar0.ints u) 0 (n : Int)) = (n : Int) := by
      show ((((PL.ints u).drop 0).take (n : Int).toNat).length : Int) = _
      rw [Int.toNat_natCast, List.drop_zero, ← PL.ints_take, PL.ints_length, hlenp]
    simp only [hn, hover, hsub]
    have hle : ∀ a b : Int, ar0.le a b = (a ≤ b) := fun _ _ => rfl
    have hadd : ∀ a b : Int, ar0.add a b = a + b := fun _ _ => rfl
    have hil : ar0.ilen m'.rest = 16 := by show (m'.rest.length : Int) = 16; omega
    have hsl : ar0.slen u = (u.length : Int) := rfl
    simp only [hle, hil, hsl, hadd]
    refine ⟨by omega, by omega, by omega, by omega, by omega, ?_⟩
    intro z hz
    have hz' : z = m'.held + n := by
      rw [hz]
      exact wrap_i64 (by omega) (by omega)
    refine ⟨by omega, by omega, ?_⟩
    intro v hv
    have hv' : v = u.drop n := by
      rw [hv]
      show (u.take (u.length : Int).toNat).drop (n : Int).toNat = _
      rw [Int.toNat_natCast, Int.toNat_natCast, List.take_length]
    have hcat : (d ++ u.take n) ++ v = s := by rw [hv', List.append_assoc, List.take_append_drop, hsplit]
    have hless : v.length < u.length := by rw [hv']; simp; omega
    refine ⟨fun h16 => ?_, fun h16 => ?_⟩
    · replace h16 : z = 16 := h16
      have hfull : (t ++ d).length % 16 + (u.take n).length = 16 := by rw [hlenp]; omega
      refine ⟨({ m' with rest := m'.rest.take ((t ++ d).length % 16) ++ PL.ints (u.take n) ++ m'.rest.drop ((t ++ d).length % 16 + (u.take n).length), held := z }, 1), rfl, rfl, rfl, rfl, rfl, rfl, rfl, rfl, rfl, rfl, rfl, rfl, rfl, rfl, rfl, ⟨?_, ⟨?_⟩, .inr rfl⟩, fun x hx => ?_⟩
      · show (m'.rest.take ((t ++ d).length % 16) ++ PL.ints (u.take n) ++ m'.rest.drop ((t ++ d).length % 16 + (u.take n).length)).length = 16
        rw [List.length_append, @List.length_append _ (m'.rest.take ((t ++ d).length % 16)) _, List.length_take, List.length_drop, PL.ints_length, hlenp]
        omega
      · intro x hx
        simp only [List.mem_append] at hx
        rcases hx with (hx | hx) | hx
        · exact hm.b.b x (List.mem_of_mem_take hx)
        · exact (PL.ints_bytes _).b x hx
        · exact hm.b.b x (List.mem_of_mem_drop hx)
      · refine ⟨({ m' with rest := m'.rest.take ((t ++ d).length % 16) ++ PL.ints (u.take n) ++ m'.rest.drop ((t ++ d).length % 16 + (u.take n).length), held := z }, x), rfl, rfl, rfl, rfl, rfl, rfl, rfl, rfl, rfl, rfl, rfl, rfl, rfl, rfl, rfl, rfl, rfl, rfl, rfl, ⟨hm.acc, hm.r, hx.lt⟩, fun y hy => ?_⟩
        have hnew := hm.full (p := u.take n) hfull hx.val hy.lt hy.val
        rw [List.append_assoc] at hnew
        exact ⟨(_, d ++ u.take n, v), ⟨⟨hnew, hs0, hs1⟩, hcat⟩, hless, rfl, rfl, rfl, rfl, rfl, rfl, rfl, rfl, rfl, rfl, rfl, rfl, rfl, rfl, rfl, trivial⟩
    · have hne : z ≠ 16 := h16
      have hpart : (t ++ d).length % 16 + (u.take n).length < 16 := by rw [hlenp]; omega
      have hnew := hm.more (p := u.take n) hpart
      rw [List.append_assoc] at hnew
      refine ⟨(_, d ++ u.take n, v), ⟨⟨hnew, hs0, hs1⟩, hcat⟩, hless, rfl, rfl, rfl, rfl, rfl, rfl, rfl, rfl, rfl, rfl, rfl, rfl, rfl, rfl, ?_, trivial⟩
      simp only
      rw [hlenp]
      omega
  · have hu0 : u = [] := by
      have : ¬ 0 < (u.length : Int) := hu
      exact List.length_eq_zero_iff.1 (by omega)
    subst hu0
    rw [List.append_nil] at hsplit
    subst hsplit
    exact ⟨m', ⟨hm, hs0, hs1⟩, rfl, rfl, rfl, rfl, rfl, rfl, rfl, rfl, rfl, rfl, rfl, rfl, rfl, rfl, trivial⟩

end Go.Eng

/- Poly: New: the walk. -/
set_option linter.unusedVariables false
set_option linter.unusedSectionVars false
namespace Go.Eng
variable [CW : CWorld]
open Go.Proofs
open Go.PL (L5 MacS)
set_option maxRecDepth 100000
theorem vc12 (ar : AR) (x : List UInt8) : (run ar PP wSpecs noInv 1000 12 0 (Try.f12.body.getD .skip) ([.str x] ++ List.replicate (Try.f12.ntmps - 1) .any) [] (endCall ar PP Try.f12.results.toList (newSpec.fin x))) = (
    (¬ar.eq (ar.slen x) 32 → (∃ (y : Unit), PL.NotKey x ∧ True) ∨ ∃ (y : MacS), PL.NewOK x y ∧ False) ∧ (¬¬ar.eq (ar.slen x) 32 → ar.le (ar.ilen (ar.isub (ar.ints x) 0 (ar.mn
    (ar.slen x) 16))) 16 ∧ ar.le 16 (ar.slen x) ∧ ∀ (t : List UInt8), t = ar.sext x 16 (ar.slen x) → ar.le (ar.ilen (ar.isub (ar.ints t) 0 (ar.mn (ar.slen t) 16))) 16 ∧ ar.le 0 3 ∧
    ar.lt 3 (ar.ilen (ar.iover [0, 0, 0, 0, 0, 0, 0, 0, 0, 0, 0, 0, 0, 0, 0, 0] 0 (ar.isub (ar.ints x) 0 (ar.mn (ar.slen x) 16)))) ∧ ∀ (z : Int), z = ar.band IntKind.u8 (ar.iget
    (ar.iover [0, 0, 0, 0, 0, 0, 0, 0, 0, 0, 0, 0, 0, 0, 0, 0] 0 (ar.isub (ar.ints x) 0 (ar.mn (ar.slen x) 16))) 3) 15 → ar.le 0 3 ∧ ar.lt 3 (ar.ilen (ar.iover [0, 0, 0, 0, 0, 0,
    0, 0, 0, 0, 0, 0, 0, 0, 0, 0] 0 (ar.isub (ar.ints x) 0 (ar.mn (ar.slen x) 16)))) ∧ ar.le 0 7 ∧ ar.lt 7 (ar.ilen (ar.iset (ar.iover [0, 0, 0, 0, 0, 0, 0, 0, 0, 0, 0, 0, 0, 0, 0,
    0] 0 (ar.isub (ar.ints x) 0 (ar.mn (ar.slen x) 16))) 3 z)) ∧ ∀ (z_1 : Int), z_1 = ar.band IntKind.u8 (ar.iget (ar.iset (ar.iover [0, 0, 0, 0, 0, 0, 0, 0, 0, 0, 0, 0, 0, 0, 0,
    0] 0 (ar.isub (ar.ints x) 0 (ar.mn (ar.slen x) 16))) 3 z) 7) 15 → ar.le 0 7 ∧ ar.lt 7 (ar.ilen (ar.iset (ar.iover [0, 0, 0, 0, 0, 0, 0, 0, 0, 0, 0, 0, 0, 0, 0, 0] 0 (ar.isub
    (ar.ints x) 0 (ar.mn (ar.slen x) 16))) 3 z)) ∧ ar.le 0 11 ∧ ar.lt 11 (ar.ilen (ar.iset (ar.iset (ar.iover [0, 0, 0, 0, 0, 0, 0, 0, 0, 0, 0, 0, 0, 0, 0, 0] 0 (ar.isub (ar.ints
    x) 0 (ar.mn (ar.slen x) 16))) 3 z) 7 z_1)) ∧ ∀ (z_2 : Int), z_2 = ar.band IntKind.u8 (ar.iget (ar.iset (ar.iset (ar.iover [0, 0, 0, 0, 0, 0, 0, 0, 0, 0, 0, 0, 0, 0, 0, 0] 0
    (ar.isub (ar.ints x) 0 (ar.mn (ar.slen x) 16))) 3 z) 7 z_1) 11) 15 → ar.le 0 11 ∧ ar.lt 11 (ar.ilen (ar.iset (ar.iset (ar.iover [0, 0, 0, 0, 0, 0, 0, 0, 0, 0, 0, 0, 0, 0, 0, 0]
    0 (ar.isub (ar.ints x) 0 (ar.mn (ar.slen x) 16))) 3 z) 7 z_1)) ∧ ar.le 0 15 ∧ ar.lt 15 (ar.ilen (ar.iset (ar.iset (ar.iset (ar.iover [0, 0, 0, 0, 0, 0, 0, 0, 0, 0, 0, 0, 0, 0,
    0, 0] 0 (ar.isub (ar.ints x) 0 (ar.mn (ar.slen x) 16))) 3 z) 7 z_1) 11 z_2)) ∧ ∀ (z_3 : Int), z_3 = ar.band IntKind.u8 (ar.iget (ar.iset (ar.iset (ar.iset (ar.iover [0, 0, 0,
    0, 0, 0, 0, 0, 0, 0, 0, 0, 0, 0, 0, 0] 0 (ar.isub (ar.ints x) 0 (ar.mn (ar.slen x) 16))) 3 z) 7 z_1) 11 z_2) 15) 15 → ar.le 0 15 ∧ ar.lt 15 (ar.ilen (ar.iset (ar.iset (ar.iset
    (ar.iover [0, 0, 0, 0, 0, 0, 0, 0, 0, 0, 0, 0, 0, 0, 0, 0] 0 (ar.isub (ar.ints x) 0 (ar.mn (ar.slen x) 16))) 3 z) 7 z_1) 11 z_2)) ∧ ar.le 0 4 ∧ ar.lt 4 (ar.ilen (ar.iset
    (ar.iset (ar.iset (ar.iset (ar.iover [0, 0, 0, 0, 0, 0, 0, 0, 0, 0, 0, 0, 0, 0, 0, 0] 0 (ar.isub (ar.ints x) 0 (ar.mn (ar.slen x) 16))) 3 z) 7 z_1) 11 z_2) 15 z_3)) ∧ ∀ (z_4 :
    Int), z_4 = ar.band IntKind.u8 (ar.iget (ar.iset (ar.iset (ar.iset (ar.iset (ar.iover [0, 0, 0, 0, 0, 0, 0, 0, 0, 0, 0, 0, 0, 0, 0, 0] 0 (ar.isub (ar.ints x) 0 (ar.mn (ar.slen
    x) 16))) 3 z) 7 z_1) 11 z_2) 15 z_3) 4) 252 → ar.le 0 4 ∧ ar.lt 4 (ar.ilen (ar.iset (ar.iset (ar.iset (ar.iset (ar.iover [0, 0, 0, 0, 0, 0, 0, 0, 0, 0, 0, 0, 0, 0, 0, 0] 0
    (ar.isub (ar.ints x) 0 (ar.mn (ar.slen x) 16))) 3 z) 7 z_1) 11 z_2) 15 z_3)) ∧ ar.le 0 8 ∧ ar.lt 8 (ar.ilen (ar.iset (ar.iset (ar.iset (ar.iset (ar.iset (ar.iover [0, 0, 0, 0,
    0, 0, 0, 0, 0, 0, 0, 0, 0, 0, 0, 0] 0 (ar.isub (ar.ints x) 0 (ar.mn (ar.slen x) 16))) 3 z) 7 z_1) 11 z_2) 15 z_3) 4 z_4)) ∧ ∀ (z_5 : Int), z_5 = ar.band IntKind.u8 (ar.iget
    (ar.iset (ar.iset (ar.iset (ar.iset (ar.iset (ar.iover [0, 0, 0, 0, 0, 0, 0, 0, 0, 0, 0, 0, 0, 0, 0, 0] 0 (ar.isub (ar.ints x) 0 (ar.mn (ar.slen x) 16))) 3 z) 7 z_1) 11 z_2) 15
    z_3) 4 z_4) 8) 252 → ar.le 0 8 ∧ ar.lt 8 (ar.ilen (ar.iset (ar.iset (ar.iset (ar.iset (ar.iset (ar.iover [0, 0, 0, 0, 0, 0, 0, 0, 0, 0, 0, 0, 0, 0, 0, 0] 0 (ar.isub (ar.ints x)
    0 (ar.mn (ar.slen x) 16))) 3 z) 7 z_1) 11 z_2) 15 z_3) 4 z_4)) ∧ ar.le 0 12 ∧ ar.lt 12 (ar.ilen (ar.iset (ar.iset (ar.iset (ar.iset (ar.iset (ar.iset (ar.iover [0, 0, 0, 0, 0,
    0, 0, 0, 0, 0, 0, 0, 0, 0, 0, 0] 0 (ar.isub (ar.ints x) 0 (ar.mn (ar.slen x) 16))) 3 z) 7 z_1) 11 z_2) 15 z_3) 4 z_4) 8 z_5)) ∧ ∀ (z_6 : Int), z_6 = ar.band IntKind.u8 (ar.iget
    (ar.iset (ar.iset (ar.iset (ar.iset (ar.iset (ar.iset (ar.iover [0, 0, 0, 0, 0, 0, 0, 0, 0, 0, 0, 0, 0, 0, 0, 0] 0 (ar.isub (ar.ints x) 0 (ar.mn (ar.slen x) 16))) 3 z) 7 z_1)
    11 z_2) 15 z_3) 4 z_4) 8 z_5) 12) 252 → ar.le 0 12 ∧ ar.lt 12 (ar.ilen (ar.iset (ar.iset (ar.iset (ar.iset (ar.iset (ar.iset (ar.iover [0, 0, 0, 0, 0, 0, 0, 0, 0, 0, 0, 0, 0,
    0, 0, 0] 0 (ar.isub (ar.ints x) 0 (ar.mn (ar.slen x) 16))) 3 z) 7 z_1) 11 z_2) 15 z_3) 4 z_4) 8 z_5)) ∧ ∃ (x_1 : List Int × Int), 0 = x_1.snd ∧ ar.iset (ar.iset (ar.iset
    (ar.iset (ar.iset (ar.iset (ar.iset (ar.iover [0, 0, 0, 0, 0, 0, 0, 0, 0, 0, 0, 0, 0, 0, 0, 0] 0 (ar.isub (ar.ints x) 0 (ar.mn (ar.slen x) 16))) 3 z) 7 z_1) 11 z_2) 15 z_3) 4
    z_4) 8 z_5) 12 z_6 = x_1.fst ∧ PL.loadPre x_1.fst x_1.snd ∧ ∀ (y : L5), PL.loaded x_1.fst x_1.snd y → ar.le 0 0 ∧ ar.lt 0 (ar.ilen (ar.iover [0, 0, 0, 0, 0, 0, 0, 0, 0, 0, 0,
    0, 0, 0, 0, 0] 0 (ar.isub (ar.ints t) 0 (ar.mn (ar.slen t) 16)))) ∧ ∀ (z : Int), z = ar.wrap IntKind.u64 (ar.iget (ar.iover [0, 0, 0, 0, 0, 0, 0, 0, 0, 0, 0, 0, 0, 0, 0, 0] 0
    (ar.isub (ar.ints t) 0 (ar.mn (ar.slen t) 16))) 0) → ∀ (z_7 : Int), z_7 = ar.shl IntKind.u64 z 0 → ∀ (z : Int), z = ar.bor IntKind.u64 0 z_7 → ar.le 0 1 ∧ ar.lt 1 (ar.ilen
    (ar.iover [0, 0, 0, 0, 0, 0, 0, 0, 0, 0, 0, 0, 0, 0, 0, 0] 0 (ar.isub (ar.ints t) 0 (ar.mn (ar.slen t) 16)))) ∧ ∀ (z_8 : Int), z_8 = ar.wrap IntKind.u64 (ar.iget (ar.iover [0,
    0, 0, 0, 0, 0, 0, 0, 0, 0, 0, 0, 0, 0, 0, 0] 0 (ar.isub (ar.ints t) 0 (ar.mn (ar.slen t) 16))) 1) → ∀ (z_9 : Int), z_9 = ar.shl IntKind.u64 z_8 8 → ∀ (z_10 : Int), z_10 =
    ar.bor IntKind.u64 z z_9 → ar.le 0 2 ∧ ar.lt 2 (ar.ilen (ar.iover [0, 0, 0, 0, 0, 0, 0, 0, 0, 0, 0, 0, 0, 0, 0, 0] 0 (ar.isub (ar.ints t) 0 (ar.mn (ar.slen t) 16)))) ∧ ∀ (z :
    Int), z = ar.wrap IntKind.u64 (ar.iget (ar.iover [0, 0, 0, 0, 0, 0, 0, 0, 0, 0, 0, 0, 0, 0, 0, 0] 0 (ar.isub (ar.ints t) 0 (ar.mn (ar.slen t) 16))) 2) → ∀ (z_11 : Int), z_11 =
    ar.shl IntKind.u64 z 16 → ∀ (z : Int), z = ar.bor IntKind.u64 z_10 z_11 → ar.le 0 3 ∧ ar.lt 3 (ar.ilen (ar.iover [0, 0, 0, 0, 0, 0, 0, 0, 0, 0, 0, 0, 0, 0, 0, 0] 0 (ar.isub
    (ar.ints t) 0 (ar.mn (ar.slen t) 16)))) ∧ ∀ (z_12 : Int), z_12 = ar.wrap IntKind.u64 (ar.iget (ar.iover [0, 0, 0, 0, 0, 0, 0, 0, 0, 0, 0, 0, 0, 0, 0, 0] 0 (ar.isub (ar.ints t)
    0 (ar.mn (ar.slen t) 16))) 3) → ∀ (z_13 : Int), z_13 = ar.shl IntKind.u64 z_12 24 → ∀ (z_14 : Int), z_14 = ar.bor IntKind.u64 z z_13 → ar.le 0 4 ∧ ar.lt 4 (ar.ilen (ar.iover
    [0, 0, 0, 0, 0, 0, 0, 0, 0, 0, 0, 0, 0, 0, 0, 0] 0 (ar.isub (ar.ints t) 0 (ar.mn (ar.slen t) 16)))) ∧ ∀ (z : Int), z = ar.wrap IntKind.u64 (ar.iget (ar.iover [0, 0, 0, 0, 0, 0,
    0, 0, 0, 0, 0, 0, 0, 0, 0, 0] 0 (ar.isub (ar.ints t) 0 (ar.mn (ar.slen t) 16))) 4) → ∀ (z_15 : Int), z_15 = ar.shl IntKind.u64 z 32 → ∀ (z : Int), z = ar.bor IntKind.u64 z_14
    z_15 → ar.le 0 5 ∧ ar.lt 5 (ar.ilen (ar.iover [0, 0, 0, 0, 0, 0, 0, 0, 0, 0, 0, 0, 0, 0, 0, 0] 0 (ar.isub (ar.ints t) 0 (ar.mn (ar.slen t) 16)))) ∧ ∀ (z_16 : Int), z_16 =
    ar.wrap IntKind.u64 (ar.iget (ar.iover [0, 0, 0, 0, 0, 0, 0, 0, 0, 0, 0, 0, 0, 0, 0, 0] 0 (ar.isub (ar.ints t) 0 (ar.mn (ar.slen t) 16))) 5) → ∀ (z_17 : Int), z_17 = ar.shl
    IntKind.u64 z_16 40 → ∀ (z_18 : Int), z_18 = ar.bor IntKind.u64 z z_17 → ar.le 0 6 ∧ ar.lt 6 (ar.ilen (ar.iover [0, 0, 0, 0, 0, 0, 0, 0, 0, 0, 0, 0, 0, 0, 0, 0] 0 (ar.isub
    (ar.ints t) 0 (ar.mn (ar.slen t) 16)))) ∧ ∀ (z : Int), z = ar.wrap IntKind.u64 (ar.iget (ar.iover [0, 0, 0, 0, 0, 0, 0, 0, 0, 0, 0, 0, 0, 0, 0, 0] 0 (ar.isub (ar.ints t) 0
    (ar.mn (ar.slen t) 16))) 6) → ∀ (z_19 : Int), z_19 = ar.shl IntKind.u64 z 48 → ∀ (z : Int), z = ar.bor IntKind.u64 z_18 z_19 → ar.le 0 7 ∧ ar.lt 7 (ar.ilen (ar.iover [0, 0, 0,
    0, 0, 0, 0, 0, 0, 0, 0, 0, 0, 0, 0, 0] 0 (ar.isub (ar.ints t) 0 (ar.mn (ar.slen t) 16)))) ∧ ∀ (z_20 : Int), z_20 = ar.wrap IntKind.u64 (ar.iget (ar.iover [0, 0, 0, 0, 0, 0, 0,
    0, 0, 0, 0, 0, 0, 0, 0, 0] 0 (ar.isub (ar.ints t) 0 (ar.mn (ar.slen t) 16))) 7) → ∀ (z_21 : Int), z_21 = ar.shl IntKind.u64 z_20 56 → ∀ (z_22 : Int), z_22 = ar.bor IntKind.u64
    z z_21 → ar.le 0 8 ∧ ar.lt 8 (ar.ilen (ar.iover [0, 0, 0, 0, 0, 0, 0, 0, 0, 0, 0, 0, 0, 0, 0, 0] 0 (ar.isub (ar.ints t) 0 (ar.mn (ar.slen t) 16)))) ∧ ∀ (z : Int), z = ar.wrap
    IntKind.u64 (ar.iget (ar.iover [0, 0, 0, 0, 0, 0, 0, 0, 0, 0, 0, 0, 0, 0, 0, 0] 0 (ar.isub (ar.ints t) 0 (ar.mn (ar.slen t) 16))) 8) → ∀ (z_23 : Int), z_23 = ar.shl IntKind.u64
    z 0 → ∀ (z : Int), z = ar.bor IntKind.u64 0 z_23 → ar.le 0 9 ∧ ar.lt 9 (ar.ilen (ar.iover [0, 0, 0, 0, 0, 0, 0, 0, 0, 0, 0, 0, 0, 0, 0, 0] 0 (ar.isub (ar.ints t) 0 (ar.mn
    (ar.slen t) 16)))) ∧ ∀ (z_24 : Int), z_24 = ar.wrap IntKind.u64 (ar.iget (ar.iover [0, 0, 0, 0, 0, 0, 0, 0, 0, 0, 0, 0, 0, 0, 0, 0] 0 (ar.isub (ar.ints t) 0 (ar.mn (ar.slen t)
    16))) 9) → ∀ (z_25 : Int), z_25 = ar.shl IntKind.u64 z_24 8 → ∀ (z_26 : Int), z_26 = ar.bor IntKind.u64 z z_25 → ar.le 0 10 ∧ ar.lt 10 (ar.ilen (ar.iover [0, 0, 0, 0, 0, 0, 0,
    0, 0, 0, 0, 0, 0, 0, 0, 0] 0 (ar.isub (ar.ints t) 0 (ar.mn (ar.slen t) 16)))) ∧ ∀ (z : Int), z = ar.wrap IntKind.u64 (ar.iget (ar.iover [0, 0, 0, 0, 0, 0, 0, 0, 0, 0, 0, 0, 0,
    0, 0, 0] 0 (ar.isub (ar.ints t) 0 (ar.mn (ar.slen t) 16))) 10) → ∀ (z_27 : Int), z_27 = ar.shl IntKind.u64 z 16 → ∀ (z : Int), z = ar.bor IntKind.u64 z_26 z_27 → ar.le 0 11 ∧
    ar.lt 11 (ar.ilen (ar.iover [0, 0, 0, 0, 0, 0, 0, 0, 0, 0, 0, 0, 0, 0, 0, 0] 0 (ar.isub (ar.ints t) 0 (ar.mn (ar.slen t) 16)))) ∧ ∀ (z_28 : Int), z_28 = ar.wrap IntKind.u64
    (ar.iget (ar.iover [0, 0, 0, 0, 0, 0, 0, 0, 0, 0, 0, 0, 0, 0, 0, 0] 0 (ar.isub (ar.ints t) 0 (ar.mn (ar.slen t) 16))) 11) → ∀ (z_29 : Int), z_29 = ar.shl IntKind.u64 z_28 24 →
    ∀ (z_30 : Int), z_30 = ar.bor IntKind.u64 z z_29 → ar.le 0 12 ∧ ar.lt 12 (ar.ilen (ar.iover [0, 0, 0, 0, 0, 0, 0, 0, 0, 0, 0, 0, 0, 0, 0, 0] 0 (ar.isub (ar.ints t) 0 (ar.mn
    (ar.slen t) 16)))) ∧ ∀ (z : Int), z = ar.wrap IntKind.u64 (ar.iget (ar.iover [0, 0, 0, 0, 0, 0, 0, 0, 0, 0, 0, 0, 0, 0, 0, 0] 0 (ar.isub (ar.ints t) 0 (ar.mn (ar.slen t) 16)))
    12) → ∀ (z_31 : Int), z_31 = ar.shl IntKind.u64 z 32 → ∀ (z : Int), z = ar.bor IntKind.u64 z_30 z_31 → ar.le 0 13 ∧ ar.lt 13 (ar.ilen (ar.iover [0, 0, 0, 0, 0, 0, 0, 0, 0, 0,
    0, 0, 0, 0, 0, 0] 0 (ar.isub (ar.ints t) 0 (ar.mn (ar.slen t) 16)))) ∧ ∀ (z_32 : Int), z_32 = ar.wrap IntKind.u64 (ar.iget (ar.iover [0, 0, 0, 0, 0, 0, 0, 0, 0, 0, 0, 0, 0, 0,
    0, 0] 0 (ar.isub (ar.ints t) 0 (ar.mn (ar.slen t) 16))) 13) → ∀ (z_33 : Int), z_33 = ar.shl IntKind.u64 z_32 40 → ∀ (z_34 : Int), z_34 = ar.bor IntKind.u64 z z_33 → ar.le 0 14
    ∧ ar.lt 14 (ar.ilen (ar.iover [0, 0, 0, 0, 0, 0, 0, 0, 0, 0, 0, 0, 0, 0, 0, 0] 0 (ar.isub (ar.ints t) 0 (ar.mn (ar.slen t) 16)))) ∧ ∀ (z : Int), z = ar.wrap IntKind.u64
    (ar.iget (ar.iover [0, 0, 0, 0, 0, 0, 0, 0, 0, 0, 0, 0, 0, 0, 0, 0] 0 (ar.isub (ar.ints t) 0 (ar.mn (ar.slen t) 16))) 14) → ∀ (z_35 : Int), z_35 = ar.shl IntKind.u64 z 48 → ∀
    (z : Int), z = ar.bor IntKind.u64 z_34 z_35 → ar.le 0 15 ∧ ar.lt 15 (ar.ilen (ar.iover [0, 0, 0, 0, 0, 0, 0, 0, 0, 0, 0, 0, 0, 0, 0, 0] 0 (ar.isub (ar.ints t) 0 (ar.mn (ar.slen
    t) 16)))) ∧ ∀ (z_36 : Int), z_36 = ar.wrap IntKind.u64 (ar.iget (ar.iover [0, 0, 0, 0, 0, 0, 0, 0, 0, 0, 0, 0, 0, 0, 0, 0] 0 (ar.isub (ar.ints t) 0 (ar.mn (ar.slen t) 16))) 15)
    → ∀ (z_37 : Int), z_37 = ar.shl IntKind.u64 z_36 56 → ∀ (z_38 : Int), z_38 = ar.bor IntKind.u64 z z_37 → (∃ (y : Unit), PL.NotKey x ∧ False) ∨ ∃ (y_1 : MacS), PL.NewOK x y_1 ∧
    0 = y_1.1.a ∧ 0 = y_1.1.b ∧ 0 = y_1.1.c ∧ 0 = y_1.1.d ∧ 0 = y_1.1.e ∧ y.a = y_1.2.a ∧ y.b = y_1.2.b ∧ y.c = y_1.2.c ∧ y.d = y_1.2.d ∧ y.e = y_1.2.e ∧ z_22 = y_1.s0 ∧ z_38 =
    y_1.s1 ∧ [0, 0, 0, 0, 0, 0, 0, 0, 0, 0, 0, 0, 0, 0, 0, 0] = y_1.rest ∧ 0 = y_1.held ∧ True)) := by
  kernel_rfl
end Go.Eng


/- Poly: Sum: the walk. -/
set_option linter.unusedVariables false
set_option linter.unusedSectionVars false
namespace Go.Eng
variable [CW : CWorld]
open Go.Proofs
open Go.PL (L5 MacS)
set_option maxRecDepth 100000
theorem vc16 (ar : AR) (x : MacS × Int × List UInt8) : (run ar PP wSpecs noInv 1000 16 1 (Try.f16.body.getD .skip) ([.ptr 0 (.l 0)] ++ List.replicate (Try.f16.ntmps - 1) .any) [.mk 62 (macSegs x.1)] (endCall ar PP Try.f16.results.toList (sumSpec.fin x))) = (
    ar.le 0 0 ∧ ar.lt 0 (ar.ilen x.fst.rest) ∧ ar.le 0 1 ∧ ar.lt 1 (ar.ilen x.fst.rest) ∧ ar.le 0 2 ∧ ar.lt 2 (ar.ilen x.fst.rest) ∧ ar.le 0 3 ∧ ar.lt 3 (ar.ilen x.fst.rest) ∧
    ar.le 0 4 ∧ ar.lt 4 (ar.ilen x.fst.rest) ∧ ar.le 0 5 ∧ ar.lt 5 (ar.ilen x.fst.rest) ∧ ar.le 0 6 ∧ ar.lt 6 (ar.ilen x.fst.rest) ∧ ar.le 0 7 ∧ ar.lt 7 (ar.ilen x.fst.rest) ∧
    ar.le 0 8 ∧ ar.lt 8 (ar.ilen x.fst.rest) ∧ ar.le 0 9 ∧ ar.lt 9 (ar.ilen x.fst.rest) ∧ ar.le 0 10 ∧ ar.lt 10 (ar.ilen x.fst.rest) ∧ ar.le 0 11 ∧ ar.lt 11 (ar.ilen x.fst.rest) ∧
    ar.le 0 12 ∧ ar.lt 12 (ar.ilen x.fst.rest) ∧ ar.le 0 13 ∧ ar.lt 13 (ar.ilen x.fst.rest) ∧ ar.le 0 14 ∧ ar.lt 14 (ar.ilen x.fst.rest) ∧ ar.le 0 15 ∧ ar.lt 15 (ar.ilen
    x.fst.rest) ∧ (ar.lt 0 x.fst.held → ar.le 0 x.fst.held ∧ ar.le x.fst.held 16 ∧ ar.le 0 x.fst.held ∧ ar.le x.fst.held (ar.ilen [ar.iget x.fst.rest 0, ar.iget x.fst.rest 1,
    ar.iget x.fst.rest 2, ar.iget x.fst.rest 3, ar.iget x.fst.rest 4, ar.iget x.fst.rest 5, ar.iget x.fst.rest 6, ar.iget x.fst.rest 7, ar.iget x.fst.rest 8, ar.iget x.fst.rest 9,
    ar.iget x.fst.rest 10, ar.iget x.fst.rest 11, ar.iget x.fst.rest 12, ar.iget x.fst.rest 13, ar.iget x.fst.rest 14, ar.iget x.fst.rest 15]) ∧ ar.le (ar.add x.fst.held (ar.ilen
    (ar.irep 0 (ar.sub 16 x.fst.held)))) (↑(if IntKind.u8 = IntKind.u8 then (if IntKind.u8 = IntKind.u8 then (if IntKind.u8 = IntKind.u8 then (if IntKind.u8 = IntKind.u8 then (if
    IntKind.u8 = IntKind.u8 then (if IntKind.u8 = IntKind.u8 then (if IntKind.u8 = IntKind.u8 then (if IntKind.u8 = IntKind.u8 then (if IntKind.u8 = IntKind.u8 then (if IntKind.u8
    = IntKind.u8 then (if IntKind.u8 = IntKind.u8 then (if IntKind.u8 = IntKind.u8 then (if IntKind.u8 = IntKind.u8 then (if IntKind.u8 = IntKind.u8 then (if IntKind.u8 =
    IntKind.u8 then (if IntKind.u8 = IntKind.u8 then Nat.add 0 1 else 0).add 1 else 0).add 1 else 0).add 1 else 0).add 1 else 0).add 1 else 0).add 1 else 0).add 1 else 0).add 1
    else 0).add 1 else 0).add 1 else 0).add 1 else 0).add 1 else 0).add 1 else 0).add 1 else 0).add 1 else 0) : Int) ∧ ar.le 0 x.fst.held ∧ ar.lt x.fst.held 16 ∧ ar.le 0 x.fst.held
    ∧ ar.lt x.fst.held (ar.ilen (ar.iover [ar.iget x.fst.rest 0, ar.iget x.fst.rest 1, ar.iget x.fst.rest 2, ar.iget x.fst.rest 3, ar.iget x.fst.rest 4, ar.iget x.fst.rest 5,
    ar.iget x.fst.rest 6, ar.iget x.fst.rest 7, ar.iget x.fst.rest 8, ar.iget x.fst.rest 9, ar.iget x.fst.rest 10, ar.iget x.fst.rest 11, ar.iget x.fst.rest 12, ar.iget x.fst.rest
    13, ar.iget x.fst.rest 14, ar.iget x.fst.rest 15] x.fst.held (ar.irep 0 (ar.sub 16 x.fst.held)))) ∧ ∃ (x_1 : MacS × Int), 0 = x_1.snd ∧ x.fst.acc.a = x_1.fst.acc.a ∧
    x.fst.acc.b = x_1.fst.acc.b ∧ x.fst.acc.c = x_1.fst.acc.c ∧ x.fst.acc.d = x_1.fst.acc.d ∧ x.fst.acc.e = x_1.fst.acc.e ∧ x.fst.r.a = x_1.fst.r.a ∧ x.fst.r.b = x_1.fst.r.b ∧
    x.fst.r.c = x_1.fst.r.c ∧ x.fst.r.d = x_1.fst.r.d ∧ x.fst.r.e = x_1.fst.r.e ∧ x.fst.s0 = x_1.1.s0 ∧ x.fst.s1 = x_1.1.s1 ∧ ar.iset (ar.iover [ar.iget x.fst.rest 0, ar.iget
    x.fst.rest 1, ar.iget x.fst.rest 2, ar.iget x.fst.rest 3, ar.iget x.fst.rest 4, ar.iget x.fst.rest 5, ar.iget x.fst.rest 6, ar.iget x.fst.rest 7, ar.iget x.fst.rest 8, ar.iget
    x.fst.rest 9, ar.iget x.fst.rest 10, ar.iget x.fst.rest 11, ar.iget x.fst.rest 12, ar.iget x.fst.rest 13, ar.iget x.fst.rest 14, ar.iget x.fst.rest 15] x.fst.held (ar.irep 0
    (ar.sub 16 x.fst.held))) x.fst.held 1 = x_1.1.rest ∧ x.fst.held = x_1.1.held ∧ PL.loadPre x_1.1.rest x_1.snd ∧ ∀ (y : L5), PL.loaded x_1.1.rest x_1.snd y → ∃ (x_2 : MacS × L5),
    y.a = x_2.2.a ∧ y.b = x_2.2.b ∧ y.c = x_2.2.c ∧ y.d = x_2.2.d ∧ y.e = x_2.2.e ∧ x_1.fst.acc.a = x_2.fst.acc.a ∧ x_1.fst.acc.b = x_2.fst.acc.b ∧ x_1.fst.acc.c = x_2.fst.acc.c ∧
    x_1.fst.acc.d = x_2.fst.acc.d ∧ x_1.fst.acc.e = x_2.fst.acc.e ∧ x_1.fst.r.a = x_2.fst.r.a ∧ x_1.fst.r.b = x_2.fst.r.b ∧ x_1.fst.r.c = x_2.fst.r.c ∧ x_1.fst.r.d = x_2.fst.r.d ∧
    x_1.fst.r.e = x_2.fst.r.e ∧ x_1.1.s0 = x_2.1.s0 ∧ x_1.1.s1 = x_2.1.s1 ∧ x_1.1.rest = x_2.1.rest ∧ x_1.1.held = x_2.1.held ∧ PL.blockPre x_2.fst x_2.snd ∧ ∀ (y : L5), PL.blocked
    x_2.fst x_2.snd y → ∃ (x_3 : L5), y.a = x_3.a ∧ y.b = x_3.b ∧ y.c = x_3.c ∧ y.d = x_3.d ∧ y.e = x_3.e ∧ x_3.Lt 134217728 ∧ ∀ (y : L5), PL.isReduced x_3 y → ∀ (z : Int), z =
    ar.shl IntKind.u64 y.b 26 → ∀ (z_1 : Int), z_1 = ar.bor IntKind.u64 y.a z → ∀ (z : Int), z = ar.shl IntKind.u64 y.c 52 → ∀ (z_2 : Int), z_2 = ar.bor IntKind.u64 z_1 z → ∀ (z :
    Int), z = ar.shr IntKind.u64 y.c 12 → ∀ (z_3 : Int), z_3 = ar.shl IntKind.u64 y.d 14 → ∀ (z_4 : Int), z_4 = ar.bor IntKind.u64 z z_3 → ∀ (z : Int), z = ar.shl IntKind.u64 y.e
    40 → ∀ (z_5 : Int), z_5 = ar.bor IntKind.u64 z_4 z → ∀ (z : Int), z = ar.wrap IntKind.u64 (ar.add z_2 x.fst.s0) → (ar.lt z z_2 → ∀ (z_6 : Int), z_6 = ar.wrap IntKind.u64
    (ar.add x.fst.s1 1) → ∀ (z_7 : Int), z_7 = ar.wrap IntKind.u64 (ar.add z_5 z_6) → ∀ (z_8 : Int), z_8 = ar.shr IntKind.u64 z 0 → ∀ (z_9 : Int), z_9 = ar.wrap IntKind.u8 z_8 → ∀
    (z_10 : Int), z_10 = ar.shr IntKind.u64 z_7 0 → ∀ (z_11 : Int), z_11 = ar.wrap IntKind.u8 z_10 → ∀ (z_12 : Int), z_12 = ar.shr IntKind.u64 z 8 → ∀ (z_13 : Int), z_13 = ar.wrap
    IntKind.u8 z_12 → ∀ (z_14 : Int), z_14 = ar.shr IntKind.u64 z_7 8 → ∀ (z_15 : Int), z_15 = ar.wrap IntKind.u8 z_14 → ∀ (z_16 : Int), z_16 = ar.shr IntKind.u64 z 16 → ∀ (z_17 :
    Int), z_17 = ar.wrap IntKind.u8 z_16 → ∀ (z_18 : Int), z_18 = ar.shr IntKind.u64 z_7 16 → ∀ (z_19 : Int), z_19 = ar.wrap IntKind.u8 z_18 → ∀ (z_20 : Int), z_20 = ar.shr
    IntKind.u64 z 24 → ∀ (z_21 : Int), z_21 = ar.wrap IntKind.u8 z_20 → ∀ (z_22 : Int), z_22 = ar.shr IntKind.u64 z_7 24 → ∀ (z_23 : Int), z_23 = ar.wrap IntKind.u8 z_22 → ∀ (z_24
    : Int), z_24 = ar.shr IntKind.u64 z 32 → ∀ (z_25 : Int), z_25 = ar.wrap IntKind.u8 z_24 → ∀ (z_26 : Int), z_26 = ar.shr IntKind.u64 z_7 32 → ∀ (z_27 : Int), z_27 = ar.wrap
    IntKind.u8 z_26 → ∀ (z_28 : Int), z_28 = ar.shr IntKind.u64 z 40 → ∀ (z_29 : Int), z_29 = ar.wrap IntKind.u8 z_28 → ∀ (z_30 : Int), z_30 = ar.shr IntKind.u64 z_7 40 → ∀ (z_31 :
    Int), z_31 = ar.wrap IntKind.u8 z_30 → ∀ (z_32 : Int), z_32 = ar.shr IntKind.u64 z 48 → ∀ (z_33 : Int), z_33 = ar.wrap IntKind.u8 z_32 → ∀ (z_34 : Int), z_34 = ar.shr
    IntKind.u64 z_7 48 → ∀ (z_35 : Int), z_35 = ar.wrap IntKind.u8 z_34 → ∀ (z_36 : Int), z_36 = ar.shr IntKind.u64 z 56 → ∀ (z : Int), z = ar.wrap IntKind.u8 z_36 → ∀ (z_37 :
    Int), z_37 = ar.shr IntKind.u64 z_7 56 → ∀ (z_38 : Int), z_38 = ar.wrap IntKind.u8 z_37 → ∀ (t : List UInt8), t = ar.bytes [z_9, z_13, z_17, z_21, z_25, z_29, z_33, z, z_11,
    z_15, z_19, z_23, z_27, z_31, z_35, z_38] → ∃ (y : Unit), True ∧ t = PL.leBytes (((PL.lastN x.snd.fst x.snd.snd).add x.fst.s0).add (x.fst.s1.mul 18446744073709551616)) ∧
    x.fst.acc.a = x.fst.acc.a ∧ x.fst.acc.b = x.fst.acc.b ∧ x.fst.acc.c = x.fst.acc.c ∧ x.fst.acc.d = x.fst.acc.d ∧ x.fst.acc.e = x.fst.acc.e ∧ x.fst.r.a = x.fst.r.a ∧ x.fst.r.b =
    x.fst.r.b ∧ x.fst.r.c = x.fst.r.c ∧ x.fst.r.d = x.fst.r.d ∧ x.fst.r.e = x.fst.r.e ∧ x.fst.s0 = x.fst.s0 ∧ x.fst.s1 = x.fst.s1 ∧ x.fst.rest = x.fst.rest ∧ x.fst.held =
    x.fst.held ∧ True) ∧ (¬ar.lt z z_2 → ∀ (z_6 : Int), z_6 = ar.wrap IntKind.u64 (ar.add x.fst.s1 0) → ∀ (z_7 : Int), z_7 = ar.wrap IntKind.u64 (ar.add z_5 z_6) → ∀ (z_8 : Int),
    z_8 = ar.shr IntKind.u64 z 0 → ∀ (z_9 : Int), z_9 = ar.wrap IntKind.u8 z_8 → ∀ (z_10 : Int), z_10 = ar.shr IntKind.u64 z_7 0 → ∀ (z_11 : Int), z_11 = ar.wrap IntKind.u8 z_10 →
    ∀ (z_12 : Int), z_12 = ar.shr IntKind.u64 z 8 → ∀ (z_13 : Int), z_13 = ar.wrap IntKind.u8 z_12 → ∀ (z_14 : Int), z_14 = ar.shr IntKind.u64 z_7 8 → ∀ (z_15 : Int), z_15 =
    ar.wrap IntKind.u8 z_14 → ∀ (z_16 : Int), z_16 = ar.shr IntKind.u64 z 16 → ∀ (z_17 : Int), z_17 = ar.wrap IntKind.u8 z_16 → ∀ (z_18 : Int), z_18 = ar.shr IntKind.u64 z_7 16 → ∀
    (z_19 : Int), z_19 = ar.wrap IntKind.u8 z_18 → ∀ (z_20 : Int), z_20 = ar.shr IntKind.u64 z 24 → ∀ (z_21 : Int), z_21 = ar.wrap IntKind.u8 z_20 → ∀ (z_22 : Int), z_22 = ar.shr
    IntKind.u64 z_7 24 → ∀ (z_23 : Int), z_23 = ar.wrap IntKind.u8 z_22 → ∀ (z_24 : Int), z_24 = ar.shr IntKind.u64 z 32 → ∀ (z_25 : Int), z_25 = ar.wrap IntKind.u8 z_24 → ∀ (z_26
    : Int), z_26 = ar.shr IntKind.u64 z_7 32 → ∀ (z_27 : Int), z_27 = ar.wrap IntKind.u8 z_26 → ∀ (z_28 : Int), z_28 = ar.shr IntKind.u64 z 40 → ∀ (z_29 : Int), z_29 = ar.wrap
    IntKind.u8 z_28 → ∀ (z_30 : Int), z_30 = ar.shr IntKind.u64 z_7 40 → ∀ (z_31 : Int), z_31 = ar.wrap IntKind.u8 z_30 → ∀ (z_32 : Int), z_32 = ar.shr IntKind.u64 z 48 → ∀ (z_33 :
    Int), z_33 = ar.wrap IntKind.u8 z_32 → ∀ (z_34 : Int), z_34 = ar.shr IntKind.u64 z_7 48 → ∀ (z_35 : Int), z_35 = ar.wrap IntKind.u8 z_34 → ∀ (z_36 : Int), z_36 = ar.shr
    IntKind.u64 z 56 → ∀ (z : Int), z = ar.wrap IntKind.u8 z_36 → ∀ (z_37 : Int), z_37 = ar.shr IntKind.u64 z_7 56 → ∀ (z_38 : Int), z_38 = ar.wrap IntKind.u8 z_37 → ∀ (t : List
    UInt8), t = ar.bytes [z_9, z_13, z_17, z_21, z_25, z_29, z_33, z, z_11, z_15, z_19, z_23, z_27, z_31, z_35, z_38] → ∃ (y : Unit), True ∧ t = PL.leBytes (((PL.lastN x.snd.fst
    x.snd.snd).add x.fst.s0).add (x.fst.s1.mul 18446744073709551616)) ∧ x.fst.acc.a = x.fst.acc.a ∧ x.fst.acc.b = x.fst.acc.b ∧ x.fst.acc.c = x.fst.acc.c ∧ x.fst.acc.d =
    x.fst.acc.d ∧ x.fst.acc.e = x.fst.acc.e ∧ x.fst.r.a = x.fst.r.a ∧ x.fst.r.b = x.fst.r.b ∧ x.fst.r.c = x.fst.r.c ∧ x.fst.r.d = x.fst.r.d ∧ x.fst.r.e = x.fst.r.e ∧ x.fst.s0 =
    x.fst.s0 ∧ x.fst.s1 = x.fst.s1 ∧ x.fst.rest = x.fst.rest ∧ x.fst.held = x.fst.held ∧ True)) ∧ (¬ar.lt 0 x.fst.held → ∃ (x_1 : L5), x.fst.acc.a = x_1.a ∧ x.fst.acc.b = x_1.b ∧
    x.fst.acc.c = x_1.c ∧ x.fst.acc.d = x_1.d ∧ x.fst.acc.e = x_1.e ∧ x_1.Lt 134217728 ∧ ∀ (y : L5), PL.isReduced x_1 y → ∀ (z : Int), z = ar.shl IntKind.u64 y.b 26 → ∀ (z_1 :
    Int), z_1 = ar.bor IntKind.u64 y.a z → ∀ (z : Int), z = ar.shl IntKind.u64 y.c 52 → ∀ (z_2 : Int), z_2 = ar.bor IntKind.u64 z_1 z → ∀ (z : Int), z = ar.shr IntKind.u64 y.c 12 →
    ∀ (z_3 : Int), z_3 = ar.shl IntKind.u64 y.d 14 → ∀ (z_4 : Int), z_4 = ar.bor IntKind.u64 z z_3 → ∀ (z : Int), z = ar.shl IntKind.u64 y.e 40 → ∀ (z_5 : Int), z_5 = ar.bor
    IntKind.u64 z_4 z → ∀ (z : Int), z = ar.wrap IntKind.u64 (ar.add z_2 x.fst.s0) → (ar.lt z z_2 → ∀ (z_6 : Int), z_6 = ar.wrap IntKind.u64 (ar.add x.fst.s1 1) → ∀ (z_7 : Int),
    z_7 = ar.wrap IntKind.u64 (ar.add z_5 z_6) → ∀ (z_8 : Int), z_8 = ar.shr IntKind.u64 z 0 → ∀ (z_9 : Int), z_9 = ar.wrap IntKind.u8 z_8 → ∀ (z_10 : Int), z_10 = ar.shr
    IntKind.u64 z_7 0 → ∀ (z_11 : Int), z_11 = ar.wrap IntKind.u8 z_10 → ∀ (z_12 : Int), z_12 = ar.shr IntKind.u64 z 8 → ∀ (z_13 : Int), z_13 = ar.wrap IntKind.u8 z_12 → ∀ (z_14 :
    Int), z_14 = ar.shr IntKind.u64 z_7 8 → ∀ (z_15 : Int), z_15 = ar.wrap IntKind.u8 z_14 → ∀ (z_16 : Int), z_16 = ar.shr IntKind.u64 z 16 → ∀ (z_17 : Int), z_17 = ar.wrap
    IntKind.u8 z_16 → ∀ (z_18 : Int), z_18 = ar.shr IntKind.u64 z_7 16 → ∀ (z_19 : Int), z_19 = ar.wrap IntKind.u8 z_18 → ∀ (z_20 : Int), z_20 = ar.shr IntKind.u64 z 24 → ∀ (z_21 :
    Int), z_21 = ar.wrap IntKind.u8 z_20 → ∀ (z_22 : Int), z_22 = ar.shr IntKind.u64 z_7 24 → ∀ (z_23 : Int), z_23 = ar.wrap IntKind.u8 z_22 → ∀ (z_24 : Int), z_24 = ar.shr
    IntKind.u64 z 32 → ∀ (z_25 : Int), z_25 = ar.wrap IntKind.u8 z_24 → ∀ (z_26 : Int), z_26 = ar.shr IntKind.u64 z_7 32 → ∀ (z_27 : Int), z_27 = ar.wrap IntKind.u8 z_26 → ∀ (z_28
    : Int), z_28 = ar.shr IntKind.u64 z 40 → ∀ (z_29 : Int), z_29 = ar.wrap IntKind.u8 z_28 → ∀ (z_30 : Int), z_30 = ar.shr IntKind.u64 z_7 40 → ∀ (z_31 : Int), z_31 = ar.wrap
    IntKind.u8 z_30 → ∀ (z_32 : Int), z_32 = ar.shr IntKind.u64 z 48 → ∀ (z_33 : Int), z_33 = ar.wrap IntKind.u8 z_32 → ∀ (z_34 : Int), z_34 = ar.shr IntKind.u64 z_7 48 → ∀ (z_35 :
    Int), z_35 = ar.wrap IntKind.u8 z_34 → ∀ (z_36 : Int), z_36 = ar.shr IntKind.u64 z 56 → ∀ (z : Int), z = ar.wrap IntKind.u8 z_36 → ∀ (z_37 : Int), z_37 = ar.shr IntKind.u64 z_7
    56 → ∀ (z_38 : Int), z_38 = ar.wrap IntKind.u8 z_37 → ∀ (t : List UInt8), t = ar.bytes [z_9, z_13, z_17, z_21, z_25, z_29, z_33, z, z_11, z_15, z_19, z_23, z_27, z_31, z_35,
    z_38] → ∃ (y : Unit), True ∧ t = PL.leBytes (((PL.lastN x.snd.fst x.snd.snd).add x.fst.s0).add (x.fst.s1.mul 18446744073709551616)) ∧ x.fst.acc.a = x.fst.acc.a ∧ x.fst.acc.b =
    x.fst.acc.b ∧ x.fst.acc.c = x.fst.acc.c ∧ x.fst.acc.d = x.fst.acc.d ∧ x.fst.acc.e = x.fst.acc.e ∧ x.fst.r.a = x.fst.r.a ∧ x.fst.r.b = x.fst.r.b ∧ x.fst.r.c = x.fst.r.c ∧
    x.fst.r.d = x.fst.r.d ∧ x.fst.r.e = x.fst.r.e ∧ x.fst.s0 = x.fst.s0 ∧ x.fst.s1 = x.fst.s1 ∧ x.fst.rest = x.fst.rest ∧ x.fst.held = x.fst.held ∧ True) ∧ (¬ar.lt z z_2 → ∀ (z_6 :
    Int), z_6 = ar.wrap IntKind.u64 (ar.add x.fst.s1 0) → ∀ (z_7 : Int), z_7 = ar.wrap IntKind.u64 (ar.add z_5 z_6) → ∀ (z_8 : Int), z_8 = ar.shr IntKind.u64 z 0 → ∀ (z_9 : Int),
    z_9 = ar.wrap IntKind.u8 z_8 → ∀ (z_10 : Int), z_10 = ar.shr IntKind.u64 z_7 0 → ∀ (z_11 : Int), z_11 = ar.wrap IntKind.u8 z_10 → ∀ (z_12 : Int), z_12 = ar.shr IntKind.u64 z 8
    → ∀ (z_13 : Int), z_13 = ar.wrap IntKind.u8 z_12 → ∀ (z_14 : Int), z_14 = ar.shr IntKind.u64 z_7 8 → ∀ (z_15 : Int), z_15 = ar.wrap IntKind.u8 z_14 → ∀ (z_16 : Int), z_16 =
    ar.shr IntKind.u64 z 16 → ∀ (z_17 : Int), z_17 = ar.wrap IntKind.u8 z_16 → ∀ (z_18 : Int), z_18 = ar.shr IntKind.u64 z_7 16 → ∀ (z_19 : Int), z_19 = ar.wrap IntKind.u8 z_18 → ∀
    (z_20 : Int), z_20 = ar.shr IntKind.u64 z 24 → ∀ (z_21 : Int), z_21 = ar.wrap IntKind.u8 z_20 → ∀ (z_22 : Int), z_22 = ar.shr IntKind.u64 z_7 24 → ∀ (z_23 : Int), z_23 =
    ar.wrap IntKind.u8 z_22 → ∀ (z_24 : Int), z_24 = ar.shr IntKind.u64 z 32 → ∀ (z_25 : Int), z_25 = ar.wrap IntKind.u8 z_24 → ∀ (z_26 : Int), z_26 = ar.shr IntKind.u64 z_7 32 → ∀
    (z_27 : Int), z_27 = ar.wrap IntKind.u8 z_26 → ∀ (z_28 : Int), z_28 = ar.shr IntKind.u64 z 40 → ∀ (z_29 : Int), z_29 = ar.wrap IntKind.u8 z_28 → ∀ (z_30 : Int), z_30 = ar.shr
    IntKind.u64 z_7 40 → ∀ (z_31 : Int), z_31 = ar.wrap IntKind.u8 z_30 → ∀ (z_32 : Int), z_32 = ar.shr IntKind.u64 z 48 → ∀ (z_33 : Int), z_33 = ar.wrap IntKind.u8 z_32 → ∀ (z_34
    : Int), z_34 = ar.shr IntKind.u64 z_7 48 → ∀ (z_35 : Int), z_35 = ar.wrap IntKind.u8 z_34 → ∀ (z_36 : Int), z_36 = ar.shr IntKind.u64 z 56 → ∀ (z : Int), z = ar.wrap IntKind.u8
    z_36 → ∀ (z_37 : Int), z_37 = ar.shr IntKind.u64 z_7 56 → ∀ (z_38 : Int), z_38 = ar.wrap IntKind.u8 z_37 → ∀ (t : List UInt8), t = ar.bytes [z_9, z_13, z_17, z_21, z_25, z_29,
    z_33, z, z_11, z_15, z_19, z_23, z_27, z_31, z_35, z_38] → ∃ (y : Unit), True ∧ t = PL.leBytes (((PL.lastN x.snd.fst x.snd.snd).add x.fst.s0).add (x.fst.s1.mul
    18446744073709551616)) ∧ x.fst.acc.a = x.fst.acc.a ∧ x.fst.acc.b = x.fst.acc.b ∧ x.fst.acc.c = x.fst.acc.c ∧ x.fst.acc.d = x.fst.acc.d ∧ x.fst.acc.e = x.fst.acc.e ∧ x.fst.r.a =
    x.fst.r.a ∧ x.fst.r.b = x.fst.r.b ∧ x.fst.r.c = x.fst.r.c ∧ x.fst.r.d = x.fst.r.d ∧ x.fst.r.e = x.fst.r.e ∧ x.fst.s0 = x.fst.s0 ∧ x.fst.s1 = x.fst.s1 ∧ x.fst.rest = x.fst.rest
    ∧ x.fst.held = x.fst.held ∧ True))) := by
  kernel_rfl
end Go.Eng


/- Poly: New: the contract holds. -/
set_option linter.unusedSimpArgs false
set_option linter.unusedVariables false
set_option maxRecDepth 100000
set_option linter.unusedSectionVars false
namespace Go.Eng
variable [CW : CWorld]
open Go.Proofs
open Go.PL (L5 MacS)

theorem le_ar {a b : Int} (h : decide (a ≤ b) = true) : ar0.le a b := show a ≤ b from of_decide_eq_true h
theorem lt_ar {a b : Int} (h : decide (a < b) = true) : ar0.lt a b := show a < b from of_decide_eq_true h

theorem iover16 (l m : List Int) (hl : l.length = 16) (hm : m.length = 16) : ar0.iover l 0 m = m := by
  show l.take 0 ++ m ++ l.drop (0 + m.length) = m
  simp [hm, hl]

theorem list16 {l : List Int} (h : l.length = 16) : ∃ a0 a1 a2 a3 a4 a5 a6 a7 a8 a9 a10 a11 a12 a13 a14 a15 : Int, l = [a0, a1, a2, a3, a4, a5, a6, a7, a8, a9, a10, a11, a12, a13, a14, a15] := by
  match l, h with
  | [a0, a1, a2, a3, a4, a5, a6, a7, a8, a9, a10, a11, a12, a13, a14, a15], _ => exact ⟨a0, a1, a2, a3, a4, a5, a6, a7, a8, a9, a10, a11, a12, a13, a14, a15, rfl⟩

theorem and252 : ∀ b : Nat, b < 256 → b &&& 252 = b / 4 * 4 := by decide +kernel
theorem band15 {b : Int} (h : 0 ≤ b ∧ b < 256) : ar0.band .u8 b 15 = b % 16 := by
  obtain ⟨n, rfl⟩ := Int.eq_ofNat_of_zero_le h.1
  have hn : n < 256 := by omega
  have := band_u8 (UInt8.ofNat n) 15
  rw [show ((15 : UInt8).toNat : Int) = 15 from rfl, UInt8.toNat_ofNat_of_lt' hn] at this
  rw [this]
  rw [UInt8.toNat_and, UInt8.toNat_ofNat_of_lt' hn, show (15 : UInt8).toNat = 2 ^ 4 - 1 from rfl, Nat.and_two_pow_sub_one_eq_mod]
  rfl
theorem band252 {b : Int} (h : 0 ≤ b ∧ b < 256) : ar0.band .u8 b 252 = b / 4 * 4 := by
  obtain ⟨n, rfl⟩ := Int.eq_ofNat_of_zero_le h.1
  have hn : n < 256 := by omega
  have := band_u8 (UInt8.ofNat n) 252
  rw [show ((252 : UInt8).toNat : Int) = 252 from rfl, UInt8.toNat_ofNat_of_lt' hn] at this
  rw [this]
  rw [UInt8.toNat_and, UInt8.toNat_ofNat_of_lt' hn, show (252 : UInt8).toNat = 252 from rfl, and252 n hn]
  rfl

theorem newSpec_ok : newSpec.OK PP 12 := by
  refine Spec.ok_of_run (fn := Try.f12) (c := Try.f12.body.getD .skip) (by kernel_rfl) (by kernel_rfl) (by kernel_rfl) wSpecs_ok (fun _ => noInv) 1000 ?_
  intro (x : List UInt8) ⟨hx⟩
  refine (vc12 ar0 x).mpr ?_
  refine ⟨fun h => .inl ⟨(), ⟨fun e => h (show (x.length : Int) = 32 by omega)⟩, trivial⟩, fun h => ?_⟩
  have h32 : x.length = 32 := by
    have : ar0.eq (ar0.slen x) 32 := Classical.byContradiction h
    have : (x.length : Int) = 32 := this
    omega
  have hf : ar0.isub (ar0.ints x) 0 (ar0.mn (ar0.slen x) 16) = PL.ints (x.take 16) := by
    show ((PL.ints x).drop 0).take (if (16 : Int) < (x.length : Int) then (16 : Int) else (x.length : Int)).toNat = _
    rw [if_pos (by omega), PL.ints_take, List.drop_zero]; rfl
  have hi16 : ∀ l : List Int, l.length = 16 → ar0.iover [0, 0, 0, 0, 0, 0, 0, 0, 0, 0, 0, 0, 0, 0, 0, 0] 0 l = l := fun l hl => iover16 _ _ rfl hl
  have hl16 : (PL.ints (x.take 16)).length = 16 := by rw [PL.ints_length, List.length_take]; omega
  simp only [hf, hi16 _ hl16]
  have hbF := (PL.ints_bytes (x.take 16)).b
  generalize hF : PL.ints (x.take 16) = F at hl16 hbF
  refine ⟨by show (F.length : Int) ≤ 16; omega, by show (16 : Int) ≤ x.length; omega, ?_⟩
  rintro t ht
  have ht : t = x.drop 16 := by
    rw [ht]
    show (x.take (x.length : Int).toNat).drop 16 = _
    rw [Int.toNat_natCast, List.take_length]
  have htl : t.length = 16 := by rw [ht, List.length_drop]; omega
  have hg : ar0.isub (ar0.ints t) 0 (ar0.mn (ar0.slen t) 16) = PL.ints t := by
    show ((PL.ints t).drop 0).take (if (16 : Int) < (t.length : Int) then (16 : Int) else (t.length : Int)).toNat = _
    rw [if_neg (by omega), Int.toNat_natCast, List.drop_zero, List.take_of_length_le (by rw [PL.ints_length]; omega)]
  have hl : (PL.ints t).length = 16 := by rw [PL.ints_length]; omega
  simp only [hg, hi16 _ hl]
  have hbG := (PL.ints_bytes t).b
  generalize hG : PL.ints t = G at hl hbG
  refine ⟨by show (G.length : Int) ≤ 16; omega, ?_⟩
  obtain ⟨a0, a1, a2, a3, a4, a5, a6, a7, a8, a9, a10, a11, a12, a13, a14, a15, rfl⟩ := list16 hl16

  refine ⟨le_ar rfl, lt_ar rfl, ?_⟩
  intro c3 hc3
  replace hc3 : c3 = a3 % 16 := hc3.trans (band15 (hbF a3 (by simp)))
  refine ⟨le_ar rfl, lt_ar rfl, ?_⟩
  refine ⟨le_ar rfl, lt_ar rfl, ?_⟩
  intro c7 hc7
  replace hc7 : c7 = a7 % 16 := hc7.trans (band15 (hbF a7 (by simp)))
  refine ⟨le_ar rfl, lt_ar rfl, ?_⟩
  refine ⟨le_ar rfl, lt_ar rfl, ?_⟩
  intro c11 hc11
  replace hc11 : c11 = a11 % 16 := hc11.trans (band15 (hbF a11 (by simp)))
  refine ⟨le_ar rfl, lt_ar rfl, ?_⟩
  refine ⟨le_ar rfl, lt_ar rfl, ?_⟩
  intro c15 hc15
  replace hc15 : c15 = a15 % 16 := hc15.trans (band15 (hbF a15 (by simp)))
  refine ⟨le_ar rfl, lt_ar rfl, ?_⟩
  refine ⟨le_ar rfl, lt_ar rfl, ?_⟩
  intro c4 hc4
  replace hc4 : c4 = a4 / 4 * 4 := hc4.trans (band252 (hbF a4 (by simp)))
  refine ⟨le_ar rfl, lt_ar rfl, ?_⟩
  refine ⟨le_ar rfl, lt_ar rfl, ?_⟩
  intro c8 hc8
  replace hc8 : c8 = a8 / 4 * 4 := hc8.trans (band252 (hbF a8 (by simp)))
  refine ⟨le_ar rfl, lt_ar rfl, ?_⟩
  refine ⟨le_ar rfl, lt_ar rfl, ?_⟩
  intro c12 hc12
  replace hc12 : c12 = a12 / 4 * 4 := hc12.trans (band252 (hbF a12 (by simp)))
  refine ⟨le_ar rfl, lt_ar rfl, ?_⟩
  have hcl : PL.clampI [a0, a1, a2, a3, a4, a5, a6, a7, a8, a9, a10, a11, a12, a13, a14, a15] = [a0, a1, a2, c3, c4, a5, a6, c7, c8, a9, a10, c11, c12, a13, a14, c15] := by
    rw [hc3, hc7, hc11, hc15, hc4, hc8, hc12]
    rfl
  have hcb : PL.Bytes (PL.clampI [a0, a1, a2, a3, a4, a5, a6, a7, a8, a9, a10, a11, a12, a13, a14, a15]) := ⟨fun y hy => by
    rw [hcl] at hy
    simp only [List.mem_cons, List.not_mem_nil, or_false] at hy
    have h0 := hbF a0 (by simp)
    have h1 := hbF a1 (by simp)
    have h2 := hbF a2 (by simp)
    have h3 := hbF a3 (by simp)
    have h4 := hbF a4 (by simp)
    have h5 := hbF a5 (by simp)
    have h6 := hbF a6 (by simp)
    have h7 := hbF a7 (by simp)
    have h8 := hbF a8 (by simp)
    have h9 := hbF a9 (by simp)
    have h10 := hbF a10 (by simp)
    have h11 := hbF a11 (by simp)
    have h12 := hbF a12 (by simp)
    have h13 := hbF a13 (by simp)
    have h14 := hbF a14 (by simp)
    have h15 := hbF a15 (by simp)
    omega⟩
  refine ⟨(PL.clampI [a0, a1, a2, a3, a4, a5, a6, a7, a8, a9, a10, a11, a12, a13, a14, a15], 0), rfl, hcl.symm, ⟨rfl, hcb, .inl rfl⟩, fun y hy => ?_⟩
  have hgt : ∀ i : Nat, i < 16 → 0 ≤ G.getD i 0 ∧ G.getD i 0 < 256 := fun i hi => bytes_get hbG (by rw [hl]; exact hi)
  have hle : ∀ i : Nat, ar0.le 0 (i : Int) := fun i => Int.natCast_nonneg i
  have hlt : ∀ i : Nat, i < 16 → ar0.lt (i : Int) (ar0.ilen G) := fun i hi => by show (i : Int) < (G.length : Int); omega
  refine ⟨hle 0, hlt 0 (by decide), ?_⟩
  intro xa0 hxa0 ya0 hya0 az0 ha0
  have sa0 := word_step (n := 0) 0 1 (by decide) (by decide) (by decide) (Int.le_refl 0) (by decide) (hgt 0 (by decide)) hxa0 hya0 ha0
  refine ⟨hle 1, hlt 1 (by decide), ?_⟩
  intro xa1 hxa1 ya1 hya1 az1 ha1
  have sa1 := word_step (n := az0) 1 256 (by decide) (by decide) (by decide) sa0.2.1 (by have := sa0.2.2; omega) (hgt 1 (by decide)) hxa1 hya1 ha1
  refine ⟨hle 2, hlt 2 (by decide), ?_⟩
  intro xa2 hxa2 ya2 hya2 az2 ha2
  have sa2 := word_step (n := az1) 2 65536 (by decide) (by decide) (by decide) sa1.2.1 (by have := sa1.2.2; omega) (hgt 2 (by decide)) hxa2 hya2 ha2
  refine ⟨hle 3, hlt 3 (by decide), ?_⟩
  intro xa3 hxa3 ya3 hya3 az3 ha3
  have sa3 := word_step (n := az2) 3 16777216 (by decide) (by decide) (by decide) sa2.2.1 (by have := sa2.2.2; omega) (hgt 3 (by decide)) hxa3 hya3 ha3
  refine ⟨hle 4, hlt 4 (by decide), ?_⟩
  intro xa4 hxa4 ya4 hya4 az4 ha4
  have sa4 := word_step (n := az3) 4 4294967296 (by decide) (by decide) (by decide) sa3.2.1 (by have := sa3.2.2; omega) (hgt 4 (by decide)) hxa4 hya4 ha4
  refine ⟨hle 5, hlt 5 (by decide), ?_⟩
  intro xa5 hxa5 ya5 hya5 az5 ha5
  have sa5 := word_step (n := az4) 5 1099511627776 (by decide) (by decide) (by decide) sa4.2.1 (by have := sa4.2.2; omega) (hgt 5 (by decide)) hxa5 hya5 ha5
  refine ⟨hle 6, hlt 6 (by decide), ?_⟩
  intro xa6 hxa6 ya6 hya6 az6 ha6
  have sa6 := word_step (n := az5) 6 281474976710656 (by decide) (by decide) (by decide) sa5.2.1 (by have := sa5.2.2; omega) (hgt 6 (by decide)) hxa6 hya6 ha6
  refine ⟨hle 7, hlt 7 (by decide), ?_⟩
  intro xa7 hxa7 ya7 hya7 az7 ha7
  have sa7 := word_step (n := az6) 7 72057594037927936 (by decide) (by decide) (by decide) sa6.2.1 (by have := sa6.2.2; omega) (hgt 7 (by decide)) hxa7 hya7 ha7
  refine ⟨hle 8, hlt 8 (by decide), ?_⟩
  intro xb0 hxb0 yb0 hyb0 bz0 hb0
  have sb0 := word_step (n := 0) 0 1 (by decide) (by decide) (by decide) (Int.le_refl 0) (by decide) (hgt 8 (by decide)) hxb0 hyb0 hb0
  refine ⟨hle 9, hlt 9 (by decide), ?_⟩
  intro xb1 hxb1 yb1 hyb1 bz1 hb1
  have sb1 := word_step (n := bz0) 1 256 (by decide) (by decide) (by decide) sb0.2.1 (by have := sb0.2.2; omega) (hgt 9 (by decide)) hxb1 hyb1 hb1
  refine ⟨hle 10, hlt 10 (by decide), ?_⟩
  intro xb2 hxb2 yb2 hyb2 bz2 hb2
  have sb2 := word_step (n := bz1) 2 65536 (by decide) (by decide) (by decide) sb1.2.1 (by have := sb1.2.2; omega) (hgt 10 (by decide)) hxb2 hyb2 hb2
  refine ⟨hle 11, hlt 11 (by decide), ?_⟩
  intro xb3 hxb3 yb3 hyb3 bz3 hb3
  have sb3 := word_step (n := bz2) 3 16777216 (by decide) (by decide) (by decide) sb2.2.1 (by have := sb2.2.2; omega) (hgt 11 (by decide)) hxb3 hyb3 hb3
  refine ⟨hle 12, hlt 12 (by decide), ?_⟩
  intro xb4 hxb4 yb4 hyb4 bz4 hb4
  have sb4 := word_step (n := bz3) 4 4294967296 (by decide) (by decide) (by decide) sb3.2.1 (by have := sb3.2.2; omega) (hgt 12 (by decide)) hxb4 hyb4 hb4
  refine ⟨hle 13, hlt 13 (by decide), ?_⟩
  intro xb5 hxb5 yb5 hyb5 bz5 hb5
  have sb5 := word_step (n := bz4) 5 1099511627776 (by decide) (by decide) (by decide) sb4.2.1 (by have := sb4.2.2; omega) (hgt 13 (by decide)) hxb5 hyb5 hb5
  refine ⟨hle 14, hlt 14 (by decide), ?_⟩
  intro xb6 hxb6 yb6 hyb6 bz6 hb6
  have sb6 := word_step (n := bz5) 6 281474976710656 (by decide) (by decide) (by decide) sb5.2.1 (by have := sb5.2.2; omega) (hgt 14 (by decide)) hxb6 hyb6 hb6
  refine ⟨hle 15, hlt 15 (by decide), ?_⟩
  intro xb7 hxb7 yb7 hyb7 bz7 hb7
  have sb7 := word_step (n := bz6) 7 72057594037927936 (by decide) (by decide) (by decide) sb6.2.1 (by have := sb6.2.2; omega) (hgt 15 (by decide)) hxb7 hyb7 hb7
  have hv0 : az7 = PL.leI (PL.ints ((x.drop 16).take 8)) := by
    rw [← ht, PL.ints_take, hG]
    obtain ⟨g0, g1, g2, g3, g4, g5, g6, g7, g8, g9, g10, g11, g12, g13, g14, g15, rfl⟩ := list16 hl
    have e : PL.leI (List.take 8 [g0, g1, g2, g3, g4, g5, g6, g7, g8, g9, g10, g11, g12, g13, g14, g15]) = g0 + 256 * (g1 + 256 * (g2 + 256 * (g3 + 256 * (g4 + 256 * (g5 + 256 * (g6 + 256 * (g7 + 256 * 0))))))) := rfl
    rw [e]
    have e0 : az0 = 0 + g0 * 1 := sa0.1
    have e1 : az1 = az0 + g1 * 256 := sa1.1
    have e2 : az2 = az1 + g2 * 65536 := sa2.1
    have e3 : az3 = az2 + g3 * 16777216 := sa3.1
    have e4 : az4 = az3 + g4 * 4294967296 := sa4.1
    have e5 : az5 = az4 + g5 * 1099511627776 := sa5.1
    have e6 : az6 = az5 + g6 * 281474976710656 := sa6.1
    have e7 : az7 = az6 + g7 * 72057594037927936 := sa7.1
    omega
  have hv1 : bz7 = PL.leI (PL.ints (x.drop 24)) := by
    rw [show x.drop 24 = t.drop 8 by rw [ht, List.drop_drop], show PL.ints (t.drop 8) = G.drop 8 by rw [← hG]; simp [PL.ints, List.map_drop]]
    obtain ⟨g0, g1, g2, g3, g4, g5, g6, g7, g8, g9, g10, g11, g12, g13, g14, g15, rfl⟩ := list16 hl
    have e : PL.leI (List.drop 8 [g0, g1, g2, g3, g4, g5, g6, g7, g8, g9, g10, g11, g12, g13, g14, g15]) = g8 + 256 * (g9 + 256 * (g10 + 256 * (g11 + 256 * (g12 + 256 * (g13 + 256 * (g14 + 256 * (g15 + 256 * 0))))))) := rfl
    rw [e]
    have e0 : bz0 = 0 + g8 * 1 := sb0.1
    have e1 : bz1 = bz0 + g9 * 256 := sb1.1
    have e2 : bz2 = bz1 + g10 * 65536 := sb2.1
    have e3 : bz3 = bz2 + g11 * 16777216 := sb3.1
    have e4 : bz4 = bz3 + g12 * 4294967296 := sb4.1
    have e5 : bz5 = bz4 + g13 * 1099511627776 := sb5.1
    have e6 : bz6 = bz5 + g14 * 281474976710656 := sb6.1
    have e7 : bz7 = bz6 + g15 * 72057594037927936 := sb7.1
    omega
  refine .inr ⟨⟨⟨0, 0, 0, 0, 0⟩, y, az7, bz7, [0, 0, 0, 0, 0, 0, 0, 0, 0, 0, 0, 0, 0, 0, 0, 0], 0⟩, ⟨h32, ⟨?_, hy.lt, ?_, ?_, rfl, ⟨?_⟩, rfl, rfl⟩, hv0, hv1⟩, rfl, rfl, rfl, rfl, rfl, rfl, rfl, rfl, rfl, rfl, rfl, rfl, rfl, rfl, trivial⟩
  · simp [L5.lt]
  · rw [hy.val, Int.zero_mul, Int.add_zero, PL.rOf, hF]
  · rfl
  · intro z hz
    simp only [List.mem_cons, List.not_mem_nil, or_false, or_self] at hz
    subst hz
    omega
end Go.Eng

set_option linter.unusedSimpArgs false
set_option linter.unusedVariables false
set_option maxRecDepth 100000
set_option linter.unusedSectionVars false
namespace Go.Eng
variable [CW : CWorld]
open Go.Proofs
open Go.PL (L5 MacS)

theorem byte_at {z u b k : Int} (i : Nat) (q : Int) (hq : q = 256 ^ i) (hk : k = (8 * i : Nat)) (hi : i < 8) (h0 : 0 ≤ z) (hu : u = ar0.shr .u64 z k) (hb : b = ar0.wrap .u8 u) : b = z / q % 256 := by
  rw [hb, hu, u64_shr h0 (by omega) (by omega), hk, Int.toNat_natCast, Int.pow_mul, hq]
  exact wrap_u8 _

/-- The two words of a number below 2^130. -/
theorem sum_words {y : L5} (h : y.lt 67108864) {z0 z1 z2 lo z3 z4 z5 z6 hi : Int} (e0 : z0 = ar0.shl .u64 y.b 26) (e1 : z1 = ar0.bor .u64 y.a z0) (e2 : z2 = ar0.shl .u64 y.c 52) (e3 : lo = ar0.bor .u64 z1 z2)
    (e4 : z3 = ar0.shr .u64 y.c 12) (e5 : z4 = ar0.shl .u64 y.d 14) (e6 : z5 = ar0.bor .u64 z3 z4) (e7 : z6 = ar0.shl .u64 y.e 40) (e8 : hi = ar0.bor .u64 z5 z6) :
    lo = y.val % 18446744073709551616 ∧ hi = y.val / 18446744073709551616 % 18446744073709551616 := by
  obtain ⟨⟨a0, a1⟩, ⟨b0, b1⟩, ⟨c0, c1⟩, ⟨d0, d1⟩, f0, f1⟩ := h
  have w : ∀ (x : Int) (k : Nat), 0 ≤ x → k < 64 → ar0.shl .u64 x (k : Int) = x * 2 ^ k % 18446744073709551616 := fun x k hx hk => by
    show IntKind.u64.wrap (x * 2 ^ (min ((k : Nat) : Int).toNat 64)) = _
    rw [wrap_u64, Int.toNat_natCast, Nat.min_eq_left (by omega)]
  have g0 : z0 = y.b * 67108864 := by rw [e0, show (26 : Int) = ((26 : Nat) : Int) from rfl, w _ _ b0 (by omega)]; omega
  have g1 : z1 = y.a + y.b * 67108864 := by rw [e1, g0]; exact u64_or_add 26 a0 (by omega) b0 (by omega) (by omega)
  have g2 : z2 = (y.c % 4096) * 4503599627370496 := by rw [e2, show (52 : Int) = ((52 : Nat) : Int) from rfl, w _ _ c0 (by omega)]; omega
  have g3 : lo = y.a + y.b * 67108864 + (y.c % 4096) * 4503599627370496 := by rw [e3, g2, g1]; exact u64_or_add 52 (by omega) (by omega) (by omega) (by omega) (by omega)
  have g4 : z3 = y.c / 4096 := by rw [e4, u64_shr c0 (by omega) (by omega)]; rfl
  have g5 : z4 = y.d * 16384 := by rw [e5, show (14 : Int) = ((14 : Nat) : Int) from rfl, w _ _ d0 (by omega)]; omega
  have g6 : z5 = y.c / 4096 + y.d * 16384 := by rw [e6, g5, g4]; exact u64_or_add 14 (by omega) (by omega) d0 (by omega) (by omega)
  have g7 : z6 = (y.e % 16777216) * 1099511627776 := by rw [e7, show (40 : Int) = ((40 : Nat) : Int) from rfl, w _ _ f0 (by omega)]; omega
  have g8 : hi = y.c / 4096 + y.d * 16384 + (y.e % 16777216) * 1099511627776 := by rw [e8, g7, g6]; exact u64_or_add 40 (by omega) (by omega) (by omega) (by omega) (by omega)
  have hv : y.val = y.a + y.b * 67108864 + (y.c % 4096) * 4503599627370496 + 18446744073709551616 * (y.c / 4096 + y.d * 16384 + (y.e % 16777216) * 1099511627776 + 18446744073709551616 * (y.e / 16777216)) := by
    show y.a + 67108864 * y.b + 4503599627370496 * y.c + 302231454903657293676544 * y.d + 20282409603651670423947251286016 * y.e = _
    omega
  rw [hv, g3, g8]
  omega

/-- The words with s added. -/
theorem sum_added {v s0 s1 lo hi z c u w : Int} (hv : 0 ≤ v) (h0 : 0 ≤ s0 ∧ s0 < 18446744073709551616) (h1 : 0 ≤ s1 ∧ s1 < 18446744073709551616) (hl : lo = v % 18446744073709551616) (hh : hi = v / 18446744073709551616 % 18446744073709551616)
    (hz : z = ar0.wrap .u64 (ar0.add lo s0)) (hc : (c = 1 ∧ z < lo) ∨ (c = 0 ∧ ¬ z < lo)) (hu : u = ar0.wrap .u64 (ar0.add s1 c)) (hw : w = ar0.wrap .u64 (ar0.add hi u)) :
    z = (v + s0 + s1 * 18446744073709551616) % 18446744073709551616 ∧ w = (v + s0 + s1 * 18446744073709551616) / 18446744073709551616 % 18446744073709551616 := by
  have ez : z = (lo + s0) % 18446744073709551616 := by rw [hz]; exact wrap_u64 _
  have eu : u = (s1 + c) % 18446744073709551616 := by rw [hu]; exact wrap_u64 _
  have ew : w = (hi + u) % 18446744073709551616 := by rw [hw]; exact wrap_u64 _
  clear hz hu hw
  omega

theorem sum_bytes {v z w b0 b1 b2 b3 b4 b5 b6 b7 b8 b9 b10 b11 b12 b13 b14 b15 : Int} (hv : 0 ≤ v) (hz : z = v % 18446744073709551616) (hw : w = v / 18446744073709551616 % 18446744073709551616)
    (e0 : b0 = z / 1 % 256)
    (e1 : b1 = z / 256 % 256)
    (e2 : b2 = z / 65536 % 256)
    (e3 : b3 = z / 16777216 % 256)
    (e4 : b4 = z / 4294967296 % 256)
    (e5 : b5 = z / 1099511627776 % 256)
    (e6 : b6 = z / 281474976710656 % 256)
    (e7 : b7 = z / 72057594037927936 % 256)
    (e8 : b8 = w / 1 % 256)
    (e9 : b9 = w / 256 % 256)
    (e10 : b10 = w / 65536 % 256)
    (e11 : b11 = w / 16777216 % 256)
    (e12 : b12 = w / 4294967296 % 256)
    (e13 : b13 = w / 1099511627776 % 256)
    (e14 : b14 = w / 281474976710656 % 256)
    (e15 : b15 = w / 72057594037927936 % 256)
    : ar0.bytes [b0, b1, b2, b3, b4, b5, b6, b7, b8, b9, b10, b11, b12, b13, b14, b15] = PL.leBytes v := by
  have hb : [b0, b1, b2, b3, b4, b5, b6, b7, b8, b9, b10, b11, b12, b13, b14, b15] = (List.range 16).map fun i => v / 256 ^ i % 256 := by
    show _ = [v / 256 ^ 0 % 256, v / 256 ^ 1 % 256, v / 256 ^ 2 % 256, v / 256 ^ 3 % 256, v / 256 ^ 4 % 256, v / 256 ^ 5 % 256, v / 256 ^ 6 % 256, v / 256 ^ 7 % 256, v / 256 ^ 8 % 256, v / 256 ^ 9 % 256, v / 256 ^ 10 % 256, v / 256 ^ 11 % 256, v / 256 ^ 12 % 256, v / 256 ^ 13 % 256, v / 256 ^ 14 % 256, v / 256 ^ 15 % 256]
    have f0 : b0 = v / 256 ^ 0 % 256 := by
      rw [show (256 : Int) ^ 0 = 1 by decide, e0, hz]
      clear e0 e1 e2 e3 e4 e5 e6 e7 e8 e9 e10 e11 e12 e13 e14 e15
      omega
    have f1 : b1 = v / 256 ^ 1 % 256 := by
      rw [show (256 : Int) ^ 1 = 256 by decide, e1, hz]
      clear e0 e1 e2 e3 e4 e5 e6 e7 e8 e9 e10 e11 e12 e13 e14 e15 f0
      omega
    have f2 : b2 = v / 256 ^ 2 % 256 := by
      rw [show (256 : Int) ^ 2 = 65536 by decide, e2, hz]
      clear e0 e1 e2 e3 e4 e5 e6 e7 e8 e9 e10 e11 e12 e13 e14 e15 f0 f1
      omega
    have f3 : b3 = v / 256 ^ 3 % 256 := by
      rw [show (256 : Int) ^ 3 = 16777216 by decide, e3, hz]
      clear e0 e1 e2 e3 e4 e5 e6 e7 e8 e9 e10 e11 e12 e13 e14 e15 f0 f1 f2
      omega
    have f4 : b4 = v / 256 ^ 4 % 256 := by
      rw [show (256 : Int) ^ 4 = 4294967296 by decide, e4, hz]
      clear e0 e1 e2 e3 e4 e5 e6 e7 e8 e9 e10 e11 e12 e13 e14 e15 f0 f1 f2 f3
      omega
    have f5 : b5 = v / 256 ^ 5 % 256 := by
      rw [show (256 : Int) ^ 5 = 1099511627776 by decide, e5, hz]
      clear e0 e1 e2 e3 e4 e5 e6 e7 e8 e9 e10 e11 e12 e13 e14 e15 f0 f1 f2 f3 f4
      omega
    have f6 : b6 = v / 256 ^ 6 % 256 := by
      rw [show (256 : Int) ^ 6 = 281474976710656 by decide, e6, hz]
      clear e0 e1 e2 e3 e4 e5 e6 e7 e8 e9 e10 e11 e12 e13 e14 e15 f0 f1 f2 f3 f4 f5
      omega
    have f7 : b7 = v / 256 ^ 7 % 256 := by
      rw [show (256 : Int) ^ 7 = 72057594037927936 by decide, e7, hz]
      clear e0 e1 e2 e3 e4 e5 e6 e7 e8 e9 e10 e11 e12 e13 e14 e15 f0 f1 f2 f3 f4 f5 f6
      omega
    have f8 : b8 = v / 256 ^ 8 % 256 := by
      rw [show (256 : Int) ^ 8 = 18446744073709551616 by decide, e8, hw]
      clear e0 e1 e2 e3 e4 e5 e6 e7 e8 e9 e10 e11 e12 e13 e14 e15 f0 f1 f2 f3 f4 f5 f6 f7
      omega
    have f9 : b9 = v / 256 ^ 9 % 256 := by
      rw [show (256 : Int) ^ 9 = 4722366482869645213696 by decide, e9, hw]
      clear e0 e1 e2 e3 e4 e5 e6 e7 e8 e9 e10 e11 e12 e13 e14 e15 f0 f1 f2 f3 f4 f5 f6 f7 f8
      omega
    have f10 : b10 = v / 256 ^ 10 % 256 := by
      rw [show (256 : Int) ^ 10 = 1208925819614629174706176 by decide, e10, hw]
      clear e0 e1 e2 e3 e4 e5 e6 e7 e8 e9 e10 e11 e12 e13 e14 e15 f0 f1 f2 f3 f4 f5 f6 f7 f8 f9
      omega
    have f11 : b11 = v / 256 ^ 11 % 256 := by
      rw [show (256 : Int) ^ 11 = 309485009821345068724781056 by decide, e11, hw]
      clear e0 e1 e2 e3 e4 e5 e6 e7 e8 e9 e10 e11 e12 e13 e14 e15 f0 f1 f2 f3 f4 f5 f6 f7 f8 f9 f10
      omega
    have f12 : b12 = v / 256 ^ 12 % 256 := by
      rw [show (256 : Int) ^ 12 = 79228162514264337593543950336 by decide, e12, hw]
      clear e0 e1 e2 e3 e4 e5 e6 e7 e8 e9 e10 e11 e12 e13 e14 e15 f0 f1 f2 f3 f4 f5 f6 f7 f8 f9 f10 f11
      omega
    have f13 : b13 = v / 256 ^ 13 % 256 := by
      rw [show (256 : Int) ^ 13 = 20282409603651670423947251286016 by decide, e13, hw]
      clear e0 e1 e2 e3 e4 e5 e6 e7 e8 e9 e10 e11 e12 e13 e14 e15 f0 f1 f2 f3 f4 f5 f6 f7 f8 f9 f10 f11 f12
      omega
    have f14 : b14 = v / 256 ^ 14 % 256 := by
      rw [show (256 : Int) ^ 14 = 5192296858534827628530496329220096 by decide, e14, hw]
      clear e0 e1 e2 e3 e4 e5 e6 e7 e8 e9 e10 e11 e12 e13 e14 e15 f0 f1 f2 f3 f4 f5 f6 f7 f8 f9 f10 f11 f12 f13
      omega
    have f15 : b15 = v / 256 ^ 15 % 256 := by
      rw [show (256 : Int) ^ 15 = 1329227995784915872903807060280344576 by decide, e15, hw]
      clear e0 e1 e2 e3 e4 e5 e6 e7 e8 e9 e10 e11 e12 e13 e14 e15 f0 f1 f2 f3 f4 f5 f6 f7 f8 f9 f10 f11 f12 f13 f14
      omega
    rw [← f0, ← f1, ← f2, ← f3, ← f4, ← f5, ← f6, ← f7, ← f8, ← f9, ← f10, ← f11, ← f12, ← f13, ← f14, ← f15]
  rw [hb]
  show ((List.range 16).map fun i => v / 256 ^ i % 256).map (fun n => UInt8.ofNat n.toNat) = _
  rw [List.map_map]
  rfl

theorem leI_append : ∀ (a b : List Int), PL.leI (a ++ b) = PL.leI a + 256 ^ a.length * PL.leI b
  | [], b => by simp [PL.leI]
  | x :: a, b => by
    have ih := leI_append a b
    simp only [List.cons_append, PL.leI, ih, List.length_cons, Int.pow_succ]
    grind
theorem leI_zeros : ∀ n : Nat, PL.leI (List.replicate n 0) = 0
  | 0 => rfl
  | n + 1 => by simp [List.replicate_succ, PL.leI, leI_zeros n]

theorem leI_pad (a : List Int) (n : Nat) : PL.leI (a ++ [1] ++ List.replicate n 0) = PL.leI (a ++ [1]) := by
  rw [leI_append, leI_zeros, Int.mul_zero, Int.add_zero]

theorem ints_eq16 {l : List Int} (h : l.length = 16) : [ar0.iget l 0, ar0.iget l 1, ar0.iget l 2, ar0.iget l 3, ar0.iget l 4, ar0.iget l 5, ar0.iget l 6, ar0.iget l 7, ar0.iget l 8, ar0.iget l 9, ar0.iget l 10, ar0.iget l 11, ar0.iget l 12, ar0.iget l 13, ar0.iget l 14, ar0.iget l 15] = l := by
  obtain ⟨a0, a1, a2, a3, a4, a5, a6, a7, a8, a9, a10, a11, a12, a13, a14, a15, rfl⟩ := list16 h
  rfl

theorem padded {l : List Int} (hl : l.length = 16) {n : Nat} (hn : n < 16) : ar0.iset (ar0.iover l (n : Int) (ar0.irep 0 (ar0.sub 16 (n : Int)))) (n : Int) 1 = l.take n ++ [1] ++ List.replicate (15 - n) 0 := by
  show (l.take (n : Int).toNat ++ List.replicate (16 - (n : Int)).toNat 0 ++ l.drop ((n : Int).toNat + (List.replicate (16 - (n : Int)).toNat (0 : Int)).length)).set (n : Int).toNat 1 = _
  rw [Int.toNat_natCast, List.length_replicate, show (16 - (n : Int)).toNat = 16 - n by omega, List.drop_eq_nil_of_le (by omega), List.append_nil, show 16 - n = (15 - n) + 1 by omega, List.replicate_succ]
  have hlen : (l.take n).length = n := by rw [List.length_take]; omega
  rw [List.set_append, if_neg (by omega), hlen, Nat.sub_self]
  simp

theorem emod_mul_congr {a b c p : Int} (h : a % p = b % p) : (a + c) % p = (b + c) % p := by
  rw [Int.add_emod, h, ← Int.add_emod]
theorem mul_congr {a b r p : Int} (h : a % p = b % p) : a * r % p = b * r % p := by
  rw [Int.mul_emod, h, ← Int.mul_emod]

theorem sumSpec_ok : sumSpec.OK PP 16 := by
  refine Spec.ok_of_run (fn := Try.f16) (c := Try.f16.body.getD .skip) (by kernel_rfl) (by kernel_rfl) (by kernel_rfl) wSpecs_ok (fun _ => noInv) 1000 ?_
  rintro ⟨m, R, t⟩ ⟨hm, h0, h1⟩
  refine (vc16 ar0 (m, R, t)).mpr ?_
  replace hm : PL.MacOK R t m := hm
  replace h0 : 0 ≤ m.s0 ∧ m.s0 < 18446744073709551616 := h0
  replace h1 : 0 ≤ m.s1 ∧ m.s1 < 18446744073709551616 := h1
  have hl := hm.len
  have hh := hm.held
  have hle : ∀ i : Nat, ar0.le 0 (i : Int) := fun i => Int.natCast_nonneg i
  have hlt : ∀ i : Nat, i < 16 → ar0.lt (i : Int) (ar0.ilen m.rest) := fun i hi => by show (i : Int) < (m.rest.length : Int); omega
  simp only [ints_eq16 hl]
  refine ⟨hle 0, hlt 0 (by decide), hle 1, hlt 1 (by decide), hle 2, hlt 2 (by decide), hle 3, hlt 3 (by decide), hle 4, hlt 4 (by decide), hle 5, hlt 5 (by decide), hle 6, hlt 6 (by decide), hle 7, hlt 7 (by decide), hle 8, hlt 8 (by decide), hle 9, hlt 9 (by decide), hle 10, hlt 10 (by decide), hle 11, hlt 11 (by decide), hle 12, hlt 12 (by decide), hle 13, hlt 13 (by decide), hle 14, hlt 14 (by decide), hle 15, hlt 15 (by decide), fun hpos => ?_, fun hpos => ?_⟩
  · replace hpos : 0 < m.held := hpos
    have hn : t.length % 16 < 16 := by omega
    have hr : t.drop (16 * (t.length / 16)) ≠ [] := fun e => by
      have := congrArg List.length e
      simp at this
      omega
    have hpad := padded hl hn
    rw [← hh] at hpad
    have hil : ∀ (z : Int), z = (16 : Int) → ar0.le (ar0.add m.held (ar0.ilen (ar0.irep 0 (ar0.sub 16 m.held)))) z := fun z hz => by
      show m.held + ((List.replicate (16 - m.held).toNat (0 : Int)).length : Int) ≤ z
      rw [List.length_replicate]; omega
    refine ⟨by show (0 : Int) ≤ m.held; omega, by show m.held ≤ 16; omega, by show (0 : Int) ≤ m.held; omega, by show m.held ≤ (m.rest.length : Int); omega, hil _ rfl, by show (0 : Int) ≤ m.held; omega, by show m.held < 16; omega, by show (0 : Int) ≤ m.held; omega, ?_, ?_⟩
    · show m.held < ((m.rest.take m.held.toNat ++ List.replicate (16 - m.held).toNat (0 : Int) ++ m.rest.drop (m.held.toNat + (List.replicate (16 - m.held).toNat (0 : Int)).length)).length : Int)
      simp only [List.length_append, List.length_take, List.length_replicate, List.length_drop]
      omega
    have hb0 := hm.b.b
    refine ⟨({ m with rest := m.rest.take (t.length % 16) ++ [1] ++ List.replicate (15 - t.length % 16) 0 }, 0), rfl, rfl, rfl, rfl, rfl, rfl, rfl, rfl, rfl, rfl, rfl, rfl, rfl, hpad, rfl, ⟨?_, ⟨?_⟩, .inl rfl⟩, fun x hx => ?_⟩
    · show (m.rest.take (t.length % 16) ++ [1] ++ List.replicate (15 - t.length % 16) 0).length = 16
      simp
      omega
    · intro z hz
      simp only [List.mem_append, List.mem_cons, List.not_mem_nil, or_false, List.mem_replicate] at hz
      rcases hz with (hz | hz) | hz
      · exact hb0 z (List.mem_of_mem_take hz)
      · omega
      · omega
    · refine ⟨({ m with rest := m.rest.take (t.length % 16) ++ [1] ++ List.replicate (15 - t.length % 16) 0 }, x), rfl, rfl, rfl, rfl, rfl, rfl, rfl, rfl, rfl, rfl, rfl, rfl, rfl, rfl, rfl, rfl, rfl, rfl, rfl, ⟨hm.acc, hm.r, hx.lt⟩, fun a ha => ?_⟩
      refine ⟨a, rfl, rfl, rfl, rfl, rfl, ⟨ha.lt⟩, fun y hy => ?_⟩
      have hV : y.val = PL.lastN R t := by
        rw [hy.val]
        obtain ⟨k, hk⟩ := ha.val
        replace hk : a.val = (m.acc.val + x.val) * m.r.val - PL.PQ * k := hk
        have hxv : x.val = PL.leI (PL.ints (t.drop (16 * (t.length / 16))) ++ [1]) := by
          rw [hx.val]
          show PL.leI (m.rest.take (t.length % 16) ++ [1] ++ List.replicate (15 - t.length % 16) 0) + 0 * _ = _
          rw [Int.zero_mul, Int.add_zero, leI_pad, hm.rest]
        unfold PL.lastN
        simp only [hr, if_false]
        rw [hk, hxv, hm.rv, Int.sub_mul_emod_self_left]
        exact mul_congr (emod_mul_congr hm.val)
      intro z0 e0 z1 e1 z2 e2 lo e3 z3 e4 z4 e5 z5 e6 z6 e7 hi e8
      obtain ⟨hlo, hhi⟩ := sum_words hy.lt e0 e1 e2 e3 e4 e5 e6 e7 e8
      have hv0 : 0 ≤ y.val := by rw [hy.val]; exact Int.emod_nonneg _ (by decide)
      intro z hz
      refine ⟨fun hc => ?_, fun hc => ?_⟩
      · intro u hu w hw
        obtain ⟨gz, gw⟩ := sum_added (c := 1) hv0 h0 h1 hlo hhi hz (.inl ⟨rfl, hc⟩) hu hw
        have hv1 : 0 ≤ y.val + m.s0 + m.s1 * 18446744073709551616 := by omega
        have gz0 : 0 ≤ z := by rw [gz]; exact Int.emod_nonneg _ (by decide)
        have gw0 : 0 ≤ w := by rw [gw]; exact Int.emod_nonneg _ (by decide)
        intro s0 es0 x0 ex0 t0 et0 y0 ey0
        intro s1 es1 x1 ex1 t1 et1 y1 ey1
        intro s2 es2 x2 ex2 t2 et2 y2 ey2
        intro s3 es3 x3 ex3 t3 et3 y3 ey3
        intro s4 es4 x4 ex4 t4 et4 y4 ey4
        intro s5 es5 x5 ex5 t5 et5 y5 ey5
        intro s6 es6 x6 ex6 t6 et6 y6 ey6
        intro s7 es7 x7 ex7 t7 et7 y7 ey7
        intro r er
        refine ⟨(), trivial, ?_, trivial, trivial, trivial, trivial, trivial, trivial, trivial, trivial, trivial, trivial, trivial, trivial, trivial, trivial, trivial⟩
        rw [er, ← hV]
        exact sum_bytes hv1 gz gw (byte_at 0 1 (by decide) (by decide) (by decide) gz0 es0 ex0) (byte_at 1 256 (by decide) (by decide) (by decide) gz0 es1 ex1) (byte_at 2 65536 (by decide) (by decide) (by decide) gz0 es2 ex2) (byte_at 3 16777216 (by decide) (by decide) (by decide) gz0 es3 ex3) (byte_at 4 4294967296 (by decide) (by decide) (by decide) gz0 es4 ex4) (byte_at 5 1099511627776 (by decide) (by decide) (by decide) gz0 es5 ex5) (byte_at 6 281474976710656 (by decide) (by decide) (by decide) gz0 es6 ex6) (byte_at 7 72057594037927936 (by decide) (by decide) (by decide) gz0 es7 ex7) (byte_at 0 1 (by decide) (by decide) (by decide) gw0 et0 ey0) (byte_at 1 256 (by decide) (by decide) (by decide) gw0 et1 ey1) (byte_at 2 65536 (by decide) (by decide) (by decide) gw0 et2 ey2) (byte_at 3 16777216 (by decide) (by decide) (by decide) gw0 et3 ey3) (byte_at 4 4294967296 (by decide) (by decide) (by decide) gw0 et4 ey4) (byte_at 5 1099511627776 (by decide) (by decide) (by decide) gw0 et5 ey5) (byte_at 6 281474976710656 (by decide) (by decide) (by decide) gw0 et6 ey6) (byte_at 7 72057594037927936 (by decide) (by decide) (by decide) gw0 et7 ey7)
      · intro u hu w hw
        obtain ⟨gz, gw⟩ := sum_added (c := 0) hv0 h0 h1 hlo hhi hz (.inr ⟨rfl, hc⟩) hu hw
        have hv1 : 0 ≤ y.val + m.s0 + m.s1 * 18446744073709551616 := by omega
        have gz0 : 0 ≤ z := by rw [gz]; exact Int.emod_nonneg _ (by decide)
        have gw0 : 0 ≤ w := by rw [gw]; exact Int.emod_nonneg _ (by decide)
        intro s0 es0 x0 ex0 t0 et0 y0 ey0
        intro s1 es1 x1 ex1 t1 et1 y1 ey1
        intro s2 es2 x2 ex2 t2 et2 y2 ey2
        intro s3 es3 x3 ex3 t3 et3 y3 ey3
        intro s4 es4 x4 ex4 t4 et4 y4 ey4
        intro s5 es5 x5 ex5 t5 et5 y5 ey5
        intro s6 es6 x6 ex6 t6 et6 y6 ey6
        intro s7 es7 x7 ex7 t7 et7 y7 ey7
        intro r er
        refine ⟨(), trivial, ?_, trivial, trivial, trivial, trivial, trivial, trivial, trivial, trivial, trivial, trivial, trivial, trivial, trivial, trivial, trivial⟩
        rw [er, ← hV]
        exact sum_bytes hv1 gz gw (byte_at 0 1 (by decide) (by decide) (by decide) gz0 es0 ex0) (byte_at 1 256 (by decide) (by decide) (by decide) gz0 es1 ex1) (byte_at 2 65536 (by decide) (by decide) (by decide) gz0 es2 ex2) (byte_at 3 16777216 (by decide) (by decide) (by decide) gz0 es3 ex3) (byte_at 4 4294967296 (by decide) (by decide) (by decide) gz0 es4 ex4) (byte_at 5 1099511627776 (by decide) (by decide) (by decide) gz0 es5 ex5) (byte_at 6 281474976710656 (by decide) (by decide) (by decide) gz0 es6 ex6) (byte_at 7 72057594037927936 (by decide) (by decide) (by decide) gz0 es7 ex7) (byte_at 0 1 (by decide) (by decide) (by decide) gw0 et0 ey0) (byte_at 1 256 (by decide) (by decide) (by decide) gw0 et1 ey1) (byte_at 2 65536 (by decide) (by decide) (by decide) gw0 et2 ey2) (byte_at 3 16777216 (by decide) (by decide) (by decide) gw0 et3 ey3) (byte_at 4 4294967296 (by decide) (by decide) (by decide) gw0 et4 ey4) (byte_at 5 1099511627776 (by decide) (by decide) (by decide) gw0 et5 ey5) (byte_at 6 281474976710656 (by decide) (by decide) (by decide) gw0 et6 ey6) (byte_at 7 72057594037927936 (by decide) (by decide) (by decide) gw0 et7 ey7)
  · replace hpos : ¬ 0 < m.held := hpos
    have hr : t.drop (16 * (t.length / 16)) = [] := List.drop_eq_nil_of_le (by omega)
    refine ⟨m.acc, rfl, rfl, rfl, rfl, rfl, ⟨hm.acc⟩, fun y hy => ?_⟩
    have hV : y.val = PL.lastN R t := by
      rw [hy.val]
      unfold PL.lastN
      simp only [hr, if_true]
      exact hm.val
    intro z0 e0 z1 e1 z2 e2 lo e3 z3 e4 z4 e5 z5 e6 z6 e7 hi e8
    obtain ⟨hlo, hhi⟩ := sum_words hy.lt e0 e1 e2 e3 e4 e5 e6 e7 e8
    have hv0 : 0 ≤ y.val := by rw [hy.val]; exact Int.emod_nonneg _ (by decide)
    intro z hz
    refine ⟨fun hc => ?_, fun hc => ?_⟩
    · intro u hu w hw
      obtain ⟨gz, gw⟩ := sum_added (c := 1) hv0 h0 h1 hlo hhi hz (.inl ⟨rfl, hc⟩) hu hw
      have hv1 : 0 ≤ y.val + m.s0 + m.s1 * 18446744073709551616 := by omega
      have gz0 : 0 ≤ z := by rw [gz]; exact Int.emod_nonneg _ (by decide)
      have gw0 : 0 ≤ w := by rw [gw]; exact Int.emod_nonneg _ (by decide)
      intro s0 es0 x0 ex0 t0 et0 y0 ey0
      intro s1 es1 x1 ex1 t1 et1 y1 ey1
      intro s2 es2 x2 ex2 t2 et2 y2 ey2
      intro s3 es3 x3 ex3 t3 et3 y3 ey3
      intro s4 es4 x4 ex4 t4 et4 y4 ey4
      intro s5 es5 x5 ex5 t5 et5 y5 ey5
      intro s6 es6 x6 ex6 t6 et6 y6 ey6
      intro s7 es7 x7 ex7 t7 et7 y7 ey7
      intro r er
      refine ⟨(), trivial, ?_, trivial, trivial, trivial, trivial, trivial, trivial, trivial, trivial, trivial, trivial, trivial, trivial, trivial, trivial, trivial⟩
      rw [er, ← hV]
      exact sum_bytes hv1 gz gw (byte_at 0 1 (by decide) (by decide) (by decide) gz0 es0 ex0) (byte_at 1 256 (by decide) (by decide) (by decide) gz0 es1 ex1) (byte_at 2 65536 (by decide) (by decide) (by decide) gz0 es2 ex2) (byte_at 3 16777216 (by decide) (by decide) (by decide) gz0 es3 ex3) (byte_at 4 4294967296 (by decide) (by decide) (by decide) gz0 es4 ex4) (byte_at 5 1099511627776 (by decide) (by decide) (by decide) gz0 es5 ex5) (byte_at 6 281474976710656 (by decide) (by decide) (by decide) gz0 es6 ex6) (byte_at 7 72057594037927936 (by decide) (by decide) (by decide) gz0 es7 ex7) (byte_at 0 1 (by decide) (by decide) (by decide) gw0 et0 ey0) (byte_at 1 256 (by decide) (by decide) (by decide) gw0 et1 ey1) (byte_at 2 65536 (by decide) (by decide) (by decide) gw0 et2 ey2) (byte_at 3 16777216 (by decide) (by decide) (by decide) gw0 et3 ey3) (byte_at 4 4294967296 (by decide) (by decide) (by decide) gw0 et4 ey4) (byte_at 5 1099511627776 (by decide) (by decide) (by decide) gw0 et5 ey5) (byte_at 6 281474976710656 (by decide) (by decide) (by decide) gw0 et6 ey6) (byte_at 7 72057594037927936 (by decide) (by decide) (by decide) gw0 et7 ey7)
    · intro u hu w hw
      obtain ⟨gz, gw⟩ := sum_added (c := 0) hv0 h0 h1 hlo hhi hz (.inr ⟨rfl, hc⟩) hu hw
      have hv1 : 0 ≤ y.val + m.s0 + m.s1 * 18446744073709551616 := by omega
      have gz0 : 0 ≤ z := by rw [gz]; exact Int.emod_nonneg _ (by decide)
      have gw0 : 0 ≤ w := by rw [gw]; exact Int.emod_nonneg _ (by decide)
      intro s0 es0 x0 ex0 t0 et0 y0 ey0
      intro s1 es1 x1 ex1 t1 et1 y1 ey1
      intro s2 es2 x2 ex2 t2 et2 y2 ey2
      intro s3 es3 x3 ex3 t3 et3 y3 ey3
      intro s4 es4 x4 ex4 t4 et4 y4 ey4
      intro s5 es5 x5 ex5 t5 et5 y5 ey5
      intro s6 es6 x6 ex6 t6 et6 y6 ey6
      intro s7 es7 x7 ex7 t7 et7 y7 ey7
      intro r er
      refine ⟨(), trivial, ?_, trivial, trivial, trivial, trivial, trivial, trivial, trivial, trivial, trivial, trivial, trivial, trivial, trivial, trivial, trivial⟩
      rw [er, ← hV]
      exact sum_bytes hv1 gz gw (byte_at 0 1 (by decide) (by decide) (by decide) gz0 es0 ex0) (byte_at 1 256 (by decide) (by decide) (by decide) gz0 es1 ex1) (byte_at 2 65536 (by decide) (by decide) (by decide) gz0 es2 ex2) (byte_at 3 16777216 (by decide) (by decide) (by decide) gz0 es3 ex3) (byte_at 4 4294967296 (by decide) (by decide) (by decide) gz0 es4 ex4) (byte_at 5 1099511627776 (by decide) (by decide) (by decide) gz0 es5 ex5) (byte_at 6 281474976710656 (by decide) (by decide) (by decide) gz0 es6 ex6) (byte_at 7 72057594037927936 (by decide) (by decide) (by decide) gz0 es7 ex7) (byte_at 0 1 (by decide) (by decide) (by decide) gw0 et0 ey0) (byte_at 1 256 (by decide) (by decide) (by decide) gw0 et1 ey1) (byte_at 2 65536 (by decide) (by decide) (by decide) gw0 et2 ey2) (byte_at 3 16777216 (by decide) (by decide) (by decide) gw0 et3 ey3) (byte_at 4 4294967296 (by decide) (by decide) (by decide) gw0 et4 ey4) (byte_at 5 1099511627776 (by decide) (by decide) (by decide) gw0 et5 ey5) (byte_at 6 281474976710656 (by decide) (by decide) (by decide) gw0 et6 ey6) (byte_at 7 72057594037927936 (by decide) (by decide) (by decide) gw0 et7 ey7)
end Go.Eng
