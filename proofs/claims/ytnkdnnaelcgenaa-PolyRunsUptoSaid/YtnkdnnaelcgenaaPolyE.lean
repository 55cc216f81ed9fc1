/- Poly: PolyPieces holds its contracts. -/
import Derived.Test.YtnkdnnaelcgenaaPolyD
set_option linter.unusedVariables false
set_option linter.unusedSimpArgs false

/- Poly: walks. -/
set_option linter.unusedVariables false
set_option linter.unusedSectionVars false
namespace Go.Eng
variable [CW : CWorld]
open Go.Proofs
open Go.PL (L5 MacS)
set_option maxRecDepth 100000
theorem vc7 (ar : AR) (x : List UInt8 × List UInt8 × List Int × Int) : (run ar PP lSpecs (lawInvs x.1 x.2.1 x.2.2.1) 1000 7 0 (Try.f7.body.getD .skip) ([.str x.1, .str x.2.1, .cs [.ints .i64 x.2.2.1] (.x (x.2.2.1.length : Int)) (.x x.2.2.2)] ++ List.replicate (Try.f7.ntmps - 3) .any) [] (endCall ar PP Try.f7.results.toList (piecesSpec.fin x))) = (
    ∃ (x_1 : List UInt8), x.fst = x_1 ∧ PL.StrOK x_1 ∧ ∀ (y : Unit), True → ∃ (x_2 : List UInt8), PL.keyedF x_1 = x_2 ∧ PL.LenOK x_2 ∧ (∀ (y : Unit), PL.NotKey x_2 → ∃ (y : Unit),
    True ∧ False) ∧ ∀ (y : MacS), PL.NewOK x_2 y → (∃ (i : Nat × Nat × MacS), PL.PiecesOK x.fst x.snd.fst x.snd.snd.fst i.fst i.2.fst i.2.snd ∧ x.fst = x.fst ∧ x.snd.fst =
    x.snd.fst ∧ x.snd.snd.fst = x.snd.snd.fst ∧ (↑x.snd.snd.fst.length : Int) = (↑x.snd.snd.fst.length : Int) ∧ x.snd.snd.snd = x.snd.snd.snd ∧ PL.keyedF x_1 = PL.keyedF x_1 ∧ 0 =
    (↑i.2.fst : Int) ∧ 0 = (↑i.fst : Int) ∧ x.fst = x.fst ∧ PL.keyedF x_1 = PL.keyedF x_1 ∧ PL.keyedF x_1 = PL.keyedF x_1 ∧ y.1.a = i.snd.snd.acc.a ∧ y.1.b = i.snd.snd.acc.b ∧
    y.1.c = i.snd.snd.acc.c ∧ y.1.d = i.snd.snd.acc.d ∧ y.1.e = i.snd.snd.acc.e ∧ y.2.a = i.snd.snd.r.a ∧ y.2.b = i.snd.snd.r.b ∧ y.2.c = i.snd.snd.r.c ∧ y.2.d = i.snd.snd.r.d ∧
    y.2.e = i.snd.snd.r.e ∧ y.s0 = i.snd.snd.s0 ∧ y.s1 = i.snd.snd.s1 ∧ y.rest = i.snd.snd.rest ∧ y.held = i.snd.snd.held ∧ True) ∧ ∀ (i : Nat × Nat × MacS), PL.PiecesOK x.fst
    x.snd.fst x.snd.snd.fst i.fst i.2.fst i.2.snd → (ar.le (↑i.fst : Int) (↑x.snd.snd.fst.length : Int) → ∀ (z : Int), z = ar.wrap IntKind.i64 (ar.sub (ar.slen x.snd.fst) (↑i.2.fst
    : Int)) → (ar.lt (↑i.fst : Int) (↑x.snd.snd.fst.length : Int) → ar.le 0 (↑i.fst : Int) ∧ ar.lt (↑i.fst : Int) (↑x.snd.snd.fst.length : Int) ∧ ∀ (z_1 : Int), z_1 = ar.rem
    (ar.iget x.snd.snd.fst (↑i.fst : Int)) 40 → ∀ (z_2 : Int), z_2 = ar.wrap IntKind.i64 (ar.add z_1 40) → ∀ (z_3 : Int), z_3 = ar.rem z_2 40 → (ar.lt z_3 z → ∀ (z : Int), z =
    ar.wrap IntKind.i64 (ar.add (↑i.2.fst : Int) z_3) → ar.le 0 (↑i.2.fst : Int) ∧ ar.le (↑i.2.fst : Int) z ∧ ar.le z (ar.slen x.snd.fst) ∧ ∀ (t : List UInt8), t = ar.sext
    x.snd.fst (↑i.2.fst : Int) z → ∃ (x_3 : MacS × List UInt8 × Int × List UInt8), t = x_3.2.fst ∧ i.snd.snd.acc.a = x_3.fst.acc.a ∧ i.snd.snd.acc.b = x_3.fst.acc.b ∧
    i.snd.snd.acc.c = x_3.fst.acc.c ∧ i.snd.snd.acc.d = x_3.fst.acc.d ∧ i.snd.snd.acc.e = x_3.fst.acc.e ∧ i.snd.snd.r.a = x_3.fst.r.a ∧ i.snd.snd.r.b = x_3.fst.r.b ∧ i.snd.snd.r.c
    = x_3.fst.r.c ∧ i.snd.snd.r.d = x_3.fst.r.d ∧ i.snd.snd.r.e = x_3.fst.r.e ∧ i.snd.snd.s0 = x_3.1.s0 ∧ i.snd.snd.s1 = x_3.1.s1 ∧ i.snd.snd.rest = x_3.1.rest ∧ i.snd.snd.held =
    x_3.1.held ∧ PL.WritePre x_3.snd.snd.fst x_3.snd.snd.snd x_3.2.fst x_3.fst ∧ ∀ (y : MacS), PL.Written x_3.snd.snd.fst x_3.snd.snd.snd x_3.2.fst x_3.fst y → ∀ (z : Int), z =
    ar.wrap IntKind.i64 (ar.add (↑i.2.fst : Int) z_3) → ar.le 0 z ∧ ar.le z (ar.slen x.snd.fst) ∧ ∀ (t : List UInt8), t = ar.sext x.snd.fst 0 z → ∃ (x_4 : List UInt8 × List UInt8),
    PL.keyedF x_1 = x_4.fst ∧ t = x_4.snd ∧ PL.TagPre x_4.fst x_4.snd ∧ (∀ (y : Unit), PL.NotKey x_4.fst → ∃ (y : Unit), True ∧ False) ∧ ∀ (y_1 : Unit), PL.IsKey x_4.fst → ((¬ar.eq
    (ar.slen (PL.tagOf x_4.fst x_4.snd)) 16 → False) → ∃ (x_5 : MacS × Int × List UInt8), y.1.a = x_5.fst.acc.a ∧ y.1.b = x_5.fst.acc.b ∧ y.1.c = x_5.fst.acc.c ∧ y.1.d =
    x_5.fst.acc.d ∧ y.1.e = x_5.fst.acc.e ∧ y.2.a = x_5.fst.r.a ∧ y.2.b = x_5.fst.r.b ∧ y.2.c = x_5.fst.r.c ∧ y.2.d = x_5.fst.r.d ∧ y.2.e = x_5.fst.r.e ∧ y.s0 = x_5.1.s0 ∧ y.s1 =
    x_5.1.s1 ∧ y.rest = x_5.1.rest ∧ y.held = x_5.1.held ∧ PL.SumPre x_5.2.fst x_5.2.snd x_5.fst ∧ ∀ (y : Unit), True → ((¬ar.seq (PL.leBytes (((PL.lastN x_5.2.fst x_5.2.snd).add
    x_5.1.s0).add (x_5.1.s1.mul 18446744073709551616))) (PL.tagOf x_4.fst x_4.snd) → False) → ∃ (x_6 : MacS × Int × List UInt8), x_5.fst.acc.a = x_6.fst.acc.a ∧ x_5.fst.acc.b =
    x_6.fst.acc.b ∧ x_5.fst.acc.c = x_6.fst.acc.c ∧ x_5.fst.acc.d = x_6.fst.acc.d ∧ x_5.fst.acc.e = x_6.fst.acc.e ∧ x_5.fst.r.a = x_6.fst.r.a ∧ x_5.fst.r.b = x_6.fst.r.b ∧
    x_5.fst.r.c = x_6.fst.r.c ∧ x_5.fst.r.d = x_6.fst.r.d ∧ x_5.fst.r.e = x_6.fst.r.e ∧ x_5.1.s0 = x_6.1.s0 ∧ x_5.1.s1 = x_6.1.s1 ∧ x_5.1.rest = x_6.1.rest ∧ x_5.1.held =
    x_6.1.held ∧ PL.SumPre x_6.2.fst x_6.2.snd x_6.fst ∧ ∀ (y : Unit), True → (¬ar.seq (PL.leBytes (((PL.lastN x_6.2.fst x_6.2.snd).add x_6.1.s0).add (x_6.1.s1.mul
    18446744073709551616))) (PL.tagOf x_4.fst x_4.snd) → ∃ (y : Unit), True ∧ False) ∧ (¬¬ar.seq (PL.leBytes (((PL.lastN x_6.2.fst x_6.2.snd).add x_6.1.s0).add (x_6.1.s1.mul
    18446744073709551616))) (PL.tagOf x_4.fst x_4.snd) → ∀ (z_4 : Int), z_4 = ar.wrap IntKind.i64 (ar.add (↑i.fst : Int) 1) → ∃ (j : Nat × Nat × MacS), PL.PiecesOK x.fst x.snd.fst
    x.snd.snd.fst j.fst j.2.fst j.2.snd ∧ ((x.snd.snd.fst.length.add 1).sub j.fst).lt ((x.snd.snd.fst.length.add 1).sub i.fst) ∧ x.fst = x.fst ∧ x.snd.fst = x.snd.fst ∧
    x.snd.snd.fst = x.snd.snd.fst ∧ (↑x.snd.snd.fst.length : Int) = (↑x.snd.snd.fst.length : Int) ∧ x.snd.snd.snd = x.snd.snd.snd ∧ PL.keyedF x_1 = PL.keyedF x_1 ∧ z = (↑j.2.fst :
    Int) ∧ z_4 = (↑j.fst : Int) ∧ x.fst = x.fst ∧ PL.keyedF x_1 = PL.keyedF x_1 ∧ PL.keyedF x_1 = PL.keyedF x_1 ∧ x_6.fst.acc.a = j.snd.snd.acc.a ∧ x_6.fst.acc.b = j.snd.snd.acc.b
    ∧ x_6.fst.acc.c = j.snd.snd.acc.c ∧ x_6.fst.acc.d = j.snd.snd.acc.d ∧ x_6.fst.acc.e = j.snd.snd.acc.e ∧ x_6.fst.r.a = j.snd.snd.r.a ∧ x_6.fst.r.b = j.snd.snd.r.b ∧ x_6.fst.r.c
    = j.snd.snd.r.c ∧ x_6.fst.r.d = j.snd.snd.r.d ∧ x_6.fst.r.e = j.snd.snd.r.e ∧ x_6.1.s0 = j.snd.snd.s0 ∧ x_6.1.s1 = j.snd.snd.s1 ∧ x_6.1.rest = j.snd.snd.rest ∧ x_6.1.held =
    j.snd.snd.held ∧ True)) ∧ (¬(¬ar.seq (PL.leBytes (((PL.lastN x_5.2.fst x_5.2.snd).add x_5.1.s0).add (x_5.1.s1.mul 18446744073709551616))) (PL.tagOf x_4.fst x_4.snd) → False) →
    ∃ (y : Unit), True ∧ False)) ∧ (¬(¬ar.eq (ar.slen (PL.tagOf x_4.fst x_4.snd)) 16 → False) → ∃ (y : Unit), True ∧ False)) ∧ (¬ar.lt z_3 z → ∀ (z_4 : Int), z_4 = ar.wrap
    IntKind.i64 (ar.add (↑i.2.fst : Int) z) → ar.le 0 (↑i.2.fst : Int) ∧ ar.le (↑i.2.fst : Int) z_4 ∧ ar.le z_4 (ar.slen x.snd.fst) ∧ ∀ (t : List UInt8), t = ar.sext x.snd.fst
    (↑i.2.fst : Int) z_4 → ∃ (x_3 : MacS × List UInt8 × Int × List UInt8), t = x_3.2.fst ∧ i.snd.snd.acc.a = x_3.fst.acc.a ∧ i.snd.snd.acc.b = x_3.fst.acc.b ∧ i.snd.snd.acc.c =
    x_3.fst.acc.c ∧ i.snd.snd.acc.d = x_3.fst.acc.d ∧ i.snd.snd.acc.e = x_3.fst.acc.e ∧ i.snd.snd.r.a = x_3.fst.r.a ∧ i.snd.snd.r.b = x_3.fst.r.b ∧ i.snd.snd.r.c = x_3.fst.r.c ∧
    i.snd.snd.r.d = x_3.fst.r.d ∧ i.snd.snd.r.e = x_3.fst.r.e ∧ i.snd.snd.s0 = x_3.1.s0 ∧ i.snd.snd.s1 = x_3.1.s1 ∧ i.snd.snd.rest = x_3.1.rest ∧ i.snd.snd.held = x_3.1.held ∧
    PL.WritePre x_3.snd.snd.fst x_3.snd.snd.snd x_3.2.fst x_3.fst ∧ ∀ (y : MacS), PL.Written x_3.snd.snd.fst x_3.snd.snd.snd x_3.2.fst x_3.fst y → ∀ (z_5 : Int), z_5 = ar.wrap
    IntKind.i64 (ar.add (↑i.2.fst : Int) z) → ar.le 0 z_5 ∧ ar.le z_5 (ar.slen x.snd.fst) ∧ ∀ (t : List UInt8), t = ar.sext x.snd.fst 0 z_5 → ∃ (x_4 : List UInt8 × List UInt8),
    PL.keyedF x_1 = x_4.fst ∧ t = x_4.snd ∧ PL.TagPre x_4.fst x_4.snd ∧ (∀ (y : Unit), PL.NotKey x_4.fst → ∃ (y : Unit), True ∧ False) ∧ ∀ (y_1 : Unit), PL.IsKey x_4.fst → ((¬ar.eq
    (ar.slen (PL.tagOf x_4.fst x_4.snd)) 16 → False) → ∃ (x_5 : MacS × Int × List UInt8), y.1.a = x_5.fst.acc.a ∧ y.1.b = x_5.fst.acc.b ∧ y.1.c = x_5.fst.acc.c ∧ y.1.d =
    x_5.fst.acc.d ∧ y.1.e = x_5.fst.acc.e ∧ y.2.a = x_5.fst.r.a ∧ y.2.b = x_5.fst.r.b ∧ y.2.c = x_5.fst.r.c ∧ y.2.d = x_5.fst.r.d ∧ y.2.e = x_5.fst.r.e ∧ y.s0 = x_5.1.s0 ∧ y.s1 =
    x_5.1.s1 ∧ y.rest = x_5.1.rest ∧ y.held = x_5.1.held ∧ PL.SumPre x_5.2.fst x_5.2.snd x_5.fst ∧ ∀ (y : Unit), True → ((¬ar.seq (PL.leBytes (((PL.lastN x_5.2.fst x_5.2.snd).add
    x_5.1.s0).add (x_5.1.s1.mul 18446744073709551616))) (PL.tagOf x_4.fst x_4.snd) → False) → ∃ (x_6 : MacS × Int × List UInt8), x_5.fst.acc.a = x_6.fst.acc.a ∧ x_5.fst.acc.b =
    x_6.fst.acc.b ∧ x_5.fst.acc.c = x_6.fst.acc.c ∧ x_5.fst.acc.d = x_6.fst.acc.d ∧ x_5.fst.acc.e = x_6.fst.acc.e ∧ x_5.fst.r.a = x_6.fst.r.a ∧ x_5.fst.r.b = x_6.fst.r.b ∧
    x_5.fst.r.c = x_6.fst.r.c ∧ x_5.fst.r.d = x_6.fst.r.d ∧ x_5.fst.r.e = x_6.fst.r.e ∧ x_5.1.s0 = x_6.1.s0 ∧ x_5.1.s1 = x_6.1.s1 ∧ x_5.1.rest = x_6.1.rest ∧ x_5.1.held =
    x_6.1.held ∧ PL.SumPre x_6.2.fst x_6.2.snd x_6.fst ∧ ∀ (y : Unit), True → (¬ar.seq (PL.leBytes (((PL.lastN x_6.2.fst x_6.2.snd).add x_6.1.s0).add (x_6.1.s1.mul
    18446744073709551616))) (PL.tagOf x_4.fst x_4.snd) → ∃ (y : Unit), True ∧ False) ∧ (¬¬ar.seq (PL.leBytes (((PL.lastN x_6.2.fst x_6.2.snd).add x_6.1.s0).add (x_6.1.s1.mul
    18446744073709551616))) (PL.tagOf x_4.fst x_4.snd) → ∀ (z : Int), z = ar.wrap IntKind.i64 (ar.add (↑i.fst : Int) 1) → ∃ (j : Nat × Nat × MacS), PL.PiecesOK x.fst x.snd.fst
    x.snd.snd.fst j.fst j.2.fst j.2.snd ∧ ((x.snd.snd.fst.length.add 1).sub j.fst).lt ((x.snd.snd.fst.length.add 1).sub i.fst) ∧ x.fst = x.fst ∧ x.snd.fst = x.snd.fst ∧
    x.snd.snd.fst = x.snd.snd.fst ∧ (↑x.snd.snd.fst.length : Int) = (↑x.snd.snd.fst.length : Int) ∧ x.snd.snd.snd = x.snd.snd.snd ∧ PL.keyedF x_1 = PL.keyedF x_1 ∧ z_5 = (↑j.2.fst
    : Int) ∧ z = (↑j.fst : Int) ∧ x.fst = x.fst ∧ PL.keyedF x_1 = PL.keyedF x_1 ∧ PL.keyedF x_1 = PL.keyedF x_1 ∧ x_6.fst.acc.a = j.snd.snd.acc.a ∧ x_6.fst.acc.b = j.snd.snd.acc.b
    ∧ x_6.fst.acc.c = j.snd.snd.acc.c ∧ x_6.fst.acc.d = j.snd.snd.acc.d ∧ x_6.fst.acc.e = j.snd.snd.acc.e ∧ x_6.fst.r.a = j.snd.snd.r.a ∧ x_6.fst.r.b = j.snd.snd.r.b ∧ x_6.fst.r.c
    = j.snd.snd.r.c ∧ x_6.fst.r.d = j.snd.snd.r.d ∧ x_6.fst.r.e = j.snd.snd.r.e ∧ x_6.1.s0 = j.snd.snd.s0 ∧ x_6.1.s1 = j.snd.snd.s1 ∧ x_6.1.rest = j.snd.snd.rest ∧ x_6.1.held =
    j.snd.snd.held ∧ True)) ∧ (¬(¬ar.seq (PL.leBytes (((PL.lastN x_5.2.fst x_5.2.snd).add x_5.1.s0).add (x_5.1.s1.mul 18446744073709551616))) (PL.tagOf x_4.fst x_4.snd) → False) →
    ∃ (y : Unit), True ∧ False)) ∧ (¬(¬ar.eq (ar.slen (PL.tagOf x_4.fst x_4.snd)) 16 → False) → ∃ (y : Unit), True ∧ False))) ∧ (¬ar.lt (↑i.fst : Int) (↑x.snd.snd.fst.length : Int)
    → ∀ (z_1 : Int), z_1 = ar.wrap IntKind.i64 (ar.add (↑i.2.fst : Int) z) → ar.le 0 (↑i.2.fst : Int) ∧ ar.le (↑i.2.fst : Int) z_1 ∧ ar.le z_1 (ar.slen x.snd.fst) ∧ ∀ (t : List
    UInt8), t = ar.sext x.snd.fst (↑i.2.fst : Int) z_1 → ∃ (x_3 : MacS × List UInt8 × Int × List UInt8), t = x_3.2.fst ∧ i.snd.snd.acc.a = x_3.fst.acc.a ∧ i.snd.snd.acc.b =
    x_3.fst.acc.b ∧ i.snd.snd.acc.c = x_3.fst.acc.c ∧ i.snd.snd.acc.d = x_3.fst.acc.d ∧ i.snd.snd.acc.e = x_3.fst.acc.e ∧ i.snd.snd.r.a = x_3.fst.r.a ∧ i.snd.snd.r.b = x_3.fst.r.b
    ∧ i.snd.snd.r.c = x_3.fst.r.c ∧ i.snd.snd.r.d = x_3.fst.r.d ∧ i.snd.snd.r.e = x_3.fst.r.e ∧ i.snd.snd.s0 = x_3.1.s0 ∧ i.snd.snd.s1 = x_3.1.s1 ∧ i.snd.snd.rest = x_3.1.rest ∧
    i.snd.snd.held = x_3.1.held ∧ PL.WritePre x_3.snd.snd.fst x_3.snd.snd.snd x_3.2.fst x_3.fst ∧ ∀ (y : MacS), PL.Written x_3.snd.snd.fst x_3.snd.snd.snd x_3.2.fst x_3.fst y → ∀
    (z_2 : Int), z_2 = ar.wrap IntKind.i64 (ar.add (↑i.2.fst : Int) z) → ar.le 0 z_2 ∧ ar.le z_2 (ar.slen x.snd.fst) ∧ ∀ (t : List UInt8), t = ar.sext x.snd.fst 0 z_2 → ∃ (x_4 :
    List UInt8 × List UInt8), PL.keyedF x_1 = x_4.fst ∧ t = x_4.snd ∧ PL.TagPre x_4.fst x_4.snd ∧ (∀ (y : Unit), PL.NotKey x_4.fst → ∃ (y : Unit), True ∧ False) ∧ ∀ (y_1 : Unit),
    PL.IsKey x_4.fst → ((¬ar.eq (ar.slen (PL.tagOf x_4.fst x_4.snd)) 16 → False) → ∃ (x_5 : MacS × Int × List UInt8), y.1.a = x_5.fst.acc.a ∧ y.1.b = x_5.fst.acc.b ∧ y.1.c =
    x_5.fst.acc.c ∧ y.1.d = x_5.fst.acc.d ∧ y.1.e = x_5.fst.acc.e ∧ y.2.a = x_5.fst.r.a ∧ y.2.b = x_5.fst.r.b ∧ y.2.c = x_5.fst.r.c ∧ y.2.d = x_5.fst.r.d ∧ y.2.e = x_5.fst.r.e ∧
    y.s0 = x_5.1.s0 ∧ y.s1 = x_5.1.s1 ∧ y.rest = x_5.1.rest ∧ y.held = x_5.1.held ∧ PL.SumPre x_5.2.fst x_5.2.snd x_5.fst ∧ ∀ (y : Unit), True → ((¬ar.seq (PL.leBytes (((PL.lastN
    x_5.2.fst x_5.2.snd).add x_5.1.s0).add (x_5.1.s1.mul 18446744073709551616))) (PL.tagOf x_4.fst x_4.snd) → False) → ∃ (x_6 : MacS × Int × List UInt8), x_5.fst.acc.a =
    x_6.fst.acc.a ∧ x_5.fst.acc.b = x_6.fst.acc.b ∧ x_5.fst.acc.c = x_6.fst.acc.c ∧ x_5.fst.acc.d = x_6.fst.acc.d ∧ x_5.fst.acc.e = x_6.fst.acc.e ∧ x_5.fst.r.a = x_6.fst.r.a ∧
    x_5.fst.r.b = x_6.fst.r.b ∧ x_5.fst.r.c = x_6.fst.r.c ∧ x_5.fst.r.d = x_6.fst.r.d ∧ x_5.fst.r.e = x_6.fst.r.e ∧ x_5.1.s0 = x_6.1.s0 ∧ x_5.1.s1 = x_6.1.s1 ∧ x_5.1.rest =
    x_6.1.rest ∧ x_5.1.held = x_6.1.held ∧ PL.SumPre x_6.2.fst x_6.2.snd x_6.fst ∧ ∀ (y : Unit), True → (¬ar.seq (PL.leBytes (((PL.lastN x_6.2.fst x_6.2.snd).add x_6.1.s0).add
    (x_6.1.s1.mul 18446744073709551616))) (PL.tagOf x_4.fst x_4.snd) → ∃ (y : Unit), True ∧ False) ∧ (¬¬ar.seq (PL.leBytes (((PL.lastN x_6.2.fst x_6.2.snd).add x_6.1.s0).add
    (x_6.1.s1.mul 18446744073709551616))) (PL.tagOf x_4.fst x_4.snd) → ∀ (z : Int), z = ar.wrap IntKind.i64 (ar.add (↑i.fst : Int) 1) → ∃ (j : Nat × Nat × MacS), PL.PiecesOK x.fst
    x.snd.fst x.snd.snd.fst j.fst j.2.fst j.2.snd ∧ ((x.snd.snd.fst.length.add 1).sub j.fst).lt ((x.snd.snd.fst.length.add 1).sub i.fst) ∧ x.fst = x.fst ∧ x.snd.fst = x.snd.fst ∧
    x.snd.snd.fst = x.snd.snd.fst ∧ (↑x.snd.snd.fst.length : Int) = (↑x.snd.snd.fst.length : Int) ∧ x.snd.snd.snd = x.snd.snd.snd ∧ PL.keyedF x_1 = PL.keyedF x_1 ∧ z_2 = (↑j.2.fst
    : Int) ∧ z = (↑j.fst : Int) ∧ x.fst = x.fst ∧ PL.keyedF x_1 = PL.keyedF x_1 ∧ PL.keyedF x_1 = PL.keyedF x_1 ∧ x_6.fst.acc.a = j.snd.snd.acc.a ∧ x_6.fst.acc.b = j.snd.snd.acc.b
    ∧ x_6.fst.acc.c = j.snd.snd.acc.c ∧ x_6.fst.acc.d = j.snd.snd.acc.d ∧ x_6.fst.acc.e = j.snd.snd.acc.e ∧ x_6.fst.r.a = j.snd.snd.r.a ∧ x_6.fst.r.b = j.snd.snd.r.b ∧ x_6.fst.r.c
    = j.snd.snd.r.c ∧ x_6.fst.r.d = j.snd.snd.r.d ∧ x_6.fst.r.e = j.snd.snd.r.e ∧ x_6.1.s0 = j.snd.snd.s0 ∧ x_6.1.s1 = j.snd.snd.s1 ∧ x_6.1.rest = j.snd.snd.rest ∧ x_6.1.held =
    j.snd.snd.held ∧ True)) ∧ (¬(¬ar.seq (PL.leBytes (((PL.lastN x_5.2.fst x_5.2.snd).add x_5.1.s0).add (x_5.1.s1.mul 18446744073709551616))) (PL.tagOf x_4.fst x_4.snd) → False) →
    ∃ (y : Unit), True ∧ False)) ∧ (¬(¬ar.eq (ar.slen (PL.tagOf x_4.fst x_4.snd)) 16 → False) → ∃ (y : Unit), True ∧ False))) ∧ (¬ar.le (↑i.fst : Int) (↑x.snd.snd.fst.length : Int)
    → ∃ (y : Unit), True ∧ (ar.eq (↑i.2.fst : Int) (ar.slen x.snd.fst) ↔ true = true) ∧ True)) := by
  kernel_rfl
end Go.Eng


/- Poly: walks. -/
set_option linter.unusedVariables false
set_option linter.unusedSectionVars false
namespace Go.Eng
variable [CW : CWorld]
open Go.Proofs
open Go.PL (L5 MacS)
set_option maxRecDepth 100000
theorem vc7n (ar : AR) (x : List UInt8 × List UInt8) : (run ar PP lSpecs (lawInvs x.1 x.2 []) 1000 7 0 (Try.f7.body.getD .skip) ([.str x.1, .str x.2, .nslc] ++ List.replicate (Try.f7.ntmps - 3) .any) [] (endCall ar PP Try.f7.results.toList (piecesNilSpec.fin x))) = (
    ∃ (x_1 : List UInt8), x.fst = x_1 ∧ PL.StrOK x_1 ∧ ∀ (y : Unit), True → ∃ (x_2 : List UInt8), PL.keyedF x_1 = x_2 ∧ PL.LenOK x_2 ∧ (∀ (y : Unit), PL.NotKey x_2 → ∃ (y : Unit),
    True ∧ False) ∧ ∀ (y : MacS), PL.NewOK x_2 y → (∃ (i : Nat × Nat × MacS), PL.PiecesOK x.fst x.snd [] i.fst i.2.fst i.2.snd ∧ x.fst = x.fst ∧ x.snd = x.snd ∧ PL.keyedF x_1 =
    PL.keyedF x_1 ∧ 0 = (↑i.2.fst : Int) ∧ 0 = (↑i.fst : Int) ∧ x.fst = x.fst ∧ PL.keyedF x_1 = PL.keyedF x_1 ∧ PL.keyedF x_1 = PL.keyedF x_1 ∧ y.1.a = i.snd.snd.acc.a ∧ y.1.b =
    i.snd.snd.acc.b ∧ y.1.c = i.snd.snd.acc.c ∧ y.1.d = i.snd.snd.acc.d ∧ y.1.e = i.snd.snd.acc.e ∧ y.2.a = i.snd.snd.r.a ∧ y.2.b = i.snd.snd.r.b ∧ y.2.c = i.snd.snd.r.c ∧ y.2.d =
    i.snd.snd.r.d ∧ y.2.e = i.snd.snd.r.e ∧ y.s0 = i.snd.snd.s0 ∧ y.s1 = i.snd.snd.s1 ∧ y.rest = i.snd.snd.rest ∧ y.held = i.snd.snd.held ∧ True) ∧ ∀ (i : Nat × Nat × MacS),
    PL.PiecesOK x.fst x.snd [] i.fst i.2.fst i.2.snd → (ar.le (↑i.fst : Int) 0 → ∀ (z : Int), z = ar.wrap IntKind.i64 (ar.sub (ar.slen x.snd) (↑i.2.fst : Int)) → (ar.lt (↑i.fst :
    Int) 0 → False) ∧ (¬ar.lt (↑i.fst : Int) 0 → ∀ (z_1 : Int), z_1 = ar.wrap IntKind.i64 (ar.add (↑i.2.fst : Int) z) → ar.le 0 (↑i.2.fst : Int) ∧ ar.le (↑i.2.fst : Int) z_1 ∧
    ar.le z_1 (ar.slen x.snd) ∧ ∀ (t : List UInt8), t = ar.sext x.snd (↑i.2.fst : Int) z_1 → ∃ (x_3 : MacS × List UInt8 × Int × List UInt8), t = x_3.2.fst ∧ i.snd.snd.acc.a =
    x_3.fst.acc.a ∧ i.snd.snd.acc.b = x_3.fst.acc.b ∧ i.snd.snd.acc.c = x_3.fst.acc.c ∧ i.snd.snd.acc.d = x_3.fst.acc.d ∧ i.snd.snd.acc.e = x_3.fst.acc.e ∧ i.snd.snd.r.a =
    x_3.fst.r.a ∧ i.snd.snd.r.b = x_3.fst.r.b ∧ i.snd.snd.r.c = x_3.fst.r.c ∧ i.snd.snd.r.d = x_3.fst.r.d ∧ i.snd.snd.r.e = x_3.fst.r.e ∧ i.snd.snd.s0 = x_3.1.s0 ∧ i.snd.snd.s1 =
    x_3.1.s1 ∧ i.snd.snd.rest = x_3.1.rest ∧ i.snd.snd.held = x_3.1.held ∧ PL.WritePre x_3.snd.snd.fst x_3.snd.snd.snd x_3.2.fst x_3.fst ∧ ∀ (y : MacS), PL.Written x_3.snd.snd.fst
    x_3.snd.snd.snd x_3.2.fst x_3.fst y → ∀ (z_2 : Int), z_2 = ar.wrap IntKind.i64 (ar.add (↑i.2.fst : Int) z) → ar.le 0 z_2 ∧ ar.le z_2 (ar.slen x.snd) ∧ ∀ (t : List UInt8), t =
    ar.sext x.snd 0 z_2 → ∃ (x_4 : List UInt8 × List UInt8), PL.keyedF x_1 = x_4.fst ∧ t = x_4.snd ∧ PL.TagPre x_4.fst x_4.snd ∧ (∀ (y : Unit), PL.NotKey x_4.fst → ∃ (y : Unit),
    True ∧ False) ∧ ∀ (y_1 : Unit), PL.IsKey x_4.fst → ((¬ar.eq (ar.slen (PL.tagOf x_4.fst x_4.snd)) 16 → False) → ∃ (x_5 : MacS × Int × List UInt8), y.1.a = x_5.fst.acc.a ∧ y.1.b
    = x_5.fst.acc.b ∧ y.1.c = x_5.fst.acc.c ∧ y.1.d = x_5.fst.acc.d ∧ y.1.e = x_5.fst.acc.e ∧ y.2.a = x_5.fst.r.a ∧ y.2.b = x_5.fst.r.b ∧ y.2.c = x_5.fst.r.c ∧ y.2.d = x_5.fst.r.d
    ∧ y.2.e = x_5.fst.r.e ∧ y.s0 = x_5.1.s0 ∧ y.s1 = x_5.1.s1 ∧ y.rest = x_5.1.rest ∧ y.held = x_5.1.held ∧ PL.SumPre x_5.2.fst x_5.2.snd x_5.fst ∧ ∀ (y : Unit), True → ((¬ar.seq
    (PL.leBytes (((PL.lastN x_5.2.fst x_5.2.snd).add x_5.1.s0).add (x_5.1.s1.mul 18446744073709551616))) (PL.tagOf x_4.fst x_4.snd) → False) → ∃ (x_6 : MacS × Int × List UInt8),
    x_5.fst.acc.a = x_6.fst.acc.a ∧ x_5.fst.acc.b = x_6.fst.acc.b ∧ x_5.fst.acc.c = x_6.fst.acc.c ∧ x_5.fst.acc.d = x_6.fst.acc.d ∧ x_5.fst.acc.e = x_6.fst.acc.e ∧ x_5.fst.r.a =
    x_6.fst.r.a ∧ x_5.fst.r.b = x_6.fst.r.b ∧ x_5.fst.r.c = x_6.fst.r.c ∧ x_5.fst.r.d = x_6.fst.r.d ∧ x_5.fst.r.e = x_6.fst.r.e ∧ x_5.1.s0 = x_6.1.s0 ∧ x_5.1.s1 = x_6.1.s1 ∧
    x_5.1.rest = x_6.1.rest ∧ x_5.1.held = x_6.1.held ∧ PL.SumPre x_6.2.fst x_6.2.snd x_6.fst ∧ ∀ (y : Unit), True → (¬ar.seq (PL.leBytes (((PL.lastN x_6.2.fst x_6.2.snd).add
    x_6.1.s0).add (x_6.1.s1.mul 18446744073709551616))) (PL.tagOf x_4.fst x_4.snd) → ∃ (y : Unit), True ∧ False) ∧ (¬¬ar.seq (PL.leBytes (((PL.lastN x_6.2.fst x_6.2.snd).add
    x_6.1.s0).add (x_6.1.s1.mul 18446744073709551616))) (PL.tagOf x_4.fst x_4.snd) → ∀ (z : Int), z = ar.wrap IntKind.i64 (ar.add (↑i.fst : Int) 1) → ∃ (j : Nat × Nat × MacS),
    PL.PiecesOK x.fst x.snd [] j.fst j.2.fst j.2.snd ∧ (Nat.sub 1 j.fst).lt (Nat.sub 1 i.fst) ∧ x.fst = x.fst ∧ x.snd = x.snd ∧ PL.keyedF x_1 = PL.keyedF x_1 ∧ z_2 = (↑j.2.fst :
    Int) ∧ z = (↑j.fst : Int) ∧ x.fst = x.fst ∧ PL.keyedF x_1 = PL.keyedF x_1 ∧ PL.keyedF x_1 = PL.keyedF x_1 ∧ x_6.fst.acc.a = j.snd.snd.acc.a ∧ x_6.fst.acc.b = j.snd.snd.acc.b ∧
    x_6.fst.acc.c = j.snd.snd.acc.c ∧ x_6.fst.acc.d = j.snd.snd.acc.d ∧ x_6.fst.acc.e = j.snd.snd.acc.e ∧ x_6.fst.r.a = j.snd.snd.r.a ∧ x_6.fst.r.b = j.snd.snd.r.b ∧ x_6.fst.r.c =
    j.snd.snd.r.c ∧ x_6.fst.r.d = j.snd.snd.r.d ∧ x_6.fst.r.e = j.snd.snd.r.e ∧ x_6.1.s0 = j.snd.snd.s0 ∧ x_6.1.s1 = j.snd.snd.s1 ∧ x_6.1.rest = j.snd.snd.rest ∧ x_6.1.held =
    j.snd.snd.held ∧ True)) ∧ (¬(¬ar.seq (PL.leBytes (((PL.lastN x_5.2.fst x_5.2.snd).add x_5.1.s0).add (x_5.1.s1.mul 18446744073709551616))) (PL.tagOf x_4.fst x_4.snd) → False) →
    ∃ (y : Unit), True ∧ False)) ∧ (¬(¬ar.eq (ar.slen (PL.tagOf x_4.fst x_4.snd)) 16 → False) → ∃ (y : Unit), True ∧ False))) ∧ (¬ar.le (↑i.fst : Int) 0 → ∃ (y : Unit), True ∧
    (ar.eq (↑i.2.fst : Int) (ar.slen x.snd) ↔ true = true) ∧ True)) := by
  kernel_rfl
end Go.Eng


set_option linter.unusedSimpArgs false
set_option linter.unusedVariables false
set_option maxRecDepth 100000
set_option linter.unusedSectionVars false
namespace Go.Eng
variable [CW : CWorld]
open Go.Proofs
open Go.PL (L5 MacS)

theorem s_bounds {K : List UInt8} (hl : K.length = 32) : (0 ≤ PL.leI (PL.ints ((K.drop 16).take 8)) ∧ PL.leI (PL.ints ((K.drop 16).take 8)) < 18446744073709551616) ∧ 0 ≤ PL.leI (PL.ints (K.drop 24)) ∧ PL.leI (PL.ints (K.drop 24)) < 18446744073709551616 := by
  have b0 := leI_bound _ (PL.ints_bytes ((K.drop 16).take 8))
  have b1 := leI_bound _ (PL.ints_bytes (K.drop 24))
  rw [PL.ints_length, show ((K.drop 16).take 8).length = 8 by simp; omega] at b0
  rw [PL.ints_length, show (K.drop 24).length = 8 by simp; omega] at b1
  omega
theorem sum_tag {K u : List UInt8} (hl : K.length = 32) {m : MacS} (h0 : m.s0 = PL.leI (PL.ints ((K.drop 16).take 8))) (h1 : m.s1 = PL.leI (PL.ints (K.drop 24))) :
    PL.leBytes (PL.lastN (PL.rOf K) u + m.s0 + m.s1 * 18446744073709551616) = PL.tagOf K u := by
  show _ = PL.leBytes (PL.lastN (PL.rOf K) u + PL.sOf K)
  rw [sOf_eq hl, h0, h1, Int.add_assoc]
theorem sum_pre {K u : List UInt8} (hl : K.length = 32) {m : MacS} (hm : PL.MacOK (PL.rOf K) u m) (h0 : m.s0 = PL.leI (PL.ints ((K.drop 16).take 8))) (h1 : m.s1 = PL.leI (PL.ints (K.drop 24))) : PL.SumPre (PL.rOf K) u m := by
  obtain ⟨b0, b1⟩ := s_bounds hl
  exact ⟨hm, by rw [h0]; exact b0, by rw [h1]; exact b1⟩
theorem take_more (T : List UInt8) (a n : Nat) : T.take a ++ (T.take (a + n)).drop a = T.take (a + n) := by
  rw [List.take_add, List.drop_append, List.drop_take]
  by_cases h : a ≤ T.length
  · simp [List.length_take, Nat.min_eq_left h]
  · rw [List.drop_eq_nil_of_le (by omega)]; simp
theorem not_not_imp {p : Prop} (h : p) : ¬ p → False := fun g => g h


set_option maxHeartbeats 1000000 in
theorem piecesNilSpec_ok : piecesNilSpec.OK PP 7 := by
  refine Spec.ok_of_run (fn := Try.f7) (c := Try.f7.body.getD .skip) (by kernel_rfl) (by kernel_rfl) (by kernel_rfl) lSpecs_ok (fun x => lawInvs x.1 x.2 []) 1000 ?_
  rintro ⟨s, T⟩ ⟨hs, hT⟩
  refine (vc7n ar0 (s, T)).mpr ?_
  have hTl : T.length ≤ 140737488351232 := hT.len
  generalize hcuts : ([] : List Int) = cuts
  have hcl : cuts.length = 0 := by rw [← hcuts]; rfl
  have hKl := keyedF_length s
  have tp : ∀ k u : List UInt8, k.length = 32 → u.length ≤ T.length → PL.TagPre k u := fun k u h1 h2 => ⟨⟨by omega⟩, by omega⟩
  simp only [ars]
  refine ⟨s, rfl, hs, fun _ _ => ⟨PL.keyedF s, rfl, ⟨by omega⟩, fun _ h => absurd h (not_notKey hKl), fun m0 hm0 => ⟨?_, ?_⟩⟩⟩
  · refine ⟨(0, 0, m0), ⟨by show 0 ≤ _; omega, by show 0 ≤ _; omega, fun h => by simp at h, by simpa using hm0.ok, hm0.s0, hm0.s1⟩, ?_⟩
    and_intros <;> first | rfl | trivial
  · rintro ⟨i, at_, m⟩ hok
    dsimp only at hok ⊢
    have hi := hok.hi
    have hle := hok.le
    refine ⟨fun hile => ?_, fun hgt => ?_⟩
    · intro z hz
      replace hz : z = ((T.length - at_ : Nat) : Int) := by rw [hz]; rw [wrap_i64 (by show _ ≤ (T.length : Int) - (at_ : Int); omega) (by show (T.length : Int) - (at_ : Int) < _; omega)]; show (T.length : Int) - (at_ : Int) = _; omega

      refine ⟨fun h => ?_, fun _ => ?_⟩
      · exact absurd h (by show ¬ (i : Int) < 0; omega)
      · obtain ⟨n, hnd⟩ : ∃ n : Nat, n = T.length - at_ := ⟨_, rfl⟩
        rw [← hnd] at hz
        have hn : at_ + n ≤ T.length := by omega
        intro q hq
        rw [hz, wrap_i64 (by omega) (by omega)] at hq
        refine ⟨by omega, by omega, by omega, ?_⟩
        intro t ht
        replace ht : t = (T.take (at_ + n)).drop at_ := by rw [ht, hq, show ((at_ : Int) + (n : Int)).toNat = at_ + n by omega, Int.toNat_natCast]
        have hcat : T.take at_ ++ t = T.take (at_ + n) := by rw [ht]; exact take_more T at_ n
        have htl : t.length ≤ T.length := by rw [ht]; simp; omega
        refine ⟨(m, t, PL.rOf (PL.keyedF s), T.take at_), rfl, rfl, rfl, rfl, rfl, rfl, rfl, rfl, rfl, rfl, rfl, rfl, rfl, rfl, rfl, ⟨hok.ok, by show t.length < _; omega⟩, fun m1 hm1 => ?_⟩
        have hm1ok : PL.MacOK (PL.rOf (PL.keyedF s)) (T.take (at_ + n)) m1 := by rw [← hcat]; exact hm1.ok
        have g0 := hm1.s0.trans hok.s0
        have g1 := hm1.s1.trans hok.s1
        intro q2 hq2
        rw [hz, wrap_i64 (by omega) (by omega)] at hq2
        refine ⟨by omega, by omega, ?_⟩
        intro u hu
        replace hu : u = T.take (at_ + n) := by rw [hu, hq2, show ((at_ : Int) + (n : Int)).toNat = at_ + n by omega]; rfl
        rw [← hu] at hm1ok
        have hul : u.length ≤ T.length := by rw [hu]; simp; omega
        have hs := sum_tag (u := u) hKl g0 g1
        have hpre := sum_pre hKl hm1ok g0 g1
        have h16 : ((PL.tagOf (PL.keyedF s) u).length : Int) = 16 := by rw [tagOf_length]; rfl
        refine ⟨((PL.keyedF s), u), rfl, rfl, tp _ _ hKl hul, fun _ h => absurd h (not_notKey hKl), fun _ _ => ⟨fun _ => ?_, fun h => absurd (fun g : ¬ ((PL.tagOf (PL.keyedF s) u).length : Int) = 16 => g h16) h⟩⟩
        refine ⟨(m1, PL.rOf (PL.keyedF s), u), rfl, rfl, rfl, rfl, rfl, rfl, rfl, rfl, rfl, rfl, rfl, rfl, rfl, rfl, hpre, fun _ _ => ⟨fun _ => ?_, fun h => absurd (not_not_imp hs) h⟩⟩
        refine ⟨(m1, PL.rOf (PL.keyedF s), u), rfl, rfl, rfl, rfl, rfl, rfl, rfl, rfl, rfl, rfl, rfl, rfl, rfl, rfl, hpre, fun _ _ => ⟨fun h => absurd hs h, fun _ => ?_⟩⟩
        intro w hw
        rw [wrap_i64 (by omega) (by omega)] at hw
        refine ⟨(i + 1, at_ + n, m1), ⟨by show i + 1 ≤ _; omega, hn, fun _ => by show at_ + n = T.length; omega, by rw [← hu]; exact hm1ok, g0, g1⟩, by show _ - (i + 1) < _ - i; omega, ?_⟩
        and_intros <;> first | rfl | trivial | exact hq2.trans (by show (at_ : Int) + (n : Int) = ((at_ + n : Nat) : Int); omega) | exact hw.trans (by show (i : Int) + 1 = ((i + 1 : Nat) : Int); omega)
    · refine ⟨(), trivial, ⟨fun _ => trivial, fun _ => ?_⟩, ?_⟩
      · have := hok.last (by show i = _; have : ¬ (i : Int) ≤ 0 := hgt; omega)
        show (at_ : Int) = (T.length : Int)
        have : at_ = T.length := this
        omega
      · and_intros <;> first | rfl | trivial

set_option maxHeartbeats 1000000 in
theorem piecesSpec_ok : piecesSpec.OK PP 7 := by
  refine Spec.ok_of_run (fn := Try.f7) (c := Try.f7.body.getD .skip) (by kernel_rfl) (by kernel_rfl) (by kernel_rfl) lSpecs_ok (fun x => lawInvs x.1 x.2.1 x.2.2.1) 1000 ?_
  rintro ⟨s, T, cuts, cap⟩ ⟨hs, hT, hI, hcap⟩
  refine (vc7 ar0 (s, T, cuts, cap)).mpr ?_
  have hTl : T.length ≤ 140737488351232 := hT.len
  have hcl : cuts.length ≤ 140737488351232 := hI.len
  have hcb : ∀ x ∈ cuts, -9223372036854775808 ≤ x ∧ x < 9223372036854775808 := hI.b
  have hKl := keyedF_length s
  have tp : ∀ k u : List UInt8, k.length = 32 → u.length ≤ T.length → PL.TagPre k u := fun k u h1 h2 => ⟨⟨by omega⟩, by omega⟩
  simp only [ars]
  refine ⟨s, rfl, hs, fun _ _ => ⟨PL.keyedF s, rfl, ⟨by omega⟩, fun _ h => absurd h (not_notKey hKl), fun m0 hm0 => ⟨?_, ?_⟩⟩⟩
  · refine ⟨(0, 0, m0), ⟨by show 0 ≤ _; omega, by show 0 ≤ _; omega, fun h => by simp at h, by simpa using hm0.ok, hm0.s0, hm0.s1⟩, ?_⟩
    and_intros <;> first | rfl | trivial
  · rintro ⟨i, at_, m⟩ hok
    dsimp only at hok ⊢
    have hi := hok.hi
    have hle := hok.le
    refine ⟨fun hile => ?_, fun hgt => ?_⟩
    · intro z hz
      replace hz : z = ((T.length - at_ : Nat) : Int) := by rw [hz]; rw [wrap_i64 (by show _ ≤ (T.length : Int) - (at_ : Int); omega) (by show (T.length : Int) - (at_ : Int) < _; omega)]; show (T.length : Int) - (at_ : Int) = _; omega

      refine ⟨fun hilt => ?_, fun hige => ?_⟩
      · replace hilt : i < cuts.length := by
          have : (i : Int) < (cuts.length : Int) := hilt
          omega
        refine ⟨by omega, by show (i : Int) < (cuts.length : Int); omega, ?_⟩
        intro c0 hc0 c1 hc1 c2 hc2
        have hcm : -9223372036854775808 ≤ cuts.getD i 0 ∧ cuts.getD i 0 < 9223372036854775808 := by
          have : cuts.getD i 0 = cuts[i] := by simp [List.getD, hilt]
          rw [this]
          exact hcb _ (List.getElem_mem hilt)
        have e0 : c0 = (cuts.getD i 0).tmod 40 := hc0
        have b0 : -40 < c0 ∧ c0 < 40 := by
          rw [e0]
          exact ⟨Int.lt_tmod_of_pos _ (by omega), Int.tmod_lt_of_pos _ (by omega)⟩
        rw [wrap_i64 (by omega) (by omega)] at hc1
        have b2 : 0 ≤ c2 ∧ c2 < 40 := by
          rw [hc2]
          exact ⟨Int.tmod_nonneg _ (by omega), Int.tmod_lt_of_pos _ (by omega)⟩
        refine ⟨fun hless => ?_, fun hmore => ?_⟩
        · obtain ⟨n, hnd⟩ : ∃ n : Nat, c2 = (n : Int) := ⟨c2.toNat, by omega⟩
          have hn : at_ + n ≤ T.length := by omega
          intro q hq
          rw [hnd, wrap_i64 (by omega) (by omega)] at hq
          refine ⟨by omega, by omega, by omega, ?_⟩
          intro t ht
          replace ht : t = (T.take (at_ + n)).drop at_ := by rw [ht, hq, show ((at_ : Int) + (n : Int)).toNat = at_ + n by omega, Int.toNat_natCast]
          have hcat : T.take at_ ++ t = T.take (at_ + n) := by rw [ht]; exact take_more T at_ n
          have htl : t.length ≤ T.length := by rw [ht]; simp; omega
          refine ⟨(m, t, PL.rOf (PL.keyedF s), T.take at_), rfl, rfl, rfl, rfl, rfl, rfl, rfl, rfl, rfl, rfl, rfl, rfl, rfl, rfl, rfl, ⟨hok.ok, by show t.length < _; omega⟩, fun m1 hm1 => ?_⟩
          have hm1ok : PL.MacOK (PL.rOf (PL.keyedF s)) (T.take (at_ + n)) m1 := by rw [← hcat]; exact hm1.ok
          have g0 := hm1.s0.trans hok.s0
          have g1 := hm1.s1.trans hok.s1
          intro q2 hq2
          rw [hnd, wrap_i64 (by omega) (by omega)] at hq2
          refine ⟨by omega, by omega, ?_⟩
          intro u hu
          replace hu : u = T.take (at_ + n) := by rw [hu, hq2, show ((at_ : Int) + (n : Int)).toNat = at_ + n by omega]; rfl
          rw [← hu] at hm1ok
          have hul : u.length ≤ T.length := by rw [hu]; simp; omega
          have hs := sum_tag (u := u) hKl g0 g1
          have hpre := sum_pre hKl hm1ok g0 g1
          have h16 : ((PL.tagOf (PL.keyedF s) u).length : Int) = 16 := by rw [tagOf_length]; rfl
          refine ⟨((PL.keyedF s), u), rfl, rfl, tp _ _ hKl hul, fun _ h => absurd h (not_notKey hKl), fun _ _ => ⟨fun _ => ?_, fun h => absurd (fun g : ¬ ((PL.tagOf (PL.keyedF s) u).length : Int) = 16 => g h16) h⟩⟩
          refine ⟨(m1, PL.rOf (PL.keyedF s), u), rfl, rfl, rfl, rfl, rfl, rfl, rfl, rfl, rfl, rfl, rfl, rfl, rfl, rfl, hpre, fun _ _ => ⟨fun _ => ?_, fun h => absurd (not_not_imp hs) h⟩⟩
          refine ⟨(m1, PL.rOf (PL.keyedF s), u), rfl, rfl, rfl, rfl, rfl, rfl, rfl, rfl, rfl, rfl, rfl, rfl, rfl, rfl, hpre, fun _ _ => ⟨fun h => absurd hs h, fun _ => ?_⟩⟩
          intro w hw
          rw [wrap_i64 (by omega) (by omega)] at hw
          refine ⟨(i + 1, at_ + n, m1), ⟨by show i + 1 ≤ _; omega, hn, fun h => by have h : i + 1 = cuts.length + 1 := h; omega, by rw [← hu]; exact hm1ok, g0, g1⟩, by show _ - (i + 1) < _ - i; omega, ?_⟩
          and_intros <;> first | rfl | trivial | exact hq2.trans (by show (at_ : Int) + (n : Int) = ((at_ + n : Nat) : Int); omega) | exact hw.trans (by show (i : Int) + 1 = ((i + 1 : Nat) : Int); omega)
        · obtain ⟨n, hnd⟩ : ∃ n : Nat, n = T.length - at_ := ⟨_, rfl⟩
          rw [← hnd] at hz
          have hn : at_ + n ≤ T.length := by omega
          intro q hq
          rw [hz, wrap_i64 (by omega) (by omega)] at hq
          refine ⟨by omega, by omega, by omega, ?_⟩
          intro t ht
          replace ht : t = (T.take (at_ + n)).drop at_ := by rw [ht, hq, show ((at_ : Int) + (n : Int)).toNat = at_ + n by omega, Int.toNat_natCast]
          have hcat : T.take at_ ++ t = T.take (at_ + n) := by rw [ht]; exact take_more T at_ n
          have htl : t.length ≤ T.length := by rw [ht]; simp; omega
          refine ⟨(m, t, PL.rOf (PL.keyedF s), T.take at_), rfl, rfl, rfl, rfl, rfl, rfl, rfl, rfl, rfl, rfl, rfl, rfl, rfl, rfl, rfl, ⟨hok.ok, by show t.length < _; omega⟩, fun m1 hm1 => ?_⟩
          have hm1ok : PL.MacOK (PL.rOf (PL.keyedF s)) (T.take (at_ + n)) m1 := by rw [← hcat]; exact hm1.ok
          have g0 := hm1.s0.trans hok.s0
          have g1 := hm1.s1.trans hok.s1
          intro q2 hq2
          rw [hz, wrap_i64 (by omega) (by omega)] at hq2
          refine ⟨by omega, by omega, ?_⟩
          intro u hu
          replace hu : u = T.take (at_ + n) := by rw [hu, hq2, show ((at_ : Int) + (n : Int)).toNat = at_ + n by omega]; rfl
          rw [← hu] at hm1ok
          have hul : u.length ≤ T.length := by rw [hu]; simp; omega
          have hs := sum_tag (u := u) hKl g0 g1
          have hpre := sum_pre hKl hm1ok g0 g1
          have h16 : ((PL.tagOf (PL.keyedF s) u).length : Int) = 16 := by rw [tagOf_length]; rfl
          refine ⟨((PL.keyedF s), u), rfl, rfl, tp _ _ hKl hul, fun _ h => absurd h (not_notKey hKl), fun _ _ => ⟨fun _ => ?_, fun h => absurd (fun g : ¬ ((PL.tagOf (PL.keyedF s) u).length : Int) = 16 => g h16) h⟩⟩
          refine ⟨(m1, PL.rOf (PL.keyedF s), u), rfl, rfl, rfl, rfl, rfl, rfl, rfl, rfl, rfl, rfl, rfl, rfl, rfl, rfl, hpre, fun _ _ => ⟨fun _ => ?_, fun h => absurd (not_not_imp hs) h⟩⟩
          refine ⟨(m1, PL.rOf (PL.keyedF s), u), rfl, rfl, rfl, rfl, rfl, rfl, rfl, rfl, rfl, rfl, rfl, rfl, rfl, rfl, hpre, fun _ _ => ⟨fun h => absurd hs h, fun _ => ?_⟩⟩
          intro w hw
          rw [wrap_i64 (by omega) (by omega)] at hw
          refine ⟨(i + 1, at_ + n, m1), ⟨by show i + 1 ≤ _; omega, hn, fun _ => by show at_ + n = T.length; omega, by rw [← hu]; exact hm1ok, g0, g1⟩, by show _ - (i + 1) < _ - i; omega, ?_⟩
          and_intros <;> first | rfl | trivial | exact hq2.trans (by show (at_ : Int) + (n : Int) = ((at_ + n : Nat) : Int); omega) | exact hw.trans (by show (i : Int) + 1 = ((i + 1 : Nat) : Int); omega)
      · obtain ⟨n, hnd⟩ : ∃ n : Nat, n = T.length - at_ := ⟨_, rfl⟩
        rw [← hnd] at hz
        have hn : at_ + n ≤ T.length := by omega
        intro q hq
        rw [hz, wrap_i64 (by omega) (by omega)] at hq
        refine ⟨by omega, by omega, by omega, ?_⟩
        intro t ht
        replace ht : t = (T.take (at_ + n)).drop at_ := by rw [ht, hq, show ((at_ : Int) + (n : Int)).toNat = at_ + n by omega, Int.toNat_natCast]
        have hcat : T.take at_ ++ t = T.take (at_ + n) := by rw [ht]; exact take_more T at_ n
        have htl : t.length ≤ T.length := by rw [ht]; simp; omega
        refine ⟨(m, t, PL.rOf (PL.keyedF s), T.take at_), rfl, rfl, rfl, rfl, rfl, rfl, rfl, rfl, rfl, rfl, rfl, rfl, rfl, rfl, rfl, ⟨hok.ok, by show t.length < _; omega⟩, fun m1 hm1 => ?_⟩
        have hm1ok : PL.MacOK (PL.rOf (PL.keyedF s)) (T.take (at_ + n)) m1 := by rw [← hcat]; exact hm1.ok
        have g0 := hm1.s0.trans hok.s0
        have g1 := hm1.s1.trans hok.s1
        intro q2 hq2
        rw [hz, wrap_i64 (by omega) (by omega)] at hq2
        refine ⟨by omega, by omega, ?_⟩
        intro u hu
        replace hu : u = T.take (at_ + n) := by rw [hu, hq2, show ((at_ : Int) + (n : Int)).toNat = at_ + n by omega]; rfl
        rw [← hu] at hm1ok
        have hul : u.length ≤ T.length := by rw [hu]; simp; omega
        have hs := sum_tag (u := u) hKl g0 g1
        have hpre := sum_pre hKl hm1ok g0 g1
        have h16 : ((PL.tagOf (PL.keyedF s) u).length : Int) = 16 := by rw [tagOf_length]; rfl
        refine ⟨((PL.keyedF s), u), rfl, rfl, tp _ _ hKl hul, fun _ h => absurd h (not_notKey hKl), fun _ _ => ⟨fun _ => ?_, fun h => absurd (fun g : ¬ ((PL.tagOf (PL.keyedF s) u).length : Int) = 16 => g h16) h⟩⟩
        refine ⟨(m1, PL.rOf (PL.keyedF s), u), rfl, rfl, rfl, rfl, rfl, rfl, rfl, rfl, rfl, rfl, rfl, rfl, rfl, rfl, hpre, fun _ _ => ⟨fun _ => ?_, fun h => absurd (not_not_imp hs) h⟩⟩
        refine ⟨(m1, PL.rOf (PL.keyedF s), u), rfl, rfl, rfl, rfl, rfl, rfl, rfl, rfl, rfl, rfl, rfl, rfl, rfl, rfl, hpre, fun _ _ => ⟨fun h => absurd hs h, fun _ => ?_⟩⟩
        intro w hw
        rw [wrap_i64 (by omega) (by omega)] at hw
        refine ⟨(i + 1, at_ + n, m1), ⟨by show i + 1 ≤ _; omega, hn, fun _ => by show at_ + n = T.length; omega, by rw [← hu]; exact hm1ok, g0, g1⟩, by show _ - (i + 1) < _ - i; omega, ?_⟩
        and_intros <;> first | rfl | trivial | exact hq2.trans (by show (at_ : Int) + (n : Int) = ((at_ + n : Nat) : Int); omega) | exact hw.trans (by show (i : Int) + 1 = ((i + 1 : Nat) : Int); omega)
    · refine ⟨(), trivial, ⟨fun _ => trivial, fun _ => ?_⟩, ?_⟩
      · have := hok.last (by show i = _; have : ¬ (i : Int) ≤ (cuts.length : Int) := hgt; omega)
        show (at_ : Int) = (T.length : Int)
        have : at_ = T.length := this
        omega
      · and_intros <;> first | rfl | trivial
end Go.Eng
