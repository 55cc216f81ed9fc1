/- Every run of IndexEncodes answers true: the row 'IndexEncodesSaid'. -/
import Derived.Test.YtfcjboomlfjanaaIndexEE
import Derived.Test.YtfcjboomlfjanaaEngC
import Derived.Test.YtfcjboomlfjanaaRows
import Derived.WalkKit
import Derived.ProofKit
import Derived.OpenShut
import Derived.ShutString
import Derived.ChangeOld
import Derived.Below
import Derived.Carry
import Derived.SizedLaws
set_option linter.unusedVariables false
set_option linter.unusedSimpArgs false

namespace Go.Proofs.Ytfcjboomlfjanaa.lawIndexEncodes
open Go.ChangeShapes Go.WideShapes Go.ChangeAt Go.RowKit
open Go.ChangeMaps (open_string shut_string)
open Go.Eng
set_option linter.unusedVariables false
theorem own : ownKnob Try.prog.godebug = none := by kernel_rfl
theorem laidOut : laidOutB Try.prog = true := by kernel_rfl
theorem bytes_length (b : ByteArray) : b.data.toList.length = b.size := Array.length_toList
theorem i64_range {n : Int} (h : (Lit.int .i64 n).wf = true) : -9223372036854775808 ≤ n ∧ n < 9223372036854775808 := by
  have := bounds_i64 h
  omega
set_option maxRecDepth 100000 in
theorem lifted (os : Os) (started : os.Started) (H : Type) (enc : TypeId × Value → H) :
    ReturnsInHanded {} Try.checked os 6 .any (Rows.indexEncodesSpec.pre6 enc Try.prog Try.f6 Rows.indexEncodesRow.domain false) (Rows.indexEncodesSpec.post enc Try.prog Try.f6 false true false false) := by
  refine returnsInHanded_of_change_sized (C := Try.checked) own started (by kernel_rfl) Try.func6
    (ChangeSpec.witness6 (enc := enc) (C := Try.checked) false ⟨#[], #[.agg #[.int .i64 0, .int .i64 0, .int .i64 0, .int .i64 0, .int .i64 0, .int .i64 0], .agg #[.int .i64 0, .int .i64 0, .slice none 0 0], .agg #[.slice none 0 0, .slice none 0 0]], []⟩ 8 (by kernel_rfl) (by kernel_rfl) (by kernel_rfl) (by kernel_rfl)) ?_
  intro W base args ds gs before hval0 hW hcnd hsz0 _
  have hsz : (DataW.weightsEach Try.prog (Try.f6.params.toList ++ Rows.indexEncodesSpec.plain.varTypes Try.prog) (ds ++ gs)).all (· ≤ reachBytes) = true := hsz0
  have hval : ∀ (j : Nat) t v, Try.f6.params[j]? = some t → args[j]? = some v → Value.okWide Try.prog W .any base t v := hval0
  have hW' := hW
  obtain ⟨p, q, hA0, hV, rfl, hfz, hnd⟩ := hW
  have hA : DataW.TrodAll enc Try.prog W 0 (fun _ => true) true Try.f6.params.toList args.toList ds p := hA0
  rw [Try.params6] at hA hval hsz
  obtain ⟨v0, vs0, d0, ds0, p0, q0, hargs, rfl, rfl, h0, r0⟩ := trodAll_cons hA
  obtain ⟨v1, vs1, d1, ds1, p1, q1, rfl, rfl, rfl, h1, r1⟩ := trodAll_cons r0
  obtain ⟨v2, vs2, d2, ds2, p2, q2, rfl, rfl, rfl, h2, r2⟩ := trodAll_cons r1
  obtain ⟨rfl, rfl, rfl⟩ := trodAll_nil r2
  obtain rfl : args = #[v0, v1, v2] := by cases args; simp_all
  obtain ⟨rfl, rfl⟩ := trodVars_none hV
  have k0 := h0
  have lt0 : ∀ x ∈ p0, x.block < W.heap.size := by obtain ⟨m, hm⟩ := k0; exact DataW.trod_lt m _ _ _ hm
  have k1 := h1
  have lt1 : ∀ x ∈ p1, x.block < W.heap.size := by obtain ⟨m, hm⟩ := k1; exact DataW.trod_lt m _ _ _ hm
  have k2 := h2
  have lt2 : ∀ x ∈ p2, x.block < W.heap.size := by obtain ⟨m, hm⟩ := k2; exact DataW.trod_lt m _ _ _ hm
  have key : Calls Try.prog 6 #[v0, v1, v2] W fun e W' => e = .returned (.bool true) ∧ Below W.heap.size W W' := by
    obtain ⟨sv0, den0, good0⟩ := open_agg3 (n := 20) (ks := [.f (.i .i64), .f (.i .i64), .f (.i .i64), .f (.i .i64), .f (.i .i64), .f (.i .i64)]) (j := 0) Try.underlying23 (by kernel_rfl) (hval 0 23 v0 rfl rfl) h0 hsz rfl rfl
    simp only [Good3, Kd3.good] at good0
    obtain ⟨sv1, den1, good1⟩ := open_agg3 (n := 20) (ks := [.f (.i .i64), .f (.i .i64), .sl [.i .i64, .i .i64, .i .i64, .s, .i .i64] 48]) (j := 1) Try.underlying56 (by kernel_rfl) (hval 1 56 v1 rfl rfl) h1 hsz rfl rfl
    simp only [Good3, Kd3.good] at good1
    obtain ⟨sv2, den2, good2⟩ := open_agg3 (n := 20) (ks := [.sl [.s, .s, .i .i64, .i .i64] 48, .sl [.i .i64] 8]) (j := 2) Try.underlying59 (by kernel_rfl) (hval 2 59 v2 rfl rfl) h2 hsz rfl rfl
    simp only [Good3, Kd3.good] at good2
    obtain ⟨_, _, rfl, ⟨n0, rfl, z0⟩, _, _, rfl, ⟨n1, rfl, z1⟩, _, _, rfl, ⟨n2, rfl, z2⟩, _, _, rfl, ⟨n3, rfl, z3⟩, _, _, rfl, ⟨n4, rfl, z4⟩, _, _, rfl, ⟨n5, rfl, z5⟩, rfl⟩ := good0
    obtain ⟨_, _, rfl, ⟨m0, rfl, _⟩, _, _, rfl, ⟨m1, rfl, _⟩, _, _, rfl, ⟨f, len, cap, rfl, hlc, hcap, hok⟩, rfl⟩ := good1
    obtain ⟨_, _, rfl, ⟨g, ol, oc, rfl, holc, hocap, hook⟩, _, _, rfl, ⟨e, ql, qc, rfl, hqlc, hqcap, hqok⟩, rfl⟩ := good2
    letI : CWorld := ⟨W⟩
    have hr : reachBytes = 140737488351232 := rfl
    exact Spec.law lencSpec_ok (⟨n0, n1, n2, n3, n4, n5⟩, ⟨m0, m1, ⟨(List.range len).map (fun i => Value.toI (f i 0)), (List.range len).map (fun i => Value.toI (f i 1)), (List.range len).map (fun i => Value.toI (f i 2)), (List.range len).map (fun i => Value.toS (f i 3)), (List.range len).map (fun i => Value.toI (f i 4)), len, cap⟩⟩, ⟨⟨(List.range ol).map (fun i => Value.toS (g i 0)), (List.range ol).map (fun i => Value.toS (g i 1)), (List.range ol).map (fun i => Value.toI (g i 2)), (List.range ol).map (fun i => Value.toI (g i 3)), ol, oc⟩, (List.range ql).map (fun i => Value.toI (e i 0)), ql, qc⟩) ⟨⟨by simp, by simp, by simp, by simp, by simp, by simp only; omega⟩, ⟨⟨by simp, by simp, by simp, by simp, by simp only; omega⟩, by simp, by simp only; omega⟩, by simp only; omega, by simp only; omega, by simp only; omega, by simp only; omega⟩ rfl rfl (vs := [v0, v1, v2]) ⟨_, _, rfl, den0, _, _, rfl, den1, _, _, rfl, den2, rfl⟩
  clear hA0 hval0 hsz0 hsz
  refine key.mono fun e W' ⟨he, bel⟩ => ?_
  subst he
  exact ⟨_, rfl, _, _, _, [], _, [], hW', trodAll_mk1 (shut_bool Try.underlying4 _), (trodAll_cons_mk (Below.trod laidOut (by kernel_rfl) (of_decide_eq_true (by kernel_rfl)) k0 bel lt0) (trodAll_cons_mk (Below.trod laidOut (by kernel_rfl) (of_decide_eq_true (by kernel_rfl)) k1 bel lt1) (trodAll_cons_mk (Below.trod laidOut (by kernel_rfl) (of_decide_eq_true (by kernel_rfl)) k2 bel lt2) trodAll_mk0))), rfl, bel.frame _, fun h => by cases h⟩
theorem over : Rows.indexEncodesRow.holds Try.pinned (OpenSpec.ofChange Rows.indexEncodesSpec) :=
  OpenClaim.holds_of_wide 6 Try.f6 rfl rfl rfl rfl rfl rfl rfl ⟨rfl, rfl, rfl, rfl, rfl⟩ rfl rfl rfl rfl rfl (by kernel_rfl) Try.func6 (by kernel_rfl)
    (of_decide_eq_true (by kernel_rfl)) (by unfold Func.isWrapper; first | (rw [if_pos (by decide +kernel)]; kernel_rfl) | (rw [if_neg (by decide +kernel)]; exact ⟨rfl, rfl⟩))
    (fun os started H enc _ => lifted os started H enc)
theorem proved : Rows.IndexEncodesSaid := over
end Go.Proofs.Ytfcjboomlfjanaa.lawIndexEncodes
namespace Go.Proofs.Ytfcjboomlfjanaa
/-- The row, under a short name. -/
theorem indexEncodes_holds : Rows.IndexEncodesSaid := lawIndexEncodes.proved
end Go.Proofs.Ytfcjboomlfjanaa
