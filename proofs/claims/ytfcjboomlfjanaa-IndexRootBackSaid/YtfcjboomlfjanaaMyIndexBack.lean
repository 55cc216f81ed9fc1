/- Every run of IndexRootBack answers true: the row 'IndexRootBackSaid'. -/
import Derived.Test.YtfcjboomlfjanaaIndexC
import Derived.Test.YtfcjboomlfjanaaEngC
import Derived.Test.YtfcjboomlfjanaaRows
import Derived.WalkKit
import Derived.ProofKit
import Derived.OpenShut
import Derived.ShutString
import Derived.ChangeOld
import Derived.Below
import Derived.Carry
import Derived.SizedLaws
set_option linter.unusedVariables false
set_option linter.unusedSimpArgs false

namespace Go.Proofs.Ytfcjboomlfjanaa.lawIndexRootBack
open Go.ChangeShapes Go.WideShapes Go.ChangeAt Go.RowKit
open Go.ChangeMaps (open_string shut_string)
open Go.Eng
set_option linter.unusedVariables false
theorem own : ownKnob Try.prog.godebug = none := by kernel_rfl
theorem laidOut : laidOutB Try.prog = true := by kernel_rfl
theorem bytes_length (b : ByteArray) : b.data.toList.length = b.size := Array.length_toList
theorem i64_range {n : Int} (h : (Lit.int .i64 n).wf = true) : -9223372036854775808 ≤ n ∧ n < 9223372036854775808 := by
  have := bounds_i64 h
  omega
set_option maxRecDepth 100000 in
theorem lifted (os : Os) (started : os.Started) (H : Type) (enc : TypeId × Value → H) :
    ReturnsInHanded {} Try.checked os 5 .any (Rows.indexRootBackSpec.pre6 enc Try.prog Try.f5 Rows.indexRootBackRow.domain false) (Rows.indexRootBackSpec.post enc Try.prog Try.f5 false true false false) := by
  refine returnsInHanded_of_change_sized (C := Try.checked) own started (by kernel_rfl) Try.func5
    (ChangeSpec.witness6 (enc := enc) (C := Try.checked) false ⟨#[], #[.agg #[.int .i64 0, .int .i64 0, .int .i64 0, .int .i64 0, .int .i64 0, .int .i64 0], .slice none 0 0, .int .i64 0, .int .i64 0, .agg #[.int .i64 0, .int .i64 0, .int .i64 0, .int .i64 0, .int .i64 0, .int .i64 0]], []⟩ 8 (by kernel_rfl) (by kernel_rfl) (by kernel_rfl) (by kernel_rfl)) ?_
  intro W base args ds gs before hval0 hW hcnd hsz0 _
  have hsz : (DataW.weightsEach Try.prog (Try.f5.params.toList ++ Rows.indexRootBackSpec.plain.varTypes Try.prog) (ds ++ gs)).all (· ≤ reachBytes) = true := hsz0
  have hval : ∀ (j : Nat) t v, Try.f5.params[j]? = some t → args[j]? = some v → Value.okWide Try.prog W .any base t v := hval0
  have hW' := hW
  obtain ⟨p, q, hA0, hV, rfl, hfz, hnd⟩ := hW
  have hA : DataW.TrodAll enc Try.prog W 0 (fun _ => true) true Try.f5.params.toList args.toList ds p := hA0
  rw [Try.params5] at hA hval hsz
  obtain ⟨v0, vs0, d0, ds0, p0, q0, hargs, rfl, rfl, h0, r0⟩ := trodAll_cons hA
  obtain ⟨v1, vs1, d1, ds1, p1, q1, rfl, rfl, rfl, h1, r1⟩ := trodAll_cons r0
  obtain ⟨v2, vs2, d2, ds2, p2, q2, rfl, rfl, rfl, h2, r2⟩ := trodAll_cons r1
  obtain ⟨v3, vs3, d3, ds3, p3, q3, rfl, rfl, rfl, h3, r3⟩ := trodAll_cons r2
  obtain ⟨v4, vs4, d4, ds4, p4, q4, rfl, rfl, rfl, h4, r4⟩ := trodAll_cons r3
  obtain ⟨rfl, rfl, rfl⟩ := trodAll_nil r4
  obtain rfl : args = #[v0, v1, v2, v3, v4] := by cases args; simp_all
  obtain ⟨rfl, rfl⟩ := trodVars_none hV
  have k0 := h0
  have lt0 : ∀ x ∈ p0, x.block < W.heap.size := by obtain ⟨m, hm⟩ := k0; exact DataW.trod_lt m _ _ _ hm
  have k1 := h1
  have lt1 : ∀ x ∈ p1, x.block < W.heap.size := by obtain ⟨m, hm⟩ := k1; exact DataW.trod_lt m _ _ _ hm
  have k2 := h2
  have lt2 : ∀ x ∈ p2, x.block < W.heap.size := by obtain ⟨m, hm⟩ := k2; exact DataW.trod_lt m _ _ _ hm
  have k3 := h3
  have lt3 : ∀ x ∈ p3, x.block < W.heap.size := by obtain ⟨m, hm⟩ := k3; exact DataW.trod_lt m _ _ _ hm
  have k4 := h4
  have lt4 : ∀ x ∈ p4, x.block < W.heap.size := by obtain ⟨m, hm⟩ := k4; exact DataW.trod_lt m _ _ _ hm
  have key : Calls Try.prog 5 #[v0, v1, v2, v3, v4] W fun e W' => e = .returned (.bool true) ∧ Below W.heap.size W W' := by
    obtain ⟨sv0, den0, good0⟩ := open_agg3 (n := 20) (ks := [.f (.i .i64), .f (.i .i64), .f (.i .i64), .f (.i .i64), .f (.i .i64), .f (.i .i64)]) (j := 0) Try.underlying23 (by kernel_rfl) (hval 0 23 v0 rfl rfl) h0 hsz rfl rfl
    simp only [Good3, Kd3.good] at good0
    obtain ⟨sv1, den1, good1⟩ := open_slice3 (n := 20) (ks := [.sl [.i .i64] 8]) (j := 1) Try.underlying48 (by kernel_rfl) (hval 1 48 v1 rfl rfl) h1 hsz rfl rfl
    simp only [Good3, Kd3.good] at good1
    obtain ⟨a2, rfl, rfl, _, w2⟩ := open_int Try.underlying3 (hval 2 3 v2 rfl rfl) h2
    have s2 := i64_range w2
    obtain ⟨a3, rfl, rfl, _, w3⟩ := open_int Try.underlying3 (hval 3 3 v3 rfl rfl) h3
    have s3 := i64_range w3
    obtain ⟨sv4, den4, good4⟩ := open_agg3 (n := 20) (ks := [.f (.i .i64), .f (.i .i64), .f (.i .i64), .f (.i .i64), .f (.i .i64), .f (.i .i64)]) (j := 4) Try.underlying23 (by kernel_rfl) (hval 4 23 v4 rfl rfl) h4 hsz rfl rfl
    simp only [Good3, Kd3.good] at good4
    obtain ⟨_, _, rfl, ⟨n0, rfl, z0⟩, _, _, rfl, ⟨n1, rfl, z1⟩, _, _, rfl, ⟨n2, rfl, z2⟩, _, _, rfl, ⟨n3, rfl, z3⟩, _, _, rfl, ⟨n4, rfl, z4⟩, _, _, rfl, ⟨n5, rfl, z5⟩, rfl⟩ := good0
    obtain ⟨_, _, hh, ⟨f, len, cap, rfl, hlc, hcap, hok⟩, rfl⟩ := good1
    obtain rfl := (List.cons.inj hh).1
    obtain ⟨_, _, rfl, ⟨m0, rfl, y0⟩, _, _, rfl, ⟨m1, rfl, y1⟩, _, _, rfl, ⟨m2, rfl, y2⟩, _, _, rfl, ⟨m3, rfl, y3⟩, _, _, rfl, ⟨m4, rfl, y4⟩, _, _, rfl, ⟨m5, rfl, y5⟩, rfl⟩ := good4
    letI : CWorld := ⟨W⟩
    have hr : reachBytes = 140737488351232 := rfl
    have r0 := i64_range z0
    have r1 := i64_range z1
    have r2 := i64_range z2
    have r3 := i64_range z3
    have r4 := i64_range z4
    have r5 := i64_range z5
    have t0 := i64_range y0
    have t1 := i64_range y1
    have t2 := i64_range y2
    have t3 := i64_range y3
    have t4 := i64_range y4
    have t5 := i64_range y5
    have hi : ∀ n ∈ (List.range len).map (fun i => Value.toI (f i 0)), Go.PL.I64 n := by
      intro n hn
      obtain ⟨i, hi, rfl⟩ := List.mem_map.1 hn
      obtain ⟨m, he, hwf⟩ := hok i 0 (.i .i64) (List.mem_range.1 hi) rfl
      rw [he]
      exact ⟨(i64_range hwf).1, (i64_range hwf).2⟩
    exact Spec.law backSpec_ok ⟨⟨n0, n1, n2, n3, n4, n5⟩, ⟨(List.range len).map (fun i => Value.toI (f i 0)), len, cap⟩, a2, a3, ⟨m0, m1, m2, m3, m4, m5⟩⟩ ⟨⟨⟨r0.1, r0.2⟩, ⟨r1.1, r1.2⟩, ⟨r2.1, r2.2⟩, ⟨r3.1, r3.2⟩, ⟨r4.1, r4.2⟩, ⟨r5.1, r5.2⟩⟩, ⟨by simp, hi, by simp only; omega⟩, ⟨s2.1, s2.2⟩, ⟨s3.1, s3.2⟩, ⟨⟨t0.1, t0.2⟩, ⟨t1.1, t1.2⟩, ⟨t2.1, t2.2⟩, ⟨t3.1, t3.2⟩, ⟨t4.1, t4.2⟩, ⟨t5.1, t5.2⟩⟩⟩ rfl rfl (vs := [v0, v1, .int .i64 a2, .int .i64 a3, v4]) ⟨_, _, rfl, den0, _, _, rfl, den1, _, _, rfl, rfl, _, _, rfl, rfl, _, _, rfl, den4, rfl⟩
  clear hA0 hval0 hsz0 hsz
  refine key.mono fun e W' ⟨he, bel⟩ => ?_
  subst he
  exact ⟨_, rfl, _, _, _, [], _, [], hW', trodAll_mk1 (shut_bool Try.underlying4 _), (trodAll_cons_mk (Below.trod laidOut (by kernel_rfl) (of_decide_eq_true (by kernel_rfl)) k0 bel lt0) (trodAll_cons_mk (Below.trod laidOut (by kernel_rfl) (of_decide_eq_true (by kernel_rfl)) k1 bel lt1) (trodAll_cons_mk (Below.trod laidOut (by kernel_rfl) (of_decide_eq_true (by kernel_rfl)) k2 bel lt2) (trodAll_cons_mk (Below.trod laidOut (by kernel_rfl) (of_decide_eq_true (by kernel_rfl)) k3 bel lt3) (trodAll_cons_mk (Below.trod laidOut (by kernel_rfl) (of_decide_eq_true (by kernel_rfl)) k4 bel lt4) trodAll_mk0))))), rfl, bel.frame _, fun h => by cases h⟩
theorem over : Rows.indexRootBackRow.holds Try.pinned (OpenSpec.ofChange Rows.indexRootBackSpec) :=
  OpenClaim.holds_of_wide 5 Try.f5 rfl rfl rfl rfl rfl rfl rfl ⟨rfl, rfl, rfl, rfl, rfl⟩ rfl rfl rfl rfl rfl (by kernel_rfl) Try.func5 (by kernel_rfl)
    (of_decide_eq_true (by kernel_rfl)) (by unfold Func.isWrapper; first | (rw [if_pos (by decide +kernel)]; kernel_rfl) | (rw [if_neg (by decide +kernel)]; exact ⟨rfl, rfl⟩))
    (fun os started H enc _ => lifted os started H enc)
theorem proved : Rows.IndexRootBackSaid := over
end Go.Proofs.Ytfcjboomlfjanaa.lawIndexRootBack
namespace Go.Proofs.Ytfcjboomlfjanaa
/-- The row, under a short name. -/
theorem indexRootBack_holds : Rows.IndexRootBackSaid := lawIndexRootBack.proved
end Go.Proofs.Ytfcjboomlfjanaa
