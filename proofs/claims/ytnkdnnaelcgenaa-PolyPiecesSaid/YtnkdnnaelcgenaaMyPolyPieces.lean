/- Every run of PolyPieces answers true, for every input of the sizes that the statement names: the row 'PolyPiecesSaid'. -/
import Derived.Test.YtnkdnnaelcgenaaPolyE
import Derived.Test.YtnkdnnaelcgenaaEngC
import Derived.Test.YtnkdnnaelcgenaaRows
import Derived.WalkKit
import Derived.ProofKit
import Derived.OpenShut
import Derived.ShutString
import Derived.ChangeOld
import Derived.Below
import Derived.Carry
import Derived.SizedLaws
set_option linter.unusedVariables false
set_option linter.unusedSimpArgs false

namespace Go.Proofs.Ytnkdnnaelcgenaa.lawPolyPieces
open Go.ChangeShapes Go.WideShapes Go.ChangeAt Go.RowKit
open Go.ChangeMaps (open_string shut_string)
open Go.Eng
set_option linter.unusedVariables false
theorem own : ownKnob Try.prog.godebug = none := by kernel_rfl
theorem laidOut : laidOutB Try.prog = true := by kernel_rfl
theorem bytes_length (b : ByteArray) : b.data.toList.length = b.size := Array.length_toList
theorem i64_range {n : Int} (h : (Lit.int .i64 n).wf = true) : -9223372036854775808 ≤ n ∧ n < 9223372036854775808 := by
  have := bounds_i64 h
  omega
set_option maxRecDepth 100000 in
theorem lifted (os : Os) (started : os.Started) (H : Type) (enc : TypeId × Value → H) :
    ReturnsInHanded {} Try.checked os 7 .any (Rows.polyPiecesSpec.pre6 enc Try.prog Try.f7 Rows.polyPiecesRow.domain false) (Rows.polyPiecesSpec.post enc Try.prog Try.f7 false true false false) := by
  refine returnsInHanded_of_change_sized (C := Try.checked) own started (by kernel_rfl) Try.func7
    (ChangeSpec.witness6 (enc := enc) (C := Try.checked) false ⟨#[], #[.string ByteArray.empty, .string ByteArray.empty, .slice none 0 0], []⟩ 8 (by kernel_rfl) (by kernel_rfl) (by kernel_rfl) (by kernel_rfl)) ?_
  intro W base args ds gs before hval0 hW hcnd hsz0 _
  have hsz : (DataW.weightsEach Try.prog (Try.f7.params.toList ++ Rows.polyPiecesSpec.plain.varTypes Try.prog) (ds ++ gs)).all (· ≤ reachBytes) = true := hsz0
  have hval : ∀ (j : Nat) t v, Try.f7.params[j]? = some t → args[j]? = some v → Value.okWide Try.prog W .any base t v := hval0
  have hW' := hW
  obtain ⟨p, q, hA0, hV, rfl, hfz, hnd⟩ := hW
  have hA : DataW.TrodAll enc Try.prog W 0 (fun _ => true) true Try.f7.params.toList args.toList ds p := hA0
  rw [Try.params7] at hA hval hsz
  obtain ⟨v0, vs0, d0, ds0, p0, q0, hargs, rfl, rfl, h0, r0⟩ := trodAll_cons hA
  obtain ⟨v1, vs1, d1, ds1, p1, q1, rfl, rfl, rfl, h1, r1⟩ := trodAll_cons r0
  obtain ⟨v2, vs2, d2, ds2, p2, q2, rfl, rfl, rfl, h2, r2⟩ := trodAll_cons r1
  obtain ⟨rfl, rfl, rfl⟩ := trodAll_nil r2
  obtain rfl : args = #[v0, v1, v2] := by cases args; simp_all
  obtain ⟨rfl, rfl⟩ := trodVars_none hV
  have k0 := h0
  have lt0 : ∀ x ∈ p0, x.block < W.heap.size := by obtain ⟨m, hm⟩ := k0; exact DataW.trod_lt m _ _ _ hm
  have k1 := h1
  have lt1 : ∀ x ∈ p1, x.block < W.heap.size := by obtain ⟨m, hm⟩ := k1; exact DataW.trod_lt m _ _ _ hm
  have k2 := h2
  have lt2 : ∀ x ∈ p2, x.block < W.heap.size := by obtain ⟨m, hm⟩ := k2; exact DataW.trod_lt m _ _ _ hm
  have key : Calls Try.prog 7 #[v0, v1, v2] W fun e W' => e = .returned (.bool true) ∧ Below W.heap.size W W' := by
    obtain ⟨a0, rfl, rfl, _, y0⟩ := open_string Try.underlying9 (hval 0 9 v0 rfl rfl) h0
    have s0 : a0.data.toList.length ≤ 140737488351232 := by
      have z := sized_string hsz (j := 0) (t := 9) rfl rfl
      exact z
    obtain ⟨a1, rfl, rfl, _, y1⟩ := open_string Try.underlying9 (hval 1 9 v1 rfl rfl) h1
    have s1 : a1.data.toList.length ≤ 140737488351232 := by
      have z := sized_string hsz (j := 1) (t := 9) rfl rfl
      exact z
    have c2 := open_cs (n := 6) (ks := [.i .i64]) Try.underlying47 (by kernel_rfl) (by kernel_rfl) (by decide) (hval 2 47 v2 rfl rfl) h2
    rcases c2 with ⟨rfl, _⟩ | ⟨f, len, cap, es, sp, hlc, hcm, rfl, he, hp, hok, hden⟩
    · letI : CWorld := ⟨W⟩
      exact Spec.law piecesNilSpec_ok (a0.data.toList, a1.data.toList) ⟨⟨s0⟩, ⟨s1⟩⟩ rfl rfl (vs := [.string a0, .string a1, .slice none 0 0]) ⟨_, _, rfl, rfl, _, _, rfl, rfl, _, _, rfl, rfl, rfl⟩
    · letI : CWorld := ⟨W⟩
      have hle := sized_slice hsz (j := 2) (t := 47) rfl rfl Try.underlying47
      have hbytes : Try.prog.bytesOf 3 = 8 := by kernel_rfl
      rw [hbytes, he] at hle
      have hr : reachBytes = 140737488351232 := rfl
      refine Spec.law piecesSpec_ok (a0.data.toList, a1.data.toList, (List.range len).map (fun i => Value.toI (f i 0)), (cap : Int)) ⟨⟨s0⟩, ⟨s1⟩, ⟨fun x hx => ?_, by simp; omega⟩, by simp; omega⟩ rfl rfl (vs := [.string a0, .string a1, v2]) ⟨_, _, rfl, rfl, _, _, rfl, rfl, _, _, rfl, ?_, rfl⟩
      · simp only [List.mem_map, List.mem_range] at hx
        obtain ⟨i, hi, rfl⟩ := hx
        obtain ⟨m, hm, hw⟩ := hok i 0 _ hi rfl
        rw [hm]
        exact i64_range hw
      · simp only [List.length_map, List.length_range]; exact hden
  clear hA0 hval0 hsz0 hsz
  refine key.mono fun e W' ⟨he, bel⟩ => ?_
  subst he
  exact ⟨_, rfl, _, _, _, [], _, [], hW', trodAll_mk1 (shut_bool Try.underlying4 _), (trodAll_cons_mk (Below.trod laidOut (by kernel_rfl) (of_decide_eq_true (by kernel_rfl)) k0 bel lt0) (trodAll_cons_mk (Below.trod laidOut (by kernel_rfl) (of_decide_eq_true (by kernel_rfl)) k1 bel lt1) (trodAll_cons_mk (Below.trod laidOut (by kernel_rfl) (of_decide_eq_true (by kernel_rfl)) k2 bel lt2) trodAll_mk0))), rfl, bel.frame _, fun h => by cases h⟩
theorem over : Rows.polyPiecesRow.holds Try.pinned (OpenSpec.ofChange Rows.polyPiecesSpec) :=
  OpenClaim.holds_of_wide 7 Try.f7 rfl rfl rfl rfl rfl rfl rfl ⟨rfl, rfl, rfl, rfl, rfl⟩ rfl rfl rfl rfl rfl (by kernel_rfl) Try.func7 (by kernel_rfl)
    (of_decide_eq_true (by kernel_rfl)) (by unfold Func.isWrapper; first | (rw [if_pos (by decide +kernel)]; kernel_rfl) | (rw [if_neg (by decide +kernel)]; exact ⟨rfl, rfl⟩))
    (fun os started H enc _ => lifted os started H enc)
theorem proved : Rows.PolyPiecesSaid := over
end Go.Proofs.Ytnkdnnaelcgenaa.lawPolyPieces
namespace Go.Proofs.Ytnkdnnaelcgenaa
/-- The row, under a short name. -/
theorem polyPieces_holds : Rows.PolyPiecesSaid := lawPolyPieces.proved
end Go.Proofs.Ytnkdnnaelcgenaa
