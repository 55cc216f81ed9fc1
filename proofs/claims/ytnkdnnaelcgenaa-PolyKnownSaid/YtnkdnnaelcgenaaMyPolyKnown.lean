/- Every run of PolyKnown answers true: the row 'PolyKnownSaid'. -/
import Derived.Test.YtnkdnnaelcgenaaPolyD
import Derived.Test.YtnkdnnaelcgenaaEngC
import Derived.Test.YtnkdnnaelcgenaaRows
import Derived.WalkKit
import Derived.ProofKit
import Derived.OpenShut
import Derived.ShutString
import Derived.ChangeOld
import Derived.Below
import Derived.SizedLaws
set_option linter.unusedVariables false
set_option linter.unusedSimpArgs false

namespace Go.Proofs.Ytnkdnnaelcgenaa.lawPolyKnown
open Go.ChangeShapes Go.WideShapes Go.ChangeAt Go.RowKit
open Go.ChangeMaps (open_string shut_string)
open Go.Eng
set_option linter.unusedVariables false

theorem walk (W : World) :
    Calls Try.prog 6 #[] W fun e W' => e = .returned (.bool true) ∧ Below W.heap.size W W' := by
  have r : ∀ n : Int, (Lit.int .i64 n).wf = true → -9223372036854775808 ≤ n ∧ n < 9223372036854775808 := fun n h => by
    have := bounds_i64 h
    omega
  have hl : ∀ b : ByteArray, b.data.toList.length = b.size := fun b => Array.length_toList
  refine (Spec.calls0 knownSpec_ok () trivial rfl (vs := []) rfl W).mono fun e W' he => ?_
  obtain ⟨⟨o, v, y, ρ, ho, rfl, _, hv⟩, hb⟩ := he
  obtain rfl := List.mem_singleton.1 ho
  obtain ⟨c, rfl, hc⟩ := hv
  have : c = true := hc.2 rfl
  subst this
  exact ⟨rfl, hb⟩
theorem own : ownKnob Try.prog.godebug = none := by kernel_rfl
set_option maxRecDepth 100000 in
theorem lifted (os : Os) (started : os.Started) (H : Type) (enc : TypeId × Value → H) :
    ReturnsInHanded {} Try.checked os 6 .any (Rows.polyKnownSpec.pre6 enc Try.prog Try.f6 Rows.polyKnownRow.domain false) (Rows.polyKnownSpec.post enc Try.prog Try.f6 false true false false) := by
  refine returnsInHanded_of_change_sized (C := Try.checked) own started (by kernel_rfl) Try.func6
    (ChangeSpec.witness6 (enc := enc) (C := Try.checked) false ⟨#[], #[], []⟩ 8 (by kernel_rfl) (by kernel_rfl) (by kernel_rfl) (by kernel_rfl)) ?_
  intro W base args ds gs before hval0 hW hcnd hsz0 _
  have hsz : (DataW.weightsEach Try.prog (Try.f6.params.toList ++ Rows.polyKnownSpec.plain.varTypes Try.prog) (ds ++ gs)).all (· ≤ reachBytes) = true := hsz0
  have hval : ∀ (j : Nat) t v, Try.f6.params[j]? = some t → args[j]? = some v → Value.okWide Try.prog W .any base t v := hval0
  have hW' := hW
  obtain ⟨p, q, hA0, hV, rfl, hfz, hnd⟩ := hW
  have hA : DataW.TrodAll enc Try.prog W 0 (fun _ => true) true Try.f6.params.toList args.toList ds p := hA0
  rw [Try.params6] at hA hval hsz
  obtain ⟨hargs, rfl, rfl⟩ := trodAll_nil hA
  obtain rfl : args = #[] := by cases args; simp_all
  obtain ⟨rfl, rfl⟩ := trodVars_none hV
  clear hA0 hval0 hsz0 hsz
  refine (walk  W ).mono fun e W' ⟨he, bel⟩ => ?_
  subst he
  exact ⟨_, rfl, _, _, _, [], _, [], hW', trodAll_mk1 (shut_bool Try.underlying4 _), trodAll_mk0, rfl, bel.frame _, fun h => by cases h⟩
theorem over : Rows.polyKnownRow.holds Try.pinned (OpenSpec.ofChange Rows.polyKnownSpec) :=
  OpenClaim.holds_of_wide 6 Try.f6 rfl rfl rfl rfl rfl rfl rfl ⟨rfl, rfl, rfl, rfl, rfl⟩ rfl rfl rfl rfl rfl (by kernel_rfl) Try.func6 (by kernel_rfl)
    (of_decide_eq_true (by kernel_rfl)) (by unfold Func.isWrapper; first | (rw [if_pos (by decide +kernel)]; kernel_rfl) | (rw [if_neg (by decide +kernel)]; exact ⟨rfl, rfl⟩))
    (fun os started H enc _ => lifted os started H enc)
theorem proved : Rows.PolyKnownSaid := over
end Go.Proofs.Ytnkdnnaelcgenaa.lawPolyKnown
namespace Go.Proofs.Ytnkdnnaelcgenaa
/-- The row, under a short name. -/
theorem polyKnown_holds : Rows.PolyKnownSaid := lawPolyKnown.proved
end Go.Proofs.Ytnkdnnaelcgenaa
