/- Every run of PolyRuns answers true, for every input whose arguments are together of bulk at most 1048576: the row 'PolyRunsUptoSaid'. -/
import Derived.Test.YtnkdnnaelcgenaaPolyH
import Derived.Test.YtnkdnnaelcgenaaEngC
import Derived.Test.YtnkdnnaelcgenaaRows
import Derived.WalkKit
import Derived.ProofKit
import Derived.OpenShut
import Derived.ShutString
import Derived.ChangeOld
import Derived.Below
import Derived.Carry
import Derived.SizedLaws
import Derived.JoinedCond
set_option linter.unusedVariables false
set_option linter.unusedSimpArgs false

namespace Go.Proofs.Ytnkdnnaelcgenaa.lawPolyRunsUpto
open Go.ChangeShapes Go.WideShapes Go.ChangeAt Go.RowKit
open Go.ChangeMaps (open_string shut_string)
open Go.Eng
set_option linter.unusedVariables false
theorem own : ownKnob Try.prog.godebug = none := by kernel_rfl
theorem laidOut : laidOutB Try.prog = true := by kernel_rfl
theorem i64_range {n : Int} (h : (Lit.int .i64 n).wf = true) : -9223372036854775808 ≤ n ∧ n < 9223372036854775808 := by
  have := bounds_i64 h
  omega
theorem bulk_string {H : Type} (bytes : List UInt8) : Rows.uptoBulk (DataW.lit (H := H) (.string bytes)) = bytes.length + 1 := by
  simp [Rows.uptoBulk]
theorem bulk_one {H : Type} (d : DataW H) : 1 ≤ Rows.uptoBulk d := by
  cases d with
  | lit l => cases l <;> simp [Rows.uptoBulk]
  | nil => simp [Rows.uptoBulk]
  | ptr d => simp [Rows.uptoBulk]
  | slice elems spare => simp [Rows.uptoBulk]
  | agg parts => simp [Rows.uptoBulk]
  | iface t d => simp [Rows.uptoBulk]
  | map entries => simp [Rows.uptoBulk]
  | held h => simp [Rows.uptoBulk]
theorem bulk_part {H : Type} {d : DataW H} {l : List (DataW H)} (h : d ∈ l) : Rows.uptoBulk d ≤ Rows.uptoBulkAll l := by
  induction l with
  | nil => cases h
  | cons x r ih =>
    simp only [Rows.uptoBulkAll]
    cases List.mem_cons.1 h with
    | inl e => subst e; omega
    | inr e => have := ih e; omega
theorem bulk_length {H : Type} (l : List (DataW H)) : l.length ≤ Rows.uptoBulkAll l := by
  induction l with
  | nil => simp [Rows.uptoBulkAll]
  | cons x r ih => have := bulk_one x; simp only [Rows.uptoBulkAll, List.length_cons]; omega
theorem bulk_append {H : Type} (l r : List (DataW H)) : Rows.uptoBulkAll (l ++ r) = Rows.uptoBulkAll l + Rows.uptoBulkAll r := by
  induction l with
  | nil => simp [Rows.uptoBulkAll]
  | cons x l ih => simp only [List.cons_append, Rows.uptoBulkAll, ih]; omega
/-- An element's text is no longer than what it is read as. -/
theorem step_bulk {H : Type} {enc : TypeId × Value → H} {W : World} {fuel : Nat} {g : Nat → Value} {D : DataW H} {pl : List MemPlace}
    (h : DataW.trod enc Try.prog W 0 (fun _ => true) true fuel 35 ((List.range 3).map g) = some (D, pl)) : (Value.toS (g 2)).length ≤ Rows.uptoBulk D := by
  obtain ⟨xs, m, _, hx, _, hl, hf⟩ := DataW.trod_struct Try.underlying35 h
  simp only [Prod.mk.injEq] at hx
  have h2 : DataW.trod enc Try.prog W 0 (fun _ => true) true m 9 ((((List.range 3).map g).drop 2).take (Try.prog.cellsOf 9)) = xs[2]? := hf 2 _ rfl
  have hc : Try.prog.cellsOf 9 = 1 := by kernel_rfl
  rw [hc] at h2
  have hxs : xs.length = 3 := hl
  rw [List.getElem?_eq_getElem (show 2 < xs.length by omega)] at h2
  obtain ⟨s, hs, hsx, _⟩ := DataW.trod_string Try.underlying9 h2
  have hg : g 2 = .string s := by
    have := congrArg (fun l => l[0]?) hs
    simpa using this
  have hm : (xs[2]'(by omega)).1 ∈ xs.map (·.1) := List.mem_map_of_mem (List.getElem_mem _)
  have hb := bulk_part hm
  rw [hsx, bulk_string] at hb
  rw [hg, hx.1]
  show s.data.toList.length ≤ Rows.uptoBulkAll (xs.map (·.1)) + 1
  omega
theorem sum_bulk {H : Type} (f : Nat → List UInt8) (D : Nat → DataW H) : ∀ (l : List Nat), (∀ i ∈ l, (f i).length ≤ Rows.uptoBulk (D i)) → Go.PL.sumLen (l.map f) ≤ Rows.uptoBulkAll (l.map D)
  | [], _ => by simp [Go.PL.sumLen]
  | x :: l, h => by
    have h1 := h x (by simp)
    have ih := sum_bulk f D l (fun i hi => h i (by simp [hi]))
    simp only [List.map_cons, Go.PL.sumLen, Rows.uptoBulkAll]
    omega
set_option maxRecDepth 100000 in
theorem contract (H : Type) (enc : TypeId × Value → H) (W : World) (base : Nat) (args : Array Value) (ds gs : List (DataW H)) (before : List MemPlace)
    (hval0 : ∀ (j : Nat) t v, Try.f4.params[j]? = some t → args[j]? = some v → Value.okWide Try.prog W .any base t v)
    (hW : DataW.Whole enc Try.prog Try.f4.params.toList Rows.polyRunsSpec.vars false W args.toList ds gs before) (hk0 : Rows.uptoSmall H (ds ++ gs) = true) :
    Calls Try.prog 4 args W fun e W' => ∃ v, e = .returned v ∧ Rows.polyRunsSpec.post enc Try.prog Try.f4 false true false false W args v W' := by
  have hval : ∀ (j : Nat) t v, Try.f4.params[j]? = some t → args[j]? = some v → Value.okWide Try.prog W .any base t v := hval0
  have hW' := hW
  obtain ⟨p, q, hA0, hV, rfl, hfz, hnd⟩ := hW
  have hA : DataW.TrodAll enc Try.prog W 0 (fun _ => true) true Try.f4.params.toList args.toList ds p := hA0
  rw [Try.params4] at hA hval
  obtain ⟨v0, vs0, d0, ds0, p0, q0, hargs, rfl, rfl, h0, r0⟩ := trodAll_cons hA
  obtain ⟨v1, vs1, d1, ds1, p1, q1, rfl, rfl, rfl, h1, r1⟩ := trodAll_cons r0
  obtain ⟨v2, vs2, d2, ds2, p2, q2, rfl, rfl, rfl, h2, r2⟩ := trodAll_cons r1
  obtain ⟨rfl, rfl, rfl⟩ := trodAll_nil r2
  obtain rfl : args = #[v0, v1, v2] := by cases args; simp_all
  obtain ⟨rfl, rfl⟩ := trodVars_none hV
  have hk : Rows.uptoBulkAll [d0, d1, d2] ≤ 1048576 := of_decide_eq_true hk0
  simp only [Rows.uptoBulkAll] at hk
  have k0 := h0
  have lt0 : ∀ x ∈ p0, x.block < W.heap.size := by obtain ⟨m, hm⟩ := k0; exact DataW.trod_lt m _ _ _ hm
  have k1 := h1
  have lt1 : ∀ x ∈ p1, x.block < W.heap.size := by obtain ⟨m, hm⟩ := k1; exact DataW.trod_lt m _ _ _ hm
  have k2 := h2
  have lt2 : ∀ x ∈ p2, x.block < W.heap.size := by obtain ⟨m, hm⟩ := k2; exact DataW.trod_lt m _ _ _ hm
  have key : Calls Try.prog 4 #[v0, v1, v2] W fun e W' => e = .returned (.bool true) ∧ Below W.heap.size W W' := by
    obtain ⟨a0, rfl, rfl, _, y0⟩ := open_string Try.underlying9 (hval 0 9 v0 rfl rfl) h0
    rw [bulk_string] at hk
    obtain ⟨a1, rfl, rfl, _, y1⟩ := open_string Try.underlying9 (hval 1 9 v1 rfl rfl) h1
    rw [bulk_string] at hk
    have c2 := open_cs2 (n := 6) (ks := [Kd.i .i64, Kd.b, Kd.s]) Try.underlying25 (by kernel_rfl) (by kernel_rfl) (by decide) (hval 2 25 v2 rfl rfl) h2
    have s0 : a0.data.toList.length ≤ 140737488351232 := by omega
    have s1 : a1.data.toList.length ≤ 140737488351232 := by omega
    letI : CWorld := ⟨W⟩
    rcases c2 with ⟨rfl, _⟩ | ⟨f, len, cap, D, sp, hlc, hcm, rfl, hp, hel, hok, hden⟩
    · exact Spec.law runsNilSpec_ok (a0.data.toList, a1.data.toList) ⟨⟨s0⟩, ⟨s1⟩⟩ rfl rfl (vs := [.string a0, .string a1, .slice none 0 0]) ⟨_, _, rfl, rfl, _, _, rfl, rfl, _, _, rfl, rfl, rfl⟩
    · have hbl : Rows.uptoBulk (DataW.slice ((List.range len).map D) sp) = Rows.uptoBulkAll ((List.range len).map D) + Rows.uptoBulkAll sp + 1 := by simp only [Rows.uptoBulk]
      rw [hbl] at hk
      have hn := bulk_length ((List.range len).map D)
      rw [List.length_map, List.length_range] at hn
      have hsum := sum_bulk (fun i => Value.toS (f i 2)) D (List.range len) (fun i hi => by
        obtain ⟨fuel, pl, ht⟩ := hel i (List.mem_range.1 hi)
        exact step_bulk (g := f i) ht)
      refine Spec.law runsSpec_ok ((a0.data.toList, a1.data.toList), (List.range len).map (fun i => Value.toI (f i 0)), (List.range len).map (fun i => Value.toB (f i 1)), (List.range len).map (fun i => Value.toS (f i 2)), (cap : Int)) ⟨⟨s0⟩, ⟨s1⟩, by simp, by simp, by show Go.PL.sumLen ((List.range len).map fun i => Value.toS (f i 2)) ≤ _; omega, by simp; omega, ⟨fun x hx => ?_, by simp; omega⟩, by simp; omega⟩ rfl rfl (vs := [.string a0, .string a1, v2]) ⟨_, _, rfl, rfl, _, _, rfl, rfl, _, _, rfl, ?_, rfl⟩
      · simp only [List.mem_map, List.mem_range] at hx
        obtain ⟨i, hi, rfl⟩ := hx
        obtain ⟨m, hm, hw⟩ := hok i 0 _ hi rfl
        rw [hm]
        exact i64_range hw
      · simp only [List.length_map, List.length_range]; exact hden
  clear hA0 hval0
  refine key.mono fun e W' ⟨he, bel⟩ => ?_
  subst he
  exact ⟨_, rfl, _, _, _, [], _, [], hW', trodAll_mk1 (shut_bool Try.underlying4 _), (trodAll_cons_mk (Below.trod laidOut (by kernel_rfl) (of_decide_eq_true (by kernel_rfl)) k0 bel lt0) (trodAll_cons_mk (Below.trod laidOut (by kernel_rfl) (of_decide_eq_true (by kernel_rfl)) k1 bel lt1) (trodAll_cons_mk (Below.trod laidOut (by kernel_rfl) (of_decide_eq_true (by kernel_rfl)) k2 bel lt2) trodAll_mk0))), rfl, bel.frame _, fun h => by cases h⟩
set_option maxRecDepth 100000 in
theorem lifted (os : Os) (started : os.Started) (H : Type) (enc : TypeId × Value → H) (F : Stop.Interp) :
    ReturnsInHanded {} Try.checked os 4 .any ((Rows.OpenSpec.upto Rows.polyRunsSpec).pre6 enc Try.prog Try.f4 Rows.polyRunsUptoRow.domain false) (((Rows.OpenSpec.upto Rows.polyRunsSpec).at F).post enc Try.prog Try.f4 false true false false) := by
  refine returnsInHanded_of_cond (C := Try.checked) (s := Rows.OpenSpec.upto Rows.polyRunsSpec) (k := Rows.uptoSmall) rfl own started (by kernel_rfl) Try.func4
    (OpenSpec.witness (enc := enc) (C := Try.checked) (s := Rows.OpenSpec.upto Rows.polyRunsSpec) (k := Rows.uptoSmall) rfl false ⟨#[], #[.string ByteArray.empty, .string ByteArray.empty, .slice none 0 0], []⟩ 8 (by kernel_rfl) (by kernel_rfl) (by kernel_rfl)
      (x := ([.lit (.string []), .lit (.string []), .nil], [], [])) (by kernel_rfl) rfl (by kernel_rfl)) ?_
  intro W base args ds gs before hval hW _ hk _
  exact contract H enc W base args ds gs before hval hW hk
theorem over : Rows.polyRunsUptoRow.holds Try.pinned (Rows.OpenSpec.upto Rows.polyRunsSpec) :=
  OpenClaim.holds_of_cond 4 Try.f4 rfl rfl rfl rfl rfl rfl rfl ⟨rfl, rfl, rfl, rfl, rfl⟩ rfl rfl rfl rfl rfl (by kernel_rfl) Try.func4 (by kernel_rfl)
    (of_decide_eq_true (by kernel_rfl)) (by unfold Func.isWrapper; first | (rw [if_pos (by decide +kernel)]; kernel_rfl) | (rw [if_neg (by decide +kernel)]; exact ⟨rfl, rfl⟩))
    (fun os started H enc _ F => lifted os started H enc F)
theorem proved : Rows.PolyRunsUptoSaid := over
end Go.Proofs.Ytnkdnnaelcgenaa.lawPolyRunsUpto
namespace Go.Proofs.Ytnkdnnaelcgenaa
/-- The row, under a short name. -/
theorem polyRunsUpto_holds : Rows.PolyRunsUptoSaid := lawPolyRunsUpto.proved
end Go.Proofs.Ytnkdnnaelcgenaa
