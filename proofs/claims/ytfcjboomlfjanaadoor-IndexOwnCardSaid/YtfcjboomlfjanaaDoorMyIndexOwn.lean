/- Every run of IndexOwn answers true: the card 'IndexOwnCardSaid'. -/
import Derived.Test.YtfcjboomlfjanaaDoorIxO
import Derived.Test.YtfcjboomlfjanaaDoorEngC
import Derived.Test.YtfcjboomlfjanaaDoorRows
import Derived.WalkKit
import Derived.ProofKit
import Derived.OpenShut
import Derived.ShutString
import Derived.ChangeOld
import Derived.Below
import Derived.Carry
import Derived.SizedLaws
import Derived.LaidMore
import Derived.Lay
import Derived.SevenTiedAt
import Derived.Stop.Joined
import Derived.Leaving
import Derived.Conc.Holds
import Derived.Test.YtfcjboomlfjanaaDoorTie
import Derived.Test.YtfcjboomlfjanaaDoorCards
set_option linter.unusedVariables false
set_option linter.unusedSimpArgs false

namespace Go.Proofs.YtfcjboomlfjanaaDoor.lawIndexOwn
open Go.ChangeShapes Go.WideShapes Go.ChangeAt Go.RowKit
open Go.ChangeMaps (open_string shut_string)
open Go.Eng
set_option linter.unusedVariables false
theorem own : ownKnob Tryd.prog.godebug = none := by kernel_rfl
theorem laidOut : laidOutB Tryd.prog = true := by kernel_rfl
theorem bytes_length (b : ByteArray) : b.data.toList.length = b.size := Array.length_toList
theorem i64_range {n : Int} (h : (Lit.int .i64 n).wf = true) : -9223372036854775808 ≤ n ∧ n < 9223372036854775808 := by
  have := bounds_i64 h
  omega
set_option maxRecDepth 100000 in
theorem lifted (os : Os) (started : os.Started) (H : Type) (enc : TypeId × Value → H) :
    ReturnsInHanded {} Tryd.checked os 4 .any (fun w args => (Rows.indexOwnSpec.pre enc Tryd.prog Tryd.f4 Rows.indexOwnRow.domain false w args ∧ laidMetH Tryd.prog Rows.indexOwnRow.laid w) ∧ sizedMet enc Tryd.prog Tryd.f4 (OpenSpec.ofChange Rows.indexOwnSpec) false w args) (Rows.indexOwnSpec.post enc Tryd.prog Tryd.f4 false true false false) := by
  refine returnsInHanded_of_change_and (C := Tryd.checked) (X := fun w _ => laidMetH Tryd.prog Rows.indexOwnRow.laid w) (fun _ _ _ hh h => h.of_heap hh) own started (by kernel_rfl) Tryd.func4
    (ChangeSpec.witness_shaped (enc := enc) (C := Tryd.checked) (os := os) (X := fun w _ => laidMetH Tryd.prog Rows.indexOwnRow.laid w) false (World.laidAll Tryd.prog os Rows.indexOwnRow.laid) #[.agg #[.int .i64 0, .int .i64 0, .int .i64 0, .int .i64 0, .int .i64 0, .int .i64 0], .slice none 0 0, .slice none 0 0] 8 (World.laidAll_os _ _ _)
      (World.shaped_of_ZipB (by kernel_rfl) (by kernel_rfl)) (by kernel_rfl) (by kernel_rfl) (by kernel_rfl)
      (by rw [MakeChecks.laidMetH_plain _ _ _ (by kernel_rfl)]; exact laidMet_laidAll _ (by kernel_rfl) (by kernel_rfl))) ?_
  intro W base args ds gs before hval0 hW hcnd hsz0 _ _
  have hsz : (DataW.weightsEach Tryd.prog (Tryd.f4.params.toList ++ Rows.indexOwnSpec.plain.varTypes Tryd.prog) (ds ++ gs)).all (· ≤ reachBytes) = true := hsz0
  have hval : ∀ (j : Nat) t v, Tryd.f4.params[j]? = some t → args[j]? = some v → Value.okWide Tryd.prog W .any base t v := hval0
  have hW' := hW
  obtain ⟨p, q, hA0, hV, rfl, hfz, hnd⟩ := hW
  have hA : DataW.TrodAll enc Tryd.prog W 0 (fun _ => true) true Tryd.f4.params.toList args.toList ds p := hA0
  rw [Tryd.params4] at hA hval hsz
  obtain ⟨v0, vs0, d0, ds0, p0, q0, hargs, rfl, rfl, h0, r0⟩ := trodAll_cons hA
  obtain ⟨v1, vs1, d1, ds1, p1, q1, rfl, rfl, rfl, h1, r1⟩ := trodAll_cons r0
  obtain ⟨v2, vs2, d2, ds2, p2, q2, rfl, rfl, rfl, h2, r2⟩ := trodAll_cons r1
  obtain ⟨rfl, rfl, rfl⟩ := trodAll_nil r2
  obtain rfl : args = #[v0, v1, v2] := by cases args; simp_all
  obtain ⟨rfl, rfl⟩ := trodVars_none hV
  have k0 := h0
  have lt0 : ∀ x ∈ p0, x.block < W.heap.size := by obtain ⟨m, hm⟩ := k0; exact DataW.trod_lt m _ _ _ hm
  have k1 := h1
  have lt1 : ∀ x ∈ p1, x.block < W.heap.size := by obtain ⟨m, hm⟩ := k1; exact DataW.trod_lt m _ _ _ hm
  have k2 := h2
  have lt2 : ∀ x ∈ p2, x.block < W.heap.size := by obtain ⟨m, hm⟩ := k2; exact DataW.trod_lt m _ _ _ hm
  have key : Calls Tryd.prog 4 #[v0, v1, v2] W fun e W' => e = .returned (.bool true) ∧ Below W.heap.size W W' := by
    obtain ⟨sv0, den0, good0⟩ := open_agg3 (n := 20) (ks := [.f (.i .i64), .f (.i .i64), .f (.i .i64), .f (.i .i64), .f (.i .i64), .f (.i .i64)]) (j := 0) Tryd.underlying23 (by kernel_rfl) (hval 0 23 v0 rfl rfl) h0 hsz rfl rfl
    simp only [Good3, Kd3.good] at good0
    obtain ⟨sv1, den1, good1⟩ := open_slice3 (n := 20) (ks := [.sl [.i .i64] 8]) (j := 1) Tryd.underlying30 (by kernel_rfl) (hval 1 30 v1 rfl rfl) h1 hsz rfl rfl
    simp only [Good3, Kd3.good] at good1
    obtain ⟨sv2, den2, good2⟩ := open_slice3 (n := 20) (ks := [.sl [.i .i64] 8]) (j := 2) Tryd.underlying30 (by kernel_rfl) (hval 2 30 v2 rfl rfl) h2 hsz rfl rfl
    simp only [Good3, Kd3.good] at good2
    obtain ⟨_, _, rfl, ⟨n0, rfl, z0⟩, _, _, rfl, ⟨n1, rfl, z1⟩, _, _, rfl, ⟨n2, rfl, z2⟩, _, _, rfl, ⟨n3, rfl, z3⟩, _, _, rfl, ⟨n4, rfl, z4⟩, _, _, rfl, ⟨n5, rfl, z5⟩, rfl⟩ := good0
    obtain ⟨_, _, hh, ⟨f, len, cap, rfl, hlc, hcap, hok⟩, rfl⟩ := good1
    obtain rfl := (List.cons.inj hh).1
    obtain ⟨_, _, hh2, ⟨g, len2, cap2, rfl, hlc2, hcap2, hok2⟩, rfl⟩ := good2
    obtain rfl := (List.cons.inj hh2).1
    letI : CWorld := ⟨W⟩
    have hr : reachBytes = 140737488351232 := rfl
    have r0 := i64_range z0
    have r1 := i64_range z1
    have r2 := i64_range z2
    have r3 := i64_range z3
    have r4 := i64_range z4
    have r5 := i64_range z5
    have hi : ∀ n ∈ (List.range len).map (fun i => Value.toI (f i 0)), Go.PL.I64 n := by
      intro n hn
      obtain ⟨i, hi, rfl⟩ := List.mem_map.1 hn
      obtain ⟨m, he, hwf⟩ := hok i 0 (.i .i64) (List.mem_range.1 hi) rfl
      rw [he]
      exact ⟨(i64_range hwf).1, (i64_range hwf).2⟩
    have hi2 : ∀ n ∈ (List.range len2).map (fun i => Value.toI (g i 0)), Go.PL.I64 n := by
      intro n hn
      obtain ⟨i, hi, rfl⟩ := List.mem_map.1 hn
      obtain ⟨m, he, hwf⟩ := hok2 i 0 (.i .i64) (List.mem_range.1 hi) rfl
      rw [he]
      exact ⟨(i64_range hwf).1, (i64_range hwf).2⟩
    exact Spec.law liSpec_ok (⟨n0, n1, n2, n3, n4, n5⟩, ⟨(List.range len).map (fun i => Value.toI (f i 0)), len, cap⟩, ⟨(List.range len2).map (fun i => Value.toI (g i 0)), len2, cap2⟩) ⟨⟨⟨r0.1, r0.2⟩, ⟨r1.1, r1.2⟩, ⟨r2.1, r2.2⟩, ⟨r3.1, r3.2⟩, ⟨r4.1, r4.2⟩, ⟨r5.1, r5.2⟩⟩, ⟨by simp, hi, by simp only; omega⟩, ⟨by simp, hi2, by simp only; omega⟩⟩ rfl rfl (vs := [v0, v1, v2]) ⟨_, _, rfl, den0, _, _, rfl, den1, _, _, rfl, den2, rfl⟩
  clear hA0 hval0 hsz0 hsz
  refine key.mono fun e W' ⟨he, bel⟩ => ?_
  subst he
  exact ⟨_, rfl, _, _, _, [], _, [], hW', trodAll_mk1 (shut_bool Tryd.underlying4 _), (trodAll_cons_mk (Below.trod laidOut (by kernel_rfl) (of_decide_eq_true (by kernel_rfl)) k0 bel lt0) (trodAll_cons_mk (Below.trod laidOut (by kernel_rfl) (of_decide_eq_true (by kernel_rfl)) k1 bel lt1) (trodAll_cons_mk (Below.trod laidOut (by kernel_rfl) (of_decide_eq_true (by kernel_rfl)) k2 bel lt2) trodAll_mk0))), rfl, bel.frame _, fun h => by cases h⟩
theorem k0 : (Rows.indexOwnRow.wf (OpenSpec.ofChange Rows.indexOwnSpec)) = true := by kernel_rfl
theorem k1 : (laidOutB Tryd.prog) = true := by kernel_rfl
theorem k2 : (mapsRowed Tryd.prog) = true := by kernel_rfl
theorem k3 : (Tryd.f4.params.all (Tryd.prog.readableRec ·)) = true := by kernel_rfl
theorem k4 : (namedTie Tryd.prog Rows.indexOwnRow.named Rows.indexOwnSpec.vars) = true := by kernel_rfl
theorem k5 : ((Rows.indexOwnRow.stops == [])) = true := by kernel_rfl
theorem k6 : ((Tryd.prog.stops == [])) = true := by kernel_rfl
theorem k7 : ((Rows.indexOwnRow.knobs == [])) = true := by kernel_rfl
theorem k8 : ((Tryd.prog.stopKnobs == [])) = true := by kernel_rfl
theorem k9 : ((Rows.indexOwnRow.inPlace == Tryd.prog.inPlace 4)) = true := by kernel_rfl
theorem k10 : ((Rows.indexOwnRow.unfollowed == Tryd.prog.unfollowed 4)) = true := by kernel_rfl
theorem k11 : ((Rows.indexOwnRow.recurses == Tryd.prog.recurses 4)) = true := by kernel_rfl
theorem k12 : ((Rows.indexOwnRow.named == Tryd.prog.varsNamed 4)) = true := by kernel_rfl
theorem k13 : ((Rows.indexOwnRow.maps == (Tryd.f4.params.toList ++ Rows.indexOwnSpec.plain.varTypes Tryd.prog).any (Tryd.prog.mapsRec ·))) = true := by kernel_rfl
theorem k14 : ((Rows.indexOwnRow.ifaces == (Tryd.f4.params.toList ++ Rows.indexOwnSpec.plain.varTypes Tryd.prog).any (Tryd.prog.ifacesRec ·))) = true := by kernel_rfl
theorem k15 : ((Rows.indexOwnRow.mapsOut == Tryd.prog.mapsAmong Tryd.f4.resultTypes.toList)) = true := by kernel_rfl
theorem k16 : ((Rows.indexOwnRow.loops == (Tryd.f4.params.toList ++ Rows.indexOwnSpec.plain.varTypes Tryd.prog).any (Tryd.prog.loopsFrom ·))) = true := by kernel_rfl
theorem k17 : ((Rows.indexOwnRow.wideKeys == (Tryd.f4.params.toList ++ Rows.indexOwnSpec.plain.varTypes Tryd.prog ++ Tryd.f4.resultTypes.toList).any (Tryd.prog.wideKeysFrom ·))) = true := by kernel_rfl
theorem k18 : (Rows.indexOwnSpec.vars.all (Tryd.prog.varReadable ·)) = true := by kernel_rfl
theorem k19 : (Tryd.f4.resultTypes.all (fun t => Tryd.prog.readableRec t && decide (t < Tryd.prog.types.size))) = true := by kernel_rfl
theorem k20 : ((Rows.indexOwnRow.ifacesOut == Tryd.f4.resultTypes.toList.any (Tryd.prog.ifacesRec ·))) = true := by kernel_rfl
theorem k21 : ((Rows.indexOwnRow.loopsOut == Tryd.f4.resultTypes.toList.any (Tryd.prog.loopsFrom ·))) = true := by kernel_rfl
theorem k22 : ((Rows.indexOwnRow.plainKeys == Tryd.prog.plainKeys)) = true := by kernel_rfl
theorem k23 : (Rows.indexOwnRow.shortTexts.isNone) = true := by kernel_rfl
theorem k24 : (Tryd.prog.stopsHeard) = true := by kernel_rfl
theorem k25 : (Tryd.prog.mayEnter) = true := by kernel_rfl
theorem k26 : ((Rows.indexOwnRow.lifted == Tryd.prog.liftsFinal)) = true := by kernel_rfl
theorem k27 : ((Tryd.prog.make == some Rows.indexOwnRow.make)) = true := by kernel_rfl
theorem k28 : ((Rows.indexOwnRow.kinds == (if Rows.indexOwnRow.domain.isEmpty then [] else Tryd.f4.params.toList.map fun t => match Tryd.prog.underlying t with | some (.int k) => some k | _ => none))) = true := by kernel_rfl
theorem k29 : ((Rows.indexOwnRow.pinned == Rows.indexOwnRow.pinnedBy)) = true := by kernel_rfl
theorem k30 : ((Rows.indexOwnRow.veiled == (Tryd.f4.params.toList ++ Rows.indexOwnSpec.plain.varTypes Tryd.prog ++ Tryd.f4.resultTypes.toList).any (Tryd.prog.veiledRec ·))) = true := by kernel_rfl
theorem k31 : (Rows.indexOwnRow.veiledFits Tryd.prog Tryd.f4.params.toList (Tryd.f4.params.toList ++ Rows.indexOwnSpec.plain.varTypes Tryd.prog ++ Tryd.f4.resultTypes.toList)) = true := by kernel_rfl
set_option maxRecDepth 100000 in
theorem closed : joinedFacts Tryd.prog 4 Tryd.f4 Rows.indexOwnSpec Rows.indexOwnRow = true := by
  unfold joinedFacts
  simp only [Bool.and_eq_true]
  exact ⟨⟨⟨⟨⟨⟨⟨⟨⟨⟨⟨⟨⟨⟨⟨⟨⟨⟨⟨⟨⟨⟨⟨⟨⟨⟨⟨⟨⟨⟨⟨k0, k1⟩, k2⟩, k3⟩, k4⟩, k5⟩, k6⟩, k7⟩, k8⟩, k9⟩, k10⟩, k11⟩, k12⟩, k13⟩, k14⟩, k15⟩, k16⟩, k17⟩, k18⟩, k19⟩, k20⟩, k21⟩, k22⟩, k23⟩, k24⟩, k25⟩, k26⟩, k27⟩, k28⟩, k29⟩, k30⟩, k31⟩
theorem goes : false = Rows.indexOwnRow.goesBy Tryd.prog := by kernel_rfl
theorem looks : false = Tryd.prog.looks [] := by kernel_rfl
theorem inst : Tryd.f4.isInstance Tryd.prog Rows.indexOwnRow.origin Rows.indexOwnRow.targs := of_decide_eq_true (by kernel_rfl)
theorem fnm : Tryd.prog.funcNamed Rows.indexOwnRow.func = some 4 := by kernel_rfl
theorem wrp : Tryd.f4.isWrapper Tryd.prog Rows.indexOwnRow.wrapper Rows.indexOwnRow.mainSum := by unfold Func.isWrapper; first | (rw [if_pos (by decide +kernel)]; kernel_rfl) | (rw [if_neg (by decide +kernel)]; exact ⟨rfl, rfl⟩)
theorem mn : Tryd.prog.mainIs = some ((true, "d5ad1733cc7faf51b1d2039bfe8e4316da136e37dc259995b7f462a081aadd2a").1, (true, "d5ad1733cc7faf51b1d2039bfe8e4316da136e37dc259995b7f462a081aadd2a").2.toList) := by kernel_rfl
theorem wfb : Rows.indexOwnRow.wfByText (OpenSpec.ofChange Rows.indexOwnSpec) = true := by kernel_rfl
theorem leaving_of_handed {a : Assume} {C : Checked} {os : Os} {f : FuncId} {r : Reach} {Pre : World → Array Value → Prop} {Post : World → Array Value → Value → World → Prop}
    (h : ReturnsInHanded a C os f r Pre Post) : ReturnsInLeavingWide a C os f r Pre Post := fun enter => by
  obtain ⟨h1, h2, h3, h4, h5⟩ := h enter
  refine ⟨h1, h2, h3, h4, fun w tape i hf => ?_⟩
  obtain ⟨n, v, w', k1, k2, k3, k4, ⟨j, last, k5, k6, k7, k8, k9⟩, k10⟩ := h5 w tape i hf
  exact ⟨n, v, w', k1, k2, k3, k4, ⟨j, last, k5, k6, k8, onlyLeaving_of_quiet k7, k9⟩, k10⟩
theorem over : Rows.indexOwnRow.holds Tryd.pinned (OpenSpec.ofChange Rows.indexOwnSpec) :=
  OpenClaim.holds_of_wide 4 Tryd.f4 rfl rfl rfl rfl rfl rfl rfl ⟨rfl, rfl, rfl, rfl, rfl⟩ rfl rfl rfl rfl rfl fnm Tryd.func4 closed inst wrp
    (fun os started H enc _ => lifted os started H enc)
theorem proved : Rows.IndexOwnSaid := over
/-- A tied card without a companion, whatever 'goes' says. -/
theorem holds_tied_goes (Lk : Looks) {p : Pinned} {s : OpenSpec} {c : OpenClaim} (kinds : List LaidKind) (tests : Bool) (har : Bool × String) (lk goes : Bool)
    (hc : c.holds p s) (hw : c.wfByText s = true) (htie : c.laidByTextAt Lk p kinds tests)
    (hst : c.start = .entering) (hnb : c.noBlocks = false ∧ c.again = false) (hm : p.checked.prog.mainIs = some (har.1, har.2.toList)) (hn : (!har.1 && har.2.isEmpty && !lk) = false)
    (hl : ∀ f fn, p.checked.prog.funcNamed c.func = some f → p.checked.prog.funcs[f]? = some fn → lk = p.checked.prog.looks [] ∧ ∀ (j : Nat) t, fn.params[j]? = some t → p.checked.prog.wantsStandIn t = false)
    (hg : goes = c.goesBy p.checked.prog) :
    Claim7.holds p (.plain s) { stood := { row := c, standIns := [], harness := har, looks := lk }, kinds := [], alts := [], goes := goes, laidByText := true, laidKinds := kinds, laidTests := tests, laidLooks := Lk } := by
  have h6 : Claim7.isSixth { stood := { row := c, standIns := [], harness := har, looks := lk }, kinds := [] } = false := by simpa [Claim7.isSixth] using hn
  exact ⟨Claim7.tied_new_at Lk kinds tests (Claim7.new_of_sixth hc har lk hst hnb hm h6 hl) hw, (fun D hD => by cases hD), htie, (fun h => by cases h), hg⟩
theorem card : Rows.IndexOwnCardSaid :=
  holds_tied_goes .later [.data, .pinned] true (true, "d5ad1733cc7faf51b1d2039bfe8e4316da136e37dc259995b7f462a081aadd2a") false false proved wfb indexOwn_row_tie rfl ⟨rfl, rfl⟩ mn rfl
    (fun f fn hf hfn => by
      obtain rfl : f = 4 := Option.some.inj (fnm.symm.trans hf) |>.symm
      obtain rfl : fn = Tryd.f4 := (Option.some.inj (Tryd.func4.symm.trans hfn)).symm
      exact ⟨looks, fun j t ht => by
        rw [Tryd.params4] at ht
        have hm : t ∈ [23, 30, 30] := by simpa using Array.mem_of_getElem? ht
        have hall : ([23, 30, 30].all fun u => !Tryd.prog.wantsStandIn u) = true := by kernel_rfl
        exact (show Tryd.prog.wantsStandIn t = false by simpa using List.all_eq_true.1 hall t hm)⟩)
    goes
end Go.Proofs.YtfcjboomlfjanaaDoor.lawIndexOwn
namespace Go.Proofs.YtfcjboomlfjanaaDoor
/-- The row, under a short name. -/
theorem indexOwn_card_holds : Rows.IndexOwnCardSaid := lawIndexOwn.card
end Go.Proofs.YtfcjboomlfjanaaDoor
