/- The executor: a range over an iterator: the loop's own steps are the kit's; what stands before it, in its round and behind it is executed. -/
import Derived.Test.YtfcjboomlfjanaaDoorEngB
import Derived.Deep.LoopGhost
import Derived.LoopN
import Derived.Below
import Derived.Deep.Slices
import Derived.ChangeShapes
import Derived.WideShapes
import Derived.SizedLaws
import Derived.RangeFuncBox
import Derived.RangeFuncLeaves
import Derived.TacticsIn
import Derived.RangeFuncCalls
set_option linter.unusedVariables false
set_option linter.unusedSimpArgs false
/- The executor, fourteenth text: one symbolic state seen as another. -/
set_option linter.unusedSimpArgs false
set_option linter.unusedSectionVars false
namespace Go.Eng
variable [CW : CWorld]
variable (ar : AR)
abbrev Sg := List (Option Nat)
def bindN (σ : Sg) (n n' : Nat) : Option Sg :=
  match σ[n]? with
  | some none => some (σ.set n (some n'))
  | some (some m) => if m = n' then some σ else none
  | none => none
def mCol : Col → Col → Option (List Prop)
  | .ints k l, .ints k' m => if k = k' then some [l = m] else none
  | .strs l, .strs m => some [l = m]
  | .bools l, .bools m => some [l = m]
  | _, _ => none
def mCols : List Col → List Col → Option (List Prop)
  | [], [] => some []
  | a :: l, b :: m =>
    match mCol a b, mCols l m with
    | some p, some q => some (p ++ q)
    | _, _ => none
  | _, _ => none
theorem mCol_sound {a b : Col} {p : List Prop} (h : mCol a b = some p) (hv : AllP p) : a = b := by
  unfold mCol at h
  split at h
  · split at h
    · rename_i hk; subst hk; cases h; rw [hv.1]
    · cases h
  · cases h; rw [hv.1]
  · cases h; rw [hv.1]
  · cases h
theorem mCols_sound : ∀ {a b : List Col} {p : List Prop}, mCols a b = some p → AllP p → a = b
  | [], [], p, h, hv => rfl
  | a :: l, b :: m, p, h, hv => by
    simp only [mCols] at h
    split at h
    · rename_i h1 h2
      cases h
      obtain ⟨v1, v2⟩ := allP_append.1 hv
      rw [mCol_sound h1 v1, mCols_sound h2 v2]
    · cases h
  | [], _ :: _, p, h, hv => by simp [mCols] at h
  | _ :: _, [], p, h, hv => by simp [mCols] at h
mutual
/-- The value 'a' seen as 'b'. -/
def mSV (σ : Sg) : SV → SV → Option (Sg × List Prop)
  | _, .any => some (σ, [])
  | .int k x, .int k' y => if k = k' then (eqZ x y).map fun p => (σ, p) else none
  | .bool x, .bool y => (eqB x y).map fun p => (σ, p)
  | .str s, .str t => some (σ, [s = t])
  | .ptr n o, .ptr n' o' =>
    match bindN σ n' n, eqOff o o' with
    | some σ', some p => some (σ', p)
    | _, _ => none
  | .nptr, .nptr => some (σ, [])
  | .map n, .map n' =>
    match bindN σ n' n with
    | some σ' => some (σ', [])
    | none => none
  | .nmap, .nmap => some (σ, [])
  | .slc n o l c, .slc n' o' l' c' =>
    match bindN σ n' n, eqOff o o', eqZ l l', eqZ c c' with
    | some σ', some p, some q, some r => some (σ', p ++ q ++ r)
    | _, _, _, _ => none
  | .nslc, .nslc => some (σ, [])
  | .fn f cs, .fn f' cs' => if f = f' then mSVs σ cs cs' else none
  | .nfn, .nfn => some (σ, [])
  | .ifc t v, .ifc t' v' => if t = t' then mSV σ v v' else none
  | .nifc, .nifc => some (σ, [])
  | .agg l, .agg l' => mSVs σ l l'
  | .tup l, .tup l' => mSVs σ l l'
  | .cp l, .cp l' => mSVs σ l l'
  | .cs cols l c, .cs cols' l' c' =>
    match mCols cols cols', eqZ l l', eqZ c c' with
    | some p, some q, some r => some (σ, p ++ q ++ r)
    | _, _, _ => none
  | .nslc, .slc n' _ l' c' =>
    match decide (n' < σ.length), eqZ (.l 0) l', eqZ (.l 0) c' with
    | true, some p, some q => some (σ, p ++ q)
    | _, _, _ => none
  | .nslc, .cs _ l' c' =>
    match eqZ (.l 0) l', eqZ (.l 0) c' with
    | some p, some q => some (σ, p ++ q)
    | _, _ => none
  | _, _ => none
def mSVs (σ : Sg) : List SV → List SV → Option (Sg × List Prop)
  | [], [] => some (σ, [])
  | a :: l, b :: m =>
    match mSV σ a b with
    | some (σ', p) => match mSVs σ' l m with
      | some (σ'', q) => some (σ'', p ++ q)
      | none => none
    | none => none
  | _, _ => none
end
def SgOK (σ : Sg) (ρ ρt : List Nat) : Prop := (∀ (n m : Nat), σ[n]? = some (some m) → ∃ b, ρ[m]? = some b ∧ ρt[n]? = some b) ∧ ρt.length = σ.length
def SgLe (σ σ' : Sg) : Prop := (∀ (n m : Nat), σ[n]? = some (some m) → σ'[n]? = some (some m)) ∧ σ.length = σ'.length
theorem SgLe.refl (σ : Sg) : SgLe σ σ := ⟨fun _ _ h => h, rfl⟩
theorem SgLe.trans {σ σ' σ'' : Sg} (h : SgLe σ σ') (h' : SgLe σ' σ'') : SgLe σ σ'' := ⟨fun n m hm => h'.1 n m (h.1 n m hm), h.2.trans h'.2⟩
theorem bindN_le {σ σ' : Sg} {n n' : Nat} (h : bindN σ n n' = some σ') : SgLe σ σ' ∧ σ'[n]? = some (some n') := by
  unfold bindN at h
  split at h
  · rename_i hn
    cases h
    have hlt := (List.getElem?_eq_some_iff.1 hn).1
    refine ⟨⟨fun i m hm => ?_, by simp⟩, List.getElem?_set_self hlt⟩
    have : n ≠ i := fun e => by subst e; rw [hn] at hm; cases hm
    rw [List.getElem?_set_ne this]; exact hm
  · rename_i m hn
    split at h
    · rename_i hm
      cases h
      subst hm
      exact ⟨SgLe.refl _, hn⟩
    · cases h
  · cases h
mutual
theorem mSV_le : ∀ {σ σ' : Sg} {a b : SV} {p : List Prop}, mSV σ a b = some (σ', p) → SgLe σ σ'
  | σ, σ', a, b, p, h => by
    unfold mSV at h
    split at h
    all_goals first | (cases h; exact SgLe.refl _) | (cases h; done) | skip
    · split at h
      · simp only [Option.map_eq_some_iff, Prod.mk.injEq] at h
        obtain ⟨_, _, rfl, _⟩ := h
        exact SgLe.refl _
      · cases h
    · simp only [Option.map_eq_some_iff, Prod.mk.injEq] at h
      obtain ⟨_, _, rfl, _⟩ := h
      exact SgLe.refl _
    · split at h
      · rename_i hb _
        cases h
        exact (bindN_le hb).1
      · cases h
    · split at h
      · rename_i hb
        cases h
        exact (bindN_le hb).1
      · cases h
    · split at h
      · rename_i hb _ _ _
        cases h
        exact (bindN_le hb).1
      · cases h
    · split at h
      · exact mSVs_le h
      · cases h
    · split at h
      · exact mSV_le h
      · cases h
    · exact mSVs_le h
    · exact mSVs_le h
    · exact mSVs_le h
    · split at h
      · cases h; exact SgLe.refl _
      · cases h
    · split at h
      · cases h; exact SgLe.refl _
      · cases h
    · split at h
      · cases h; exact SgLe.refl _
      · cases h
theorem mSVs_le : ∀ {σ σ' : Sg} {l m : List SV} {p : List Prop}, mSVs σ l m = some (σ', p) → SgLe σ σ'
  | σ, σ', [], [], p, h => by simp only [mSVs, Option.some.injEq, Prod.mk.injEq] at h; obtain ⟨rfl, _⟩ := h; exact SgLe.refl _
  | σ, σ', a :: l, b :: m, p, h => by
    simp only [mSVs] at h
    split at h
    · rename_i hab
      split at h
      · rename_i hlm
        cases h
        exact (mSV_le hab).trans (mSVs_le hlm)
      · cases h
    · cases h
  | σ, σ', [], _ :: _, p, h => by simp [mSVs] at h
  | σ, σ', _ :: _, [], p, h => by simp [mSVs] at h
end
mutual
theorem mSV_sound {ρ ρt : List Nat} {σf : Sg} (hσ : SgOK σf ρ ρt) : ∀ {σ σ' : Sg} {a b : SV} {p : List Prop} {v : Value},
    mSV σ a b = some (σ', p) → SgLe σ' σf → AllP p → Den ρ a v → Den ρt b v
  | σ, σ', a, b, p, v, h, hle, hv, hd => by
    unfold mSV at h
    split at h
    all_goals first | (cases h; done) | skip
    · trivial
    · split at h
      · rename_i hk
        subst hk
        simp only [Option.map_eq_some_iff, Prod.mk.injEq] at h
        obtain ⟨q, hq, _, rfl⟩ := h
        simp only [Den] at hd ⊢
        rw [← eqZ_sound hq hv]
        exact hd
      · cases h
    · simp only [Option.map_eq_some_iff, Prod.mk.injEq] at h
      obtain ⟨q, hq, _, rfl⟩ := h
      simp only [Den] at hd ⊢
      obtain ⟨c, hc, hb⟩ := hd
      exact ⟨c, hc, hb.trans (eqB_sound hq hv)⟩
    · cases h
      have := hv.1
      subst this
      exact hd
    · split at h
      · rename_i hb ho
        cases h
        simp only [Den] at hd ⊢
        obtain ⟨b, hbn, hd⟩ := hd
        obtain ⟨b', h1, h2⟩ := hσ.1 _ _ (hle.1 _ _ (bindN_le hb).2)
        rw [hbn] at h1
        cases h1
        exact ⟨b, h2, by rw [← eqOff_sound ho hv]; exact hd⟩
      · cases h
    · cases h; exact hd
    · split at h
      · rename_i hb
        cases h
        simp only [Den] at hd ⊢
        obtain ⟨b, hbn, hd⟩ := hd
        obtain ⟨b', h1, h2⟩ := hσ.1 _ _ (hle.1 _ _ (bindN_le hb).2)
        rw [hbn] at h1
        cases h1
        exact ⟨b, h2, hd⟩
      · cases h
    · cases h; exact hd
    · split at h
      · rename_i hb ho hl hc
        cases h
        obtain ⟨v12, v3⟩ := allP_append.1 hv
        obtain ⟨v1, v2⟩ := allP_append.1 v12
        simp only [Den] at hd ⊢
        obtain ⟨off, b, hbn, hd1, hd2, hd3, hd4⟩ := hd
        obtain ⟨b', h1, h2⟩ := hσ.1 _ _ (hle.1 _ _ (bindN_le hb).2)
        rw [hbn] at h1
        cases h1
        rw [← eqOff_sound ho v1, ← eqZ_sound hl v2, ← eqZ_sound hc v3]
        exact ⟨off, b, h2, hd1, hd2, hd3, hd4⟩
      · cases h
    · cases h; exact hd
    · split at h
      · rename_i hf
        subst hf
        simp only [Den] at hd ⊢
        obtain ⟨vs, hvs, hd⟩ := hd
        exact ⟨vs, hvs, mSVs_sound hσ h hle hv hd⟩
      · cases h
    · cases h; exact hd
    · split at h
      · rename_i hf
        subst hf
        simp only [Den] at hd ⊢
        obtain ⟨y, hy, hd⟩ := hd
        exact ⟨y, hy, mSV_sound hσ h hle hv hd⟩
      · cases h
    · cases h; exact hd
    · simp only [Den] at hd ⊢
      obtain ⟨vs, hvs, hd⟩ := hd
      exact ⟨vs, hvs, mSVs_sound hσ h hle hv hd⟩
    · simp only [Den] at hd ⊢
      obtain ⟨vs, hvs, hd⟩ := hd
      exact ⟨vs, hvs, mSVs_sound hσ h hle hv hd⟩
    · simp only [Den] at hd ⊢
      obtain ⟨b, off, hvs, vs, hd, hc⟩ := hd
      exact ⟨b, off, hvs, vs, mSVs_sound hσ h hle hv hd, hc⟩
    · split at h
      · rename_i hq hl hc
        cases h
        obtain ⟨v12, v3⟩ := allP_append.1 hv
        obtain ⟨v1, v2⟩ := allP_append.1 v12
        simp only [Den] at hd ⊢
        rw [← mCols_sound hq v1, ← eqZ_sound hl v2, ← eqZ_sound hc v3]
        exact hd
      · cases h
    · split at h
      · rename_i hn hl hc
        cases h
        obtain ⟨v1, v2⟩ := allP_append.1 hv
        have hn := of_decide_eq_true hn
        rw [hle.2, ← hσ.2] at hn
        simp only [Den] at hd ⊢
        subst hd
        rw [← eqZ_sound hl v1, ← eqZ_sound hc v2]
        exact ⟨none, _, List.getElem?_eq_getElem hn, rfl, Int.le_refl 0, Int.le_refl 0, fun h => absurd rfl h⟩
      · cases h
    · split at h
      · rename_i hl hc
        cases h
        obtain ⟨v1, v2⟩ := allP_append.1 hv
        simp only [Den] at hd ⊢
        subst hd
        rw [← eqZ_sound hl v1, ← eqZ_sound hc v2]
        exact ⟨none, rfl, Int.le_refl 0, Int.le_refl 0, fun h => absurd rfl h⟩
      · cases h
theorem mSVs_sound {ρ ρt : List Nat} {σf : Sg} (hσ : SgOK σf ρ ρt) : ∀ {σ σ' : Sg} {l m : List SV} {p : List Prop} {vs : List Value},
    mSVs σ l m = some (σ', p) → SgLe σ' σf → AllP p → DenL ρ l vs → DenL ρt m vs
  | σ, σ', [], [], p, vs, h, hle, hv, hd => hd
  | σ, σ', a :: l, b :: m, p, vs, h, hle, hv, hd => by
    simp only [mSVs] at h
    split at h
    · rename_i hab
      split at h
      · rename_i hlm
        cases h
        obtain ⟨v1, v2⟩ := allP_append.1 hv
        simp only [DenL] at hd ⊢
        obtain ⟨v, vs', hvs, hd1, hd2⟩ := hd
        exact ⟨v, vs', hvs, mSV_sound hσ hab ((mSVs_le hlm).trans hle) v1 hd1, mSVs_sound hσ hlm hle v2 hd2⟩
      · cases h
    · cases h
  | σ, σ', [], _ :: _, p, vs, h, hle, hv, hd => by simp [mSVs] at h
  | σ, σ', _ :: _, [], p, vs, h, hle, hv, hd => by simp [mSVs] at h
end
def zeroOf : List Col → List Col
  | [] => []
  | .ints k _ :: l => .ints k [] :: zeroOf l
  | .strs _ :: l => .strs [] :: zeroOf l
  | .bools _ :: l => .bools [] :: zeroOf l
theorem zeroOf_empty : ∀ (l : List Col), emptyC (zeroOf l) = true ∧ (zeroOf l).length = l.length
  | [] => ⟨rfl, rfl⟩
  | .ints k _ :: l => by have := zeroOf_empty l; exact ⟨by simp [zeroOf, emptyC, Col.len, this.1], by simp [zeroOf, this.2]⟩
  | .strs _ :: l => by have := zeroOf_empty l; exact ⟨by simp [zeroOf, emptyC, Col.len, this.1], by simp [zeroOf, this.2]⟩
  | .bools _ :: l => by have := zeroOf_empty l; exact ⟨by simp [zeroOf, emptyC, Col.len, this.1], by simp [zeroOf, this.2]⟩
def onesAll : List Seg → Option (List SV)
  | [] => some []
  | .one a :: s => (onesAll s).map (a :: ·)
  | .arr _ _ :: _ => none
theorem onesAll_sound {ρ : List Nat} : ∀ {s : List Seg} {l : List SV} {cs : List Value}, onesAll s = some l → SegsOK ρ s cs → DenL ρ l cs
  | [], l, cs, h, hs => by simp only [onesAll, Option.some.injEq] at h; subst h; exact hs
  | .one a :: s, l, cs, h, hs => by
    simp only [onesAll, Option.map_eq_some_iff] at h
    obtain ⟨l', hl, rfl⟩ := h
    simp only [SegsOK] at hs
    obtain ⟨c, cs', rfl, hc, hs⟩ := hs
    exact ⟨c, cs', rfl, hc, onesAll_sound hl hs⟩
  | .arr _ _ :: _, l, cs, h, hs => by simp [onesAll] at h
def onesRows (cols : List Col) (s : List Seg) : Option (List Col × Nat) :=
  match onesAll s, cols.length with
  | some vs, c + 1 => (rowsOf (zeroOf cols) (vs.length / (c + 1)) vs).map fun r => (r, vs.length / (c + 1))
  | _, _ => none
def mSegs : List Seg → Sg → List Seg → Option (Sg × List Prop)
  | [], σ, [] => some (σ, [])
  | .one b :: t, σ, .one a :: s =>
    match mSV σ a b with
    | some (σ', p) => match mSegs t σ' s with
      | some (σ'', q) => some (σ'', p ++ q)
      | none => none
    | none => none
  | .arr m d :: t, σ, .arr n c :: s =>
    match eqZ n m, mCols c d, mSegs t σ s with
    | some p, some q, some (σ', r) => some (σ', p ++ q ++ r)
    | _, _, _ => none
  | .arr (.l m) [.ints k l] :: t, σ, .one a :: s =>
    match onesInts k m.toNat (.one a :: s) with
    | some (l', s') =>
      match mSegs t σ s' with
      | some (σ', r) => some (σ', (l' = l) :: r)
      | none => none
    | none => none
  | .arr z cols :: [], σ, .one a :: s =>
    match onesRows cols (.one a :: s) with
    | some (cols', n) =>
      match mCols cols' cols, eqZ (.l (n : Int)) z with
      | some p, some q => some (σ, p ++ q)
      | _, _ => none
    | none => none
  | _, _, _ => none
theorem mSegs_le : ∀ {t : List Seg} {σ σ' : Sg} {s : List Seg} {p : List Prop}, mSegs t σ s = some (σ', p) → SgLe σ σ'
  | [], σ, σ', s, p, h => by
    unfold mSegs at h
    split at h <;> first | (cases h; exact SgLe.refl _) | (rename_i he; cases he; done) | (cases h; done) | (rename_i he _; cases he; done)
  | sg :: t, σ, σ', s, p, h => by
    unfold mSegs at h
    split at h
    · rename_i he; cases he
    · rename_i he
      cases he
      split at h
      · rename_i h1
        split at h
        · rename_i h2
          cases h
          exact (mSV_le h1).trans (mSegs_le h2)
        · cases h
      · cases h
    · rename_i he
      cases he
      split at h
      · rename_i h1
        cases h
        exact mSegs_le h1
      · cases h
    · rename_i he
      cases he
      split at h
      · split at h
        · rename_i h1
          cases h
          exact mSegs_le h1
        · cases h
      · cases h
    · rename_i he
      cases he
      split at h
      · split at h
        · cases h; exact SgLe.refl _
        · cases h
      · cases h
    · cases h
theorem mSegs_sound {ρ ρt : List Nat} {σf : Sg} (hσ : SgOK σf ρ ρt) : ∀ {t : List Seg} {σ σ' : Sg} {s : List Seg} {p : List Prop} {cs : List Value},
    mSegs t σ s = some (σ', p) → SgLe σ' σf → AllP p → SegsOK ρ s cs → SegsOK ρt t cs
  | [], σ, σ', s, p, cs, h, hle, hv, hs => by
    unfold mSegs at h
    split at h
    · exact hs
    · rename_i he; cases he
    · rename_i he; cases he
    · rename_i he; cases he
    · rename_i he; cases he
    · cases h
  | sg :: t, σ, σ', s, p, cs, h, hle, hv, hs => by
    unfold mSegs at h
    split at h
    · rename_i he; cases he
    · rename_i he
      cases he
      split at h
      · rename_i h1
        split at h
        · rename_i h2
          cases h
          obtain ⟨v1, v2⟩ := allP_append.1 hv
          simp only [SegsOK] at hs ⊢
          obtain ⟨c, cs', hcs, hc, hs⟩ := hs
          exact ⟨c, cs', hcs, mSV_sound hσ h1 ((mSegs_le h2).trans hle) v1 hc, mSegs_sound hσ h2 hle v2 hs⟩
        · cases h
      · cases h
    · rename_i he
      cases he
      split at h
      · rename_i h1 h2 h3
        cases h
        obtain ⟨v12, v3⟩ := allP_append.1 hv
        obtain ⟨v1, v2⟩ := allP_append.1 v12
        simp only [SegsOK] at hs ⊢
        obtain ⟨a, b, hcs, ha, hs⟩ := hs
        rw [← eqZ_sound h1 v1, ← mCols_sound h2 v2]
        exact ⟨a, b, hcs, ha, mSegs_sound hσ h3 hle v3 hs⟩
      · cases h
    · rename_i m k l t' a s' he
      cases he
      split at h
      · rename_i l' s'' h1
        split at h
        · rename_i h2
          cases h
          obtain ⟨hl, v2⟩ := hv
          subst hl
          obtain ⟨hlen, cs', rfl, hs'⟩ := onesInts_sound h1 hs
          simp only [SegsOK]
          refine ⟨_, cs', rfl, ?_, mSegs_sound hσ h2 hle v2 hs'⟩
          rw [zl]
          exact {
            size := by simp [hlen]
            le := fun c hc => by simp at hc; subst hc; simp [Col.len, hlen]
            cell := fun i j c hc hi => by
              cases j with
              | zero =>
                simp at hc
                subst hc
                simp only [Col.len] at hi
                simp [Col.at, List.getD, List.getElem?_eq_getElem hi]
              | succ j => simp at hc
            flat := fun v hv => by
              obtain ⟨n, _, rfl⟩ := List.mem_map.1 hv
              exact ⟨(fun l h => by cases h), (fun l h => by cases h)⟩ }
        · cases h
      · cases h
    · rename_i z cols a s' _ he
      cases he
      split at h
      · rename_i cols' n hr
        split at h
        · rename_i h1 h2
          cases h
          obtain ⟨v1, v2⟩ := allP_append.1 hv
          have e1 := mCols_sound h1 v1
          have e2 := eqZ_sound h2 v2
          subst e1
          unfold onesRows at hr
          split at hr
          · rename_i vs c ho hc
            simp only [Option.map_eq_some_iff, Prod.mk.injEq] at hr
            obtain ⟨r, hr, rfl, rfl⟩ := hr
            have hd := onesAll_sound ho hs
            obtain ⟨hlen, hrow⟩ := rowsOf_sound (zeroOf_empty r).1 hd hr
            simp only [SegsOK]
            refine ⟨cs, [], (List.append_nil _).symm, ?_, rfl⟩
            rw [← e2, show (Z.l (((vs.length / (c + 1) : Nat)) : Int)).val.toNat = vs.length / (c + 1) from Int.toNat_natCast _]
            exact { size := hrow.size, le := fun c hc => by rw [hrow.len c hc]; exact Nat.le_refl _, cell := fun i j c hj hi => hrow.cell i j c hj (by rw [← hrow.len c (List.mem_of_getElem? hj)]; exact hi), flat := fun v hv => ⟨(hrow.flat v hv).1, (hrow.flat v hv).2.1⟩ }
          · cases hr
        · cases h
      · cases h
    · cases h
def colNil : Col → Prop
  | .ints _ l => l = []
  | .strs l => l = []
  | .bools l => l = []
def nilSegs : List Seg → Option (List Prop)
  | [] => some []
  | .one _ :: _ => none
  | .arr n cols :: s =>
    match eqZ n (.l 0), nilSegs s with
    | some p, some q => some (p ++ (cols.map colNil ++ q))
    | _, _ => none
theorem allP_mem {l : List Prop} (h : AllP l) : ∀ p ∈ l, p := by
  induction l with
  | nil => intro p hp; cases hp
  | cons a l ih =>
    intro p hp
    rcases List.mem_cons.1 hp with e | e
    · subst e; exact h.1
    · exact ih h.2 p e
theorem nilSegs_sound {ρ : List Nat} : ∀ {s : List Seg} {p : List Prop}, nilSegs s = some p → AllP p → SegsOK ρ s []
  | [], p, h, hv => rfl
  | .one _ :: _, p, h, hv => by simp [nilSegs] at h
  | .arr n cols :: s, p, h, hv => by
    simp only [nilSegs] at h
    split at h
    · rename_i h1 h2
      cases h
      obtain ⟨v1, v23⟩ := allP_append.1 hv
      obtain ⟨v2, v3⟩ := allP_append.1 v23
      have hn := eqZ_sound h1 v1
      have hc : ∀ c ∈ cols, c.len = 0 := fun c hc => by
        have := allP_mem v2 (colNil c) (List.mem_map_of_mem hc)
        cases c <;> simp only [colNil] at this <;> subst this <;> rfl
      simp only [SegsOK]
      refine ⟨[], [], rfl, { size := by rw [hn]; simp [Z.val], le := fun c h => by rw [hc c h]; omega, cell := fun i j c hj hi => ?_, flat := by simp }, nilSegs_sound h2 v3⟩
      rw [hc c (List.mem_of_getElem? hj)] at hi
      omega
    · cases h
def mBlks (hp : List Blk) : List Blk → Nat → Sg → Option (Sg × List Prop)
  | [], _, σ => some (σ, [])
  | .gone :: bs, i, σ => mBlks hp bs (i + 1) σ
  | .mk t segs :: bs, i, σ =>
    match σ[i]? with
    | some (some n) =>
      match hp[n]? with
      | some (.mk t' segs') =>
        if t = t' then
          match mSegs segs σ segs' with
          | some (σ', p) => match mBlks hp bs (i + 1) σ' with
            | some (σ'', q) => some (σ'', p ++ q)
            | none => none
          | none => none
        else none
      | _ => none
    | some none =>
      match nilSegs segs with
      | some p => match mBlks hp bs (i + 1) σ with
        | some (σ'', q) => some (σ'', p ++ q)
        | none => none
      | none => none
    | _ => none
theorem mBlks_le {hp : List Blk} : ∀ {bs : List Blk} {i : Nat} {σ σ' : Sg} {p : List Prop}, mBlks hp bs i σ = some (σ', p) → SgLe σ σ'
  | [], i, σ, σ', p, h => by simp only [mBlks, Option.some.injEq, Prod.mk.injEq] at h; obtain ⟨rfl, _⟩ := h; exact SgLe.refl _
  | .gone :: bs, i, σ, σ', p, h => by simp only [mBlks] at h; exact mBlks_le h
  | .mk t segs :: bs, i, σ, σ', p, h => by
    simp only [mBlks] at h
    split at h
    · split at h
      · split at h
        · split at h
          · rename_i h1
            split at h
            · rename_i h2
              cases h
              exact (mSegs_le h1).trans (mBlks_le h2)
            · cases h
          · cases h
        · cases h
      · cases h
    · split at h
      · split at h
        · rename_i h2
          cases h
          exact mBlks_le h2
        · cases h
      · cases h
    · cases h
theorem mBlks_sound {ρ ρt : List Nat} {σf : Sg} (hσ : SgOK σf ρ ρt) {hp : List Blk} {w : World} (H : HOK ρ hp w) : ∀ {bs : List Blk} {i : Nat} {σ σ' : Sg} {p : List Prop},
    mBlks hp bs i σ = some (σ', p) → SgLe σ' σf → AllP p → ∀ (j : Nat) (b : Blk), bs[j]? = some b → (∀ n, ρt[i + j]? = some n → BlkOK ρt w n b) ∧
      (b.there → ∃ (n : Nat) (x : Blk), σf[i + j]? = some (some n) ∧ hp[n]? = some x ∧ x.there)
  | [], i, σ, σ', p, h, hle, hv, j, b, hj => by simp at hj
  | .gone :: bs, i, σ, σ', p, h, hle, hv, j, b, hj => by
    cases j with
    | zero => simp at hj; subst hj; exact ⟨fun _ _ => trivial, fun h => h.elim⟩
    | succ j =>
      simp only [mBlks] at h
      have := mBlks_sound hσ H h hle hv j b (by simpa using hj)
      rw [show i + 1 + j = i + (j + 1) by omega] at this
      exact this
  | .mk t segs :: bs, i, σ, σ', p, h, hle, hv, j, b, hj => by
    simp only [mBlks] at h
    split at h
    · rename_i m hm
      split at h
      · rename_i t' segs' hb
        split at h
        · rename_i ht
          subst ht
          split at h
          · rename_i h1
            split at h
            · rename_i h2
              cases h
              obtain ⟨v1, v2⟩ := allP_append.1 hv
              cases j with
              | succ j =>
                have := mBlks_sound hσ H h2 hle v2 j b (by simpa using hj)
                rw [show i + 1 + j = i + (j + 1) by omega] at this
                exact this
              | zero =>
                simp at hj
                subst hj
                have hle1 := (mBlks_le h2).trans hle
                have hm' := ((mSegs_le h1).trans hle1).1 _ _ hm
                obtain ⟨b', hb1, hb2⟩ := hσ.1 _ _ hm'
                obtain ⟨cs, fz, hpres, hs⟩ := blk_cells H hb hb1
                have hs' := mSegs_sound hσ h1 hle1 v1 hs
                refine ⟨fun n hn => ?_, fun hth => ⟨m, _, hm', hb, ?_⟩⟩
                · rw [Nat.add_zero, hb2] at hn
                  cases hn
                  exact ⟨cs, fz, hpres, hs'⟩
                · simp only [Blk.there, ← segsOK_size hs, ← segsOK_size hs'] at hth ⊢
                  exact hth
            · cases h
          · cases h
        · cases h
      · cases h
    · split at h
      · rename_i q hq
        split at h
        · rename_i h2
          cases h
          obtain ⟨v1, v2⟩ := allP_append.1 hv
          cases j with
          | succ j =>
            have := mBlks_sound hσ H h2 hle v2 j b (by simpa using hj)
            rw [show i + 1 + j = i + (j + 1) by omega] at this
            exact this
          | zero =>
            simp at hj
            subst hj
            have hs := nilSegs_sound (ρ := ρt) hq v1
            exact ⟨fun n hn => ⟨#[], (0, 0), fun h => absurd rfl h, hs⟩, fun hth => absurd (segsOK_size hs).symm hth⟩
        · cases h
      · cases h
    · cases h
end Go.Eng
/- The executor, fifteenth text: a whole symbolic state seen as another. -/
set_option linter.unusedSimpArgs false
set_option linter.unusedSectionVars false
namespace Go.Eng
variable [CW : CWorld]
def sgNames : Sg → List Blk → List Nat
  | some n :: σ, .mk _ _ :: bs => n :: sgNames σ bs
  | _ :: σ, _ :: bs => sgNames σ bs
  | _, _ => []
def nodupB : List Nat → Bool
  | [] => true
  | a :: l => !l.contains a && nodupB l
theorem nodupB_sound {l : List Nat} (h : nodupB l = true) : l.Nodup := by
  induction l with
  | nil => exact List.nodup_nil
  | cons a l ih =>
    simp only [nodupB, Bool.and_eq_true, Bool.not_eq_true', List.contains_eq_mem, decide_eq_false_iff_not] at h
    exact List.nodup_cons.2 ⟨h.1, ih h.2⟩
theorem sgNames_mem : ∀ {σ : Sg} {bs : List Blk} {i n : Nat} {t : TypeId} {s : List Seg}, σ[i]? = some (some n) → bs[i]? = some (.mk t s) → n ∈ sgNames σ bs
  | [], bs, i, n, t, s, h, hb => by simp at h
  | x :: σ, [], i, n, t, s, h, hb => by simp at hb
  | x :: σ, b :: bs, i, n, t, s, h, hb => by
    cases i with
    | zero =>
      simp at h hb
      subst h hb
      simp [sgNames]
    | succ i =>
      have := sgNames_mem (σ := σ) (bs := bs) (by simpa using h) (by simpa using hb)
      cases x with
      | none => simpa [sgNames] using this
      | some m => cases b <;> simp [sgNames, this]
theorem sgNames_inj : ∀ {σ : Sg} {bs : List Blk} {i j n : Nat} {t t' : TypeId} {s s' : List Seg}, (sgNames σ bs).Nodup →
    σ[i]? = some (some n) → bs[i]? = some (.mk t s) → σ[j]? = some (some n) → bs[j]? = some (.mk t' s') → i = j
  | [], bs, i, j, n, t, t', s, s', hnd, h, hb, h', hb' => by simp at h
  | x :: σ, [], i, j, n, t, t', s, s', hnd, h, hb, h', hb' => by simp at hb
  | x :: σ, b :: bs, i, j, n, t, t', s, s', hnd, h, hb, h', hb' => by
    have tail : (sgNames σ bs).Nodup := by
      cases x with
      | none => simpa [sgNames] using hnd
      | some m => cases b with
        | gone => simpa [sgNames] using hnd
        | mk t s => simp only [sgNames, List.nodup_cons] at hnd; exact hnd.2
    cases i with
    | zero =>
      cases j with
      | zero => rfl
      | succ j =>
        simp at h hb h' hb'
        subst h hb
        have := sgNames_mem h' hb'
        simp only [sgNames, List.nodup_cons] at hnd
        exact absurd this hnd.1
    | succ i =>
      cases j with
      | zero =>
        simp at h hb h' hb'
        subst h' hb'
        have := sgNames_mem h hb
        simp only [sgNames, List.nodup_cons] at hnd
        exact absurd this hnd.1
      | succ j =>
        have := sgNames_inj (σ := σ) (bs := bs) (i := i) (j := j) tail (by simpa using h) (by simpa using hb) (by simpa using h') (by simpa using hb')
        omega
def sg0 (m k : Nat) : Sg := (List.range m).map some ++ List.replicate (k - m) none
theorem sg0_get {m k i : Nat} (h : i < m) : (sg0 m k)[i]? = some (some i) := by
  simp [sg0, List.getElem?_append_left, h]
def hasB (hp : List Blk) : Sg → List Blk → Bool
  | some n :: σ, .mk _ _ :: bs => match hp[n]? with
    | some (.mk _ _) => hasB hp σ bs
    | _ => false
  | _ :: σ, _ :: bs => hasB hp σ bs
  | _, _ => true
theorem hasB_sound {hp : List Blk} : ∀ {σ : Sg} {bs : List Blk}, hasB hp σ bs = true → ∀ (j n : Nat) (t : TypeId) (s : List Seg), bs[j]? = some (.mk t s) → σ[j]? = some (some n) → ∃ (t' : TypeId) (s' : List Seg), hp[n]? = some (.mk t' s')
  | [], bs, h, j, n, t, s, hb, hs => by simp at hs
  | x :: σ, [], h, j, n, t, s, hb, hs => by simp at hb
  | x :: σ, b :: bs, h, j, n, t, s, hb, hs => by
    cases j with
    | zero =>
      simp at hb hs
      subst hb hs
      simp only [hasB] at h
      split at h
      · rename_i hn; exact ⟨_, _, hn⟩
      · cases h
    | succ j =>
      have rest : hasB hp σ bs = true := by
        cases x with
        | none => simpa [hasB] using h
        | some m => cases b with
          | gone => simpa [hasB] using h
          | mk t s =>
            simp only [hasB] at h
            split at h
            · exact h
            · cases h
      exact hasB_sound rest j n t s (by simpa using hb) (by simpa using hs)
def mState (m : Nat) (fr : List SV) (hp : List Blk) (frT : List SV) (hpT : List Blk) : Option (Sg × List Prop) :=
  match mSVs (sg0 m hpT.length) fr frT with
  | some (σ, p) =>
    match mBlks hp hpT 0 σ with
    | some (σ', q) => if nodupB (sgNames σ' hpT) = true ∧ σ'.length = hpT.length ∧ m ≤ hpT.length ∧ hasB hp σ' hpT = true then some (σ', p ++ q) else none
    | none => none
  | none => none
def sgFill (σ : Sg) (ρ : List Nat) (d : Nat) : List Nat :=
  σ.map fun | some n => ρ.getD n d | none => d
def SgIn (σ : Sg) (k : Nat) : Prop := ∀ (n m : Nat), σ[n]? = some (some m) → m < k
structure Seen (σ : Sg) (ρ : List Nat) (hp : List Blk) (w : World) (ρt : List Nat) (frT : List SV) (hpT : List Blk) (vs : List Value) : Prop where
  sg : SgOK σ ρ ρt
  len : σ.length = hpT.length
  hok : HOK ρt hpT w
  den : DenL ρt frT vs
  nodup : (sgNames σ hpT).Nodup
  has : ∀ (j n : Nat) (t : TypeId) (s : List Seg), hpT[j]? = some (.mk t s) → σ[j]? = some (some n) → ∃ (t' : TypeId) (s' : List Seg), hp[n]? = some (.mk t' s')
  off : ∀ (j : Nat) (b : Blk), hpT[j]? = some b → σ[j]? = some none → ¬ b.there
  inn : SgIn σ ρ.length
  own : ∀ n, Own ρt hpT n → Own ρ hp n
  src : ∀ (i : Nat) (b : Blk), hpT[i]? = some b → b.there → ∃ n, σ[i]? = some (some n) ∧ n < ρ.length ∧ ∃ x, hp[n]? = some x ∧ x.there
mutual
theorem mSV_in {ρ : List Nat} {σ σ' : Sg} : ∀ {a b : SV} {p : List Prop} {v : Value}, mSV σ a b = some (σ', p) → SgIn σ ρ.length → Den ρ a v → SgIn σ' ρ.length
  | a, b, p, v, h, hin, hd => by
    have bi : ∀ {σ' : Sg} {n n' x : Nat}, bindN σ n' n = some σ' → ρ[n]? = some x → SgIn σ' ρ.length := fun {σ' n n' x} hb hx => by
      have hn := (List.getElem?_eq_some_iff.1 hx).1
      unfold bindN at hb
      split at hb
      · rename_i h0
        cases hb
        intro i m hm
        by_cases e : n' = i
        · subst e
          rw [List.getElem?_set_self (List.getElem?_eq_some_iff.1 h0).1] at hm
          cases hm
          exact hn
        · rw [List.getElem?_set_ne e] at hm
          exact hin i m hm
      · split at hb
        · cases hb; exact hin
        · cases hb
      · cases hb
    unfold mSV at h
    split at h
    all_goals first | (cases h; exact hin) | (cases h; done) | skip
    · split at h
      · simp only [Option.map_eq_some_iff, Prod.mk.injEq] at h
        obtain ⟨_, _, rfl, _⟩ := h
        exact hin
      · cases h
    · simp only [Option.map_eq_some_iff, Prod.mk.injEq] at h
      obtain ⟨_, _, rfl, _⟩ := h
      exact hin
    · split at h
      · rename_i hb _
        cases h
        simp only [Den] at hd
        obtain ⟨x, hx, _⟩ := hd
        exact bi hb hx
      · cases h
    · split at h
      · rename_i hb
        cases h
        simp only [Den] at hd
        obtain ⟨x, hx, _⟩ := hd
        exact bi hb hx
      · cases h
    · split at h
      · rename_i hb _ _ _
        cases h
        simp only [Den] at hd
        obtain ⟨_, x, hx, _⟩ := hd
        exact bi hb hx
      · cases h
    · split at h
      · simp only [Den] at hd
        obtain ⟨vs, _, hd⟩ := hd
        exact mSVs_in h hin hd
      · cases h
    · split at h
      · simp only [Den] at hd
        obtain ⟨y, _, hd⟩ := hd
        exact mSV_in h hin hd
      · cases h
    · simp only [Den] at hd
      obtain ⟨vs, _, hd⟩ := hd
      exact mSVs_in h hin hd
    · simp only [Den] at hd
      obtain ⟨vs, _, hd⟩ := hd
      exact mSVs_in h hin hd
    · simp only [Den] at hd
      obtain ⟨_, _, _, vs, hd, _⟩ := hd
      exact mSVs_in h hin hd
    · split at h
      · cases h; exact hin
      · cases h
    · split at h
      · cases h; exact hin
      · cases h
    · split at h
      · cases h; exact hin
      · cases h
theorem mSVs_in {ρ : List Nat} {σ σ' : Sg} : ∀ {l m : List SV} {p : List Prop} {vs : List Value}, mSVs σ l m = some (σ', p) → SgIn σ ρ.length → DenL ρ l vs → SgIn σ' ρ.length
  | [], [], p, vs, h, hin, hd => by simp only [mSVs, Option.some.injEq, Prod.mk.injEq] at h; obtain ⟨rfl, _⟩ := h; exact hin
  | a :: l, b :: m, p, vs, h, hin, hd => by
    simp only [mSVs] at h
    split at h
    · rename_i h1
      split at h
      · rename_i h2
        cases h
        simp only [DenL] at hd
        obtain ⟨v, vs', _, hd1, hd2⟩ := hd
        exact mSVs_in h2 (mSV_in h1 hin hd1) hd2
      · cases h
    · cases h
  | [], _ :: _, p, vs, h, hin, hd => by simp [mSVs] at h
  | _ :: _, [], p, vs, h, hin, hd => by simp [mSVs] at h
end
theorem mSegs_in {ρ : List Nat} : ∀ {t : List Seg} {σ σ' : Sg} {s : List Seg} {p : List Prop} {cs : List Value}, mSegs t σ s = some (σ', p) → SgIn σ ρ.length → SegsOK ρ s cs → SgIn σ' ρ.length
  | [], σ, σ', s, p, cs, h, hin, hs => by
    unfold mSegs at h
    split at h
    · cases h; exact hin
    · rename_i he; cases he
    · rename_i he; cases he
    · rename_i he; cases he
    · rename_i he; cases he
    · cases h
  | sg :: t, σ, σ', s, p, cs, h, hin, hs => by
    unfold mSegs at h
    split at h
    · rename_i he; cases he
    · rename_i he
      cases he
      split at h
      · rename_i h1
        split at h
        · rename_i h2
          cases h
          simp only [SegsOK] at hs
          obtain ⟨c, cs', _, hc, hs⟩ := hs
          exact mSegs_in h2 (mSV_in h1 hin hc) hs
        · cases h
      · cases h
    · rename_i he
      cases he
      split at h
      · rename_i h3
        cases h
        simp only [SegsOK] at hs
        obtain ⟨a, b, _, _, hs⟩ := hs
        exact mSegs_in h3 hin hs
      · cases h
    · rename_i he
      cases he
      split at h
      · rename_i h1
        split at h
        · rename_i h2
          cases h
          obtain ⟨_, cs', _, hs'⟩ := onesInts_sound h1 hs
          exact mSegs_in h2 hin hs'
        · cases h
      · cases h
    · rename_i he
      cases he
      split at h
      · split at h
        · cases h; exact hin
        · cases h
      · cases h
    · cases h
theorem mBlks_in {ρ : List Nat} {hp : List Blk} {w : World} (H : HOK ρ hp w) : ∀ {bs : List Blk} {i : Nat} {σ σ' : Sg} {p : List Prop}, mBlks hp bs i σ = some (σ', p) → SgIn σ ρ.length → SgIn σ' ρ.length
  | [], i, σ, σ', p, h, hin => by simp only [mBlks, Option.some.injEq, Prod.mk.injEq] at h; obtain ⟨rfl, _⟩ := h; exact hin
  | .gone :: bs, i, σ, σ', p, h, hin => by simp only [mBlks] at h; exact mBlks_in H h hin
  | .mk t segs :: bs, i, σ, σ', p, h, hin => by
    simp only [mBlks] at h
    split at h
    · rename_i n hn
      split at h
      · rename_i t' segs' hb
        split at h
        · split at h
          · rename_i h1
            split at h
            · rename_i h2
              cases h
              have hlt := hin _ _ hn
              obtain ⟨cs, fz, _, hs⟩ := blk_cells H hb (List.getElem?_eq_getElem hlt)
              exact mBlks_in H h2 (mSegs_in h1 hin hs)
            · cases h
          · cases h
        · cases h
      · cases h
    · split at h
      · split at h
        · rename_i h2
          cases h
          exact mBlks_in H h2 hin
        · cases h
      · cases h
    · cases h
theorem seen {m : Nat} {σ : Sg} {ρ : List Nat} {hp : List Blk} {w : World} (H : HOK ρ hp w) {fr frT : List SV} {hpT : List Blk} {vs : List Value} {p : List Prop}
    (hm : m ≤ ρ.length) (h : mState m fr hp frT hpT = some (σ, p)) (hv : AllP p) (hd : DenL ρ fr vs) (d : Nat) :
    Seen σ ρ hp w (sgFill σ ρ d) frT hpT vs ∧ SgLe (sg0 m hpT.length) σ := by
  unfold mState at h
  split at h
  · rename_i σ1 p1 h1
    split at h
    · rename_i σ2 p2 h2
      split at h
      · rename_i hc
        cases h
        obtain ⟨hnd, hlen, hmk, hhas⟩ := hc
        have hnd := nodupB_sound hnd
        obtain ⟨v1, v2⟩ := allP_append.1 hv
        have hin0 : SgIn (sg0 m hpT.length) ρ.length := fun i n hn => by
          unfold sg0 at hn
          by_cases hi : i < m
          · rw [List.getElem?_append_left (by simpa using hi)] at hn
            simp [hi] at hn
            omega
          · rw [List.getElem?_append_right (by simp; omega)] at hn
            simp [List.getElem?_replicate] at hn
        have hin := mBlks_in H h2 (mSVs_in h1 hin0 hd)
        have sg : SgOK σ ρ (sgFill σ ρ d) := ⟨fun n k hk => by
          have hlt := hin n k hk
          refine ⟨ρ[k], List.getElem?_eq_getElem hlt, ?_⟩
          simp [sgFill, hk, hlt], by simp [sgFill]⟩
        have bs := mBlks_sound sg H h2 (SgLe.refl _) v2
        simp only [Nat.zero_add] at bs
        have offs : ∀ (j : Nat) (b : Blk), hpT[j]? = some b → σ[j]? = some none → ¬ b.there := fun j b hb hn hth => by
          obtain ⟨n, x, h3, _⟩ := (bs j b hb).2 hth
          rw [hn] at h3
          cases h3
        have owns : ∀ n, Own (sgFill σ ρ d) hpT n → Own ρ hp n := fun n ⟨i, b, hi, gi, ri⟩ => by
          obtain ⟨ni, xi, hni, hpi, ti⟩ := (bs i b hi).2 gi
          obtain ⟨bi, hbi, hbi'⟩ := sg.1 _ _ hni
          rw [hbi'] at ri
          cases ri
          exact ⟨ni, xi, hpi, ti, hbi⟩
        refine ⟨{ sg := sg, len := hlen, den := mSVs_sound sg h1 (mBlks_le h2) v1 hd, nodup := hnd, has := fun j n t s => hasB_sound hhas j n t s, inn := hin, off := offs, own := owns, src := fun i b hi gi => (by obtain ⟨ni, xi, hni, hpi, ti⟩ := (bs i b hi).2 gi; exact ⟨ni, hni, hin i ni hni, xi, hpi, ti⟩), hok := ?_ }, (mSVs_le h1).trans (mBlks_le h2)⟩
        refine { len := by simp [sgFill, hlen], inj := ?_, ok := fun i n b hi hn => (bs i b hi).1 n hn, cst := H.cst, above := fun i n b hi gi ri => ?_ }
        · intro i j n b c hi hj gi gj ri rj
          obtain ⟨ni, xi, hni, hpi, ti⟩ := (bs i b hi).2 gi
          obtain ⟨nj, xj, hnj, hpj, tj⟩ := (bs j c hj).2 gj
          obtain ⟨bi, hbi, hbi'⟩ := sg.1 _ _ hni
          obtain ⟨bj, hbj, hbj'⟩ := sg.1 _ _ hnj
          rw [hbi'] at ri
          rw [hbj'] at rj
          cases ri
          cases rj
          have := H.inj ni nj n _ _ hpi hpj ti tj hbi hbj
          subst this
          cases b with
          | gone => exact gi.elim
          | mk t s =>
            cases c with
            | gone => exact gj.elim
            | mk t' s' => exact sgNames_inj hnd hni hi hnj hj
        · obtain ⟨ni, xi, hni, hpi, ti⟩ := (bs i b hi).2 gi
          obtain ⟨bi, hbi, hbi'⟩ := sg.1 _ _ hni
          rw [hbi'] at ri
          cases ri
          exact H.above ni n _ hpi ti hbi
      · cases h
    · cases h
  · cases h
theorem Since.seen {σ : Sg} {ρ0 ρ : List Nat} {hp0 hp : List Blk} {w0 w : World} (S : Since ρ0 hp0 w0 ρ hp w) {fr frT : List SV} {hpT : List Blk} {vs : List Value} {p : List Prop}
    (h : mState ρ0.length fr hp frT hpT = some (σ, p)) (hv : AllP p) (hd : DenL ρ fr vs) : ∃ ρt, Since ρ0 hp0 w0 ρt hpT w ∧ DenL ρt frT vs := by
  obtain ⟨l, hl⟩ := S.old
  have hm : ρ0.length ≤ ρ.length := by rw [hl]; simp
  obtain ⟨hs, hle⟩ := Go.Eng.seen S.hok hm h hv hd w.heap.size
  have hmk : ρ0.length ≤ hpT.length := by
    unfold mState at h
    split at h
    · split at h
      · split at h
        · rename_i hc; exact hc.2.2.1
        · cases h
      · cases h
    · cases h
  have hfirst : ∀ i, i < ρ0.length → (sgFill σ ρ w.heap.size)[i]? = ρ0[i]? := fun i hi => by
    have h1 := hle.1 i i (sg0_get hi)
    obtain ⟨b, hb, hb'⟩ := hs.sg.1 _ _ h1
    rw [hb', ← hb, hl, List.getElem?_append_left hi]
  refine ⟨_, ?_, hs.den⟩
  exact {
    hok := hs.hok
    old := by
      refine ⟨(sgFill σ ρ w.heap.size).drop ρ0.length, ?_⟩
      apply List.ext_getElem?
      intro i
      by_cases hi : i < ρ0.length
      · rw [List.getElem?_append_left hi, hfirst i hi]
      · rw [List.getElem?_append_right (Nat.le_of_not_lt hi), List.getElem?_drop, show ρ0.length + (i - ρ0.length) = i by omega]
    new := fun n hn => S.new n (hs.own n hn)
    frame := S.frame
    size := S.size
    tape := S.tape
    os := S.os
    out := S.out }
end Go.Eng
/- The executor, sixteenth text: what a call leaves, in the caller's names. -/
set_option linter.unusedSimpArgs false
set_option linter.unusedSectionVars false
namespace Go.Eng
variable [CW : CWorld]
mutual
def SV.ren (f : Nat → Nat) : SV → SV
  | .any => .any
  | .int k z => .int k z
  | .bool b => .bool b
  | .str s => .str s
  | .ptr n o => .ptr (f n) o
  | .nptr => .nptr
  | .map n => .map (f n)
  | .nmap => .nmap
  | .slc n o l c => .slc (f n) o l c
  | .nslc => .nslc
  | .fn g cs => .fn g (renL f cs)
  | .nfn => .nfn
  | .ifc t v => .ifc t (v.ren f)
  | .nifc => .nifc
  | .agg l => .agg (renL f l)
  | .tup l => .tup (renL f l)
  | .cs c l k => .cs c l k
  | .cp l => .cp (renL f l)
def renL (f : Nat → Nat) : List SV → List SV
  | [] => []
  | a :: l => a.ren f :: renL f l
end
def renS (f : Nat → Nat) : List Seg → List Seg
  | [] => []
  | .one v :: s => .one (v.ren f) :: renS f s
  | .arr n c :: s => .arr n c :: renS f s
def Blk.ren (f : Nat → Nat) : Blk → Blk
  | .gone => .gone
  | .mk t s => .mk t (renS f s)
mutual
theorem Den.ren {ρ ρ' : List Nat} {f : Nat → Nat} (hf : ∀ (n b : Nat), ρ[n]? = some b → ρ'[f n]? = some b) : ∀ {a : SV} {v : Value}, Den ρ a v → Den ρ' (a.ren f) v
  | .any, _, _ => by simp [SV.ren, Den]
  | .int _ _, _, h => by simpa only [SV.ren, Den] using h
  | .bool _, _, h => by simpa only [SV.ren, Den] using h
  | .str _, _, h => by simpa only [SV.ren, Den] using h
  | .ptr n o, v, h => by
    simp only [SV.ren, Den] at h ⊢
    obtain ⟨b, hb, hv⟩ := h
    exact ⟨b, hf _ _ hb, hv⟩
  | .nptr, _, h => by simpa only [SV.ren, Den] using h
  | .map n, v, h => by
    simp only [SV.ren, Den] at h ⊢
    obtain ⟨b, hb, hv⟩ := h
    exact ⟨b, hf _ _ hb, hv⟩
  | .nmap, _, h => by simpa only [SV.ren, Den] using h
  | .slc n o len cap, v, h => by
    simp only [SV.ren, Den] at h ⊢
    obtain ⟨off, b, hb, hv⟩ := h
    exact ⟨off, b, hf _ _ hb, hv⟩
  | .nslc, _, h => by simpa only [SV.ren, Den] using h
  | .fn g cs, v, h => by
    simp only [SV.ren, Den] at h ⊢
    obtain ⟨vs, hv, hc⟩ := h
    exact ⟨vs, hv, DenL.ren hf hc⟩
  | .nfn, _, h => by simpa only [SV.ren, Den] using h
  | .ifc t x, v, h => by
    simp only [SV.ren, Den] at h ⊢
    obtain ⟨y, hv, hc⟩ := h
    exact ⟨y, hv, Den.ren hf hc⟩
  | .nifc, _, h => by simpa only [SV.ren, Den] using h
  | .agg cs, v, h => by
    simp only [SV.ren, Den] at h ⊢
    obtain ⟨vs, hv, hc⟩ := h
    exact ⟨vs, hv, DenL.ren hf hc⟩
  | .tup cs, v, h => by
    simp only [SV.ren, Den] at h ⊢
    obtain ⟨vs, hv, hc⟩ := h
    exact ⟨vs, hv, DenL.ren hf hc⟩
  | .cs _ _ _, _, h => by simpa only [SV.ren, Den] using h
  | .cp cs, v, h => by
    simp only [SV.ren, Den] at h ⊢
    obtain ⟨b, off, hv, vs, hd, hc⟩ := h
    exact ⟨b, off, hv, vs, DenL.ren hf hd, hc⟩
theorem DenL.ren {ρ ρ' : List Nat} {f : Nat → Nat} (hf : ∀ (n b : Nat), ρ[n]? = some b → ρ'[f n]? = some b) : ∀ {as : List SV} {vs : List Value}, DenL ρ as vs → DenL ρ' (renL f as) vs
  | [], _, h => by simpa only [renL, DenL] using h
  | a :: as, vs, h => by
    simp only [renL, DenL] at h ⊢
    obtain ⟨v, vs', hv, hd, hl⟩ := h
    exact ⟨v, vs', hv, Den.ren hf hd, DenL.ren hf hl⟩
end
theorem SegsOK.ren {ρ ρ' : List Nat} {f : Nat → Nat} (hf : ∀ (n b : Nat), ρ[n]? = some b → ρ'[f n]? = some b) : ∀ {s : List Seg} {cs : List Value}, SegsOK ρ s cs → SegsOK ρ' (renS f s) cs
  | [], _, h => h
  | .one v :: s, cs, h => by
    simp only [renS, SegsOK] at h ⊢
    obtain ⟨c, cs', hc, hd, hs⟩ := h
    exact ⟨c, cs', hc, hd.ren hf, SegsOK.ren hf hs⟩
  | .arr n cols :: s, cs, h => by
    simp only [renS, SegsOK] at h ⊢
    obtain ⟨a, b, hc, hd, hs⟩ := h
    exact ⟨a, b, hc, hd, SegsOK.ren hf hs⟩
theorem BlkOK.ren {ρ ρ' : List Nat} {f : Nat → Nat} (hf : ∀ (n b : Nat), ρ[n]? = some b → ρ'[f n]? = some b) {w : World} {n : Nat} {b : Blk} (h : BlkOK ρ w n b) : BlkOK ρ' w n (b.ren f) := by
  cases b with
  | gone => trivial
  | mk t segs =>
    simp only [Blk.ren, BlkOK] at h ⊢
    obtain ⟨cs, fz, h1, h3⟩ := h
    exact ⟨cs, fz, h1, h3.ren hf⟩
theorem renS_size {f : Nat → Nat} : ∀ {s : List Seg}, segsSize (renS f s) = segsSize s
  | [] => rfl
  | .one _ :: s => by simp [renS, segsSize, renS_size (s := s)]
  | .arr _ _ :: s => by simp [renS, segsSize, renS_size (s := s)]
theorem Blk.ren_there {f : Nat → Nat} {b : Blk} : (b.ren f).there ↔ b.there := by
  cases b with
  | gone => exact Iff.rfl
  | mk t s => simp [Blk.ren, Blk.there, renS_size]
def setAll : List Blk → Sg → List Blk → List Blk
  | hp, some n :: σ, b :: bs => setAll (hp.set n b) σ bs
  | hp, none :: σ, _ :: bs => setAll hp σ bs
  | hp, _, _ => hp
theorem length_setAll : ∀ (σ : Sg) (hp bs : List Blk), (setAll hp σ bs).length = hp.length
  | [], hp, bs => by cases bs <;> rfl
  | some n :: σ, hp, [] => rfl
  | none :: σ, hp, [] => rfl
  | some n :: σ, hp, b :: bs => by rw [setAll, length_setAll]; simp
  | none :: σ, hp, b :: bs => by rw [setAll, length_setAll]
theorem setAll_other : ∀ (σ : Sg) (hp bs : List Blk) (c : Nat), (∀ i : Nat, σ[i]? ≠ some (some c)) → (setAll hp σ bs)[c]? = hp[c]?
  | [], hp, bs, c, h => by cases bs <;> rfl
  | some n :: σ, hp, [], c, h => rfl
  | none :: σ, hp, [], c, h => rfl
  | some n :: σ, hp, b :: bs, c, h => by
    rw [setAll, setAll_other σ _ bs c (fun i => by have := h (i + 1); simpa using this)]
    have : n ≠ c := fun e => h 0 (by simp [e])
    rw [List.getElem?_set_ne this]
  | none :: σ, hp, b :: bs, c, h => by rw [setAll, setAll_other σ _ bs c (fun i => by have := h (i + 1); simpa using this)]
theorem setAll_at : ∀ (σ : Sg) (hp bs : List Blk) (i c : Nat), (∀ (i j : Nat), σ[i]? = some (some c) → σ[j]? = some (some c) → i = j) → σ[i]? = some (some c) → c < hp.length → i < bs.length →
    (setAll hp σ bs)[c]? = bs[i]?
  | [], hp, bs, i, c, hu, h, hc, hi => by simp at h
  | x :: σ, hp, [], i, c, hu, h, hc, hi => by simp at hi
  | some n :: σ, hp, b :: bs, i, c, hu, h, hc, hi => by
    rw [setAll]
    cases i with
    | zero =>
      simp at h
      subst h
      rw [setAll_other σ _ bs n (fun i hi => by have := hu 0 (i + 1) (by simp) (by simpa using hi); omega), List.getElem?_set_self hc]
      rfl
    | succ i =>
      rw [setAll_at σ _ bs i c (fun i j hi hj => by have := hu (i + 1) (j + 1) (by simpa using hi) (by simpa using hj); omega) (by simpa using h) (by simpa using hc) (by simpa using hi)]
      simp
  | none :: σ, hp, b :: bs, i, c, hu, h, hc, hi => by
    rw [setAll]
    cases i with
    | zero => simp at h
    | succ i =>
      rw [setAll_at σ _ bs i c (fun i j hi hj => by have := hu (i + 1) (j + 1) (by simpa using hi) (by simpa using hj); omega) (by simpa using h) hc (by simpa using hi)]
      simp
def upName (σ : Sg) (k : Nat) (n : Nat) : Nat :=
  match σ[n]? with
  | some (some m) => m
  | _ => k + (n - σ.length)
def allMk : List Blk → Bool
  | [] => true
  | .mk _ _ :: l => allMk l
  | .gone :: _ => false
theorem allMk_get : ∀ {l : List Blk} {i : Nat}, allMk l = true → i < l.length → ∃ t s, l[i]? = some (.mk t s)
  | [], i, h, hi => by simp at hi
  | .gone :: l, i, h, hi => by simp [allMk] at h
  | .mk t s :: l, 0, h, hi => ⟨t, s, rfl⟩
  | .mk t s :: l, i + 1, h, hi => by
    obtain ⟨t', s', h'⟩ := allMk_get (l := l) (i := i) (by simpa [allMk] using h) (by simpa using hi)
    exact ⟨t', s', by simpa using h'⟩
def renBs (f : Nat → Nat) (l : List Blk) : List Blk := l.map (Blk.ren f)
def upHeap (σ : Sg) (hp H' : List Blk) : List Blk :=
  setAll hp σ (renBs (upName σ hp.length) (H'.take σ.length)) ++ renBs (upName σ hp.length) (H'.drop σ.length)
theorem Since.call {σ : Sg} {ρ ρt ρc : List Nat} {hp HT H' : List Blk} {w w' : World} {frT : List SV} {vs : List Value} (H : HOK ρ hp w) (hs : Seen σ ρ hp w ρt frT HT vs) (hall : allMk HT = true) (hbd : ∀ i, i < σ.length → ∃ n, σ[i]? = some (some n))
    (S : Since ρt HT w ρc H' w') :
    Since ρ hp w (ρ ++ ρc.drop σ.length) (upHeap σ hp H') w' ∧ ∀ (n b : Nat), ρc[n]? = some b → (ρ ++ ρc.drop σ.length)[upName σ hp.length n]? = some b := by
  have hlt : ρt.length = σ.length := by rw [hs.hok.len, hs.len]
  obtain ⟨l, hl⟩ := S.old
  have hcl : ρc.length = H'.length := S.hok.len
  have hge : σ.length ≤ ρc.length := by rw [hl, List.length_append, hlt]; omega
  have some_of : ∀ i, i < σ.length → ∃ (n : Nat) (t : TypeId) (s : List Seg), σ[i]? = some (some n) ∧ hp[n]? = some (.mk t s) ∧ n < hp.length := fun i hi => by
    obtain ⟨t, s, ht⟩ := allMk_get hall (show i < HT.length by rw [← hs.len]; exact hi)
    obtain ⟨n, h1⟩ := hbd i hi
    obtain ⟨t', s', h2⟩ := hs.has i n t s ht h1
    exact ⟨n, t', s', h1, h2, (List.getElem?_eq_some_iff.1 h2).1⟩
  have σlt : ∀ (i n : Nat), σ[i]? = some (some n) → i < σ.length := fun i n h => (List.getElem?_eq_some_iff.1 h).1
  have uniq : ∀ (c i j : Nat), σ[i]? = some (some c) → σ[j]? = some (some c) → i = j := fun c i j hi hj => by
    obtain ⟨t, s, ht⟩ := allMk_get hall (show i < HT.length by rw [← hs.len]; exact σlt _ _ hi)
    obtain ⟨t', s', ht'⟩ := allMk_get hall (show j < HT.length by rw [← hs.len]; exact σlt _ _ hj)
    exact sgNames_inj hs.nodup hi ht hj ht'
  have up_lt : ∀ (i n : Nat), σ[i]? = some (some n) → upName σ hp.length i = n := fun i n h => by simp [upName, h]
  have up_ge : ∀ i, σ.length ≤ i → upName σ hp.length i = hp.length + (i - σ.length) := fun i h => by
    simp [upName, List.getElem?_eq_none h]
  have ρc_lt : ∀ (i : Nat), i < σ.length → ρc[i]? = ρt[i]? := fun i hi => by rw [hl, List.getElem?_append_left (by omega)]
  have num : ∀ (n b : Nat), ρc[n]? = some b → (ρ ++ ρc.drop σ.length)[upName σ hp.length n]? = some b := fun n b hn => by
    by_cases hi : n < σ.length
    · obtain ⟨m, t, s, h1, h2, h3⟩ := some_of n hi
      obtain ⟨b', hb, hb'⟩ := hs.sg.1 _ _ h1
      rw [up_lt _ _ h1, List.getElem?_append_left (by rw [H.len]; exact h3), hb]
      rw [ρc_lt n hi, hb'] at hn
      exact hn
    · rw [up_ge n (by omega), List.getElem?_append_right (by rw [H.len]; omega), H.len, List.getElem?_drop, show σ.length + (hp.length + (n - σ.length) - hp.length) = n by omega]
      exact hn
  have lenUp : (upHeap σ hp H').length = hp.length + (H'.length - σ.length) := by simp [upHeap, length_setAll, renBs]
  -- every name of the new memory is either an old one that was not handed over, or a callee's
  have split : ∀ (c : Nat) (b : Blk), (upHeap σ hp H')[c]? = some b →
      (c < hp.length ∧ (∀ i : Nat, σ[i]? ≠ some (some c)) ∧ hp[c]? = some b) ∨
      ∃ (j : Nat) (b' : Blk), H'[j]? = some b' ∧ b = b'.ren (upName σ hp.length) ∧ c = upName σ hp.length j := fun c b hb => by
    unfold upHeap at hb
    by_cases hc : c < hp.length
    · rw [List.getElem?_append_left (by rw [length_setAll]; exact hc)] at hb
      by_cases hex : ∃ i : Nat, σ[i]? = some (some c)
      · obtain ⟨i, hi⟩ := hex
        right
        have hil := σlt _ _ hi
        rw [setAll_at σ hp _ i c (uniq c) hi hc (by simp [renBs]; omega)] at hb
        simp only [renBs, List.getElem?_map, List.getElem?_take, hil, if_true, Option.map_eq_some_iff] at hb
        obtain ⟨b', hb1, hb2⟩ := hb
        exact ⟨i, b', hb1, hb2.symm, (up_lt _ _ hi).symm⟩
      · left
        have hno : ∀ i : Nat, σ[i]? ≠ some (some c) := fun i hi => hex ⟨i, hi⟩
        rw [setAll_other σ hp _ c hno] at hb
        exact ⟨hc, hno, hb⟩
    · right
      rw [List.getElem?_append_right (by rw [length_setAll]; omega), length_setAll] at hb
      simp only [renBs, List.getElem?_map, List.getElem?_drop, Option.map_eq_some_iff] at hb
      obtain ⟨b', hb1, hb2⟩ := hb
      refine ⟨σ.length + (c - hp.length), b', hb1, hb2.symm, ?_⟩
      rw [up_ge _ (by omega)]
      omega
  have apart : ∀ (c n : Nat) (x : Blk), hp[c]? = some x → x.there → (∀ i : Nat, σ[i]? ≠ some (some c)) → ρ[c]? = some n → ¬ Own ρt HT n := fun c b x hc gx hno hn ⟨i, y, hy, gy, hi⟩ => by
    obtain ⟨m, h1⟩ : ∃ m, σ[i]? = some (some m) := hbd i (by rw [hs.len]; exact (List.getElem?_eq_some_iff.1 hy).1)
    obtain ⟨b', hb, hb'⟩ := hs.sg.1 _ _ h1
    rw [hb'] at hi
    cases hi
    obtain ⟨j, z, hz, gz, hj⟩ := hs.own b ⟨i, y, hy, gy, hb'⟩
    have e1 := H.inj c j b _ _ hc hz gx gz hn hj
    subst e1
    obtain ⟨m', h2, h3, h4⟩ := hs.src i y hy gy
    rw [h1] at h2
    cases h2
    obtain ⟨z', hz', gz'⟩ := h4
    have e2 := H.inj c m b _ _ hc hz' gx gz' hn hb
    subst e2
    exact hno i h1
  refine ⟨?_, num⟩
  refine { hok := ?_, old := ⟨_, rfl⟩, new := ?_, frame := ?_, size := S.size, tape := S.tape, os := S.os, out := S.out }
  · refine { len := by rw [lenUp]; simp [H.len, hcl], inj := ?_, ok := ?_, cst := S.hok.cst, above := ?_ }
    · intro c d n x y hx hy gx gy hc hd
      have cross : ∀ (c j : Nat) (x b' : Blk), c < hp.length → (∀ i : Nat, σ[i]? ≠ some (some c)) → hp[c]? = some x → x.there → (ρ ++ ρc.drop σ.length)[c]? = some n →
          H'[j]? = some b' → b'.there → (ρ ++ ρc.drop σ.length)[upName σ hp.length j]? = some n → False := fun c j x b' hc hno hx gx hcn hj gb hjn => by
        cases x with
        | gone => exact gx.elim
        | mk t s =>
          rw [List.getElem?_append_left (by rw [H.len]; exact hc)] at hcn
          have hnt := apart c n _ hx gx hno hcn
          have hjl : j < ρc.length := by rw [hcl]; exact (List.getElem?_eq_some_iff.1 hj).1
          have h1 := num j _ (List.getElem?_eq_getElem hjl)
          rw [hjn] at h1
          cases h1
          have hj' : ρc[j]? = some ρc[j] := List.getElem?_eq_getElem hjl
          rcases S.new _ ⟨j, b', hj, gb, hj'⟩ with h2 | h2
          · have := H.lt hx gx hcn
            omega
          · exact hnt h2
      rcases split c x hx with ⟨a1, a2, a3⟩ | ⟨j, b', b1, b2, b3⟩ <;> rcases split d y hy with ⟨c1, c2, c3⟩ | ⟨k, d', d1, d2, d3⟩
      · refine H.inj c d n x y a3 c3 gx gy ?_ ?_
        · rw [List.getElem?_append_left (by rw [H.len]; exact a1)] at hc; exact hc
        · rw [List.getElem?_append_left (by rw [H.len]; exact c1)] at hd; exact hd
      · subst d3; exact (cross c k x d' a1 a2 a3 gx hc d1 (by rw [d2, Blk.ren_there] at gy; exact gy) hd).elim
      · subst b3; exact (cross d j y b' c1 c2 c3 gy hd b1 (by rw [b2, Blk.ren_there] at gx; exact gx) hc).elim
      · subst b3 d3
        have hjl : j < ρc.length := by rw [hcl]; exact (List.getElem?_eq_some_iff.1 b1).1
        have hkl : k < ρc.length := by rw [hcl]; exact (List.getElem?_eq_some_iff.1 d1).1
        have h1 := num j _ (List.getElem?_eq_getElem hjl)
        have h2 := num k _ (List.getElem?_eq_getElem hkl)
        rw [hc] at h1
        rw [hd] at h2
        have e1 : ρc[j]? = some n := by rw [List.getElem?_eq_getElem hjl]; exact h1.symm
        have e2 : ρc[k]? = some n := by rw [List.getElem?_eq_getElem hkl]; exact h2.symm
        rw [b2, Blk.ren_there] at gx
        rw [d2, Blk.ren_there] at gy
        rw [S.hok.inj j k n b' d' b1 d1 gx gy e1 e2]
    · intro c n x hx hc
      rcases split c x hx with ⟨a1, a2, a3⟩ | ⟨j, b', b1, b2, b3⟩
      · rw [List.getElem?_append_left (by rw [H.len]; exact a1)] at hc
        have h0 := (H.ok c n x a3 hc).mono (ρc.drop σ.length)
        cases x with
        | gone => trivial
        | mk t s => exact h0.same (fun ht => S.frame n (H.lt a3 ht hc) (apart c n _ a3 ht a2 hc))
      · subst b2 b3
        have hjl : j < ρc.length := by rw [hcl]; exact (List.getElem?_eq_some_iff.1 b1).1
        have h1 := num j _ (List.getElem?_eq_getElem hjl)
        rw [hc] at h1
        have e1 : ρc[j]? = some n := by rw [List.getElem?_eq_getElem hjl]; exact h1.symm
        exact (S.hok.ok j n b' b1 e1).ren num
    · intro c n x hx gx hc
      rcases split c x hx with ⟨a1, a2, a3⟩ | ⟨j, b', b1, b2, b3⟩
      · rw [List.getElem?_append_left (by rw [H.len]; exact a1)] at hc
        exact H.above c n x a3 gx hc
      · subst b2 b3
        have hjl : j < ρc.length := by rw [hcl]; exact (List.getElem?_eq_some_iff.1 b1).1
        have h1 := num j _ (List.getElem?_eq_getElem hjl)
        rw [hc] at h1
        have e1 : ρc[j]? = some n := by rw [List.getElem?_eq_getElem hjl]; exact h1.symm
        rw [Blk.ren_there] at gx
        exact S.hok.above j n b' b1 gx e1
  · rintro n ⟨c, x, hx, gx, hc⟩
    rcases split c x hx with ⟨a1, a2, a3⟩ | ⟨j, b', b1, b2, b3⟩
    · rw [List.getElem?_append_left (by rw [H.len]; exact a1)] at hc
      exact .inr ⟨c, x, a3, gx, hc⟩
    · subst b2 b3
      have hjl : j < ρc.length := by rw [hcl]; exact (List.getElem?_eq_some_iff.1 b1).1
      have h1 := num j _ (List.getElem?_eq_getElem hjl)
      rw [hc] at h1
      have e1 : ρc[j]? = some n := by rw [List.getElem?_eq_getElem hjl]; exact h1.symm
      rw [Blk.ren_there] at gx
      exact (S.new n ⟨j, b', b1, gx, e1⟩).imp id (hs.own n)
  · intro b hb hnot
    exact S.frame b hb (fun hmem => hnot (hs.own b hmem))
def fillPh : Sg → List Blk → List Blk → Sg × List Blk
  | some n :: σ, _ :: bs, hp => ((some n) :: (fillPh σ bs hp).1, (fillPh σ bs hp).2)
  | none :: σ, b :: bs, hp => (some hp.length :: (fillPh σ bs (hp ++ [b])).1, (fillPh σ bs (hp ++ [b])).2)
  | σ, _, hp => (σ, hp)
def Bnd (ρ : List Nat) : Sg → List Nat → Prop
  | [], [] => True
  | some m :: σ, b :: ρt => ρ[m]? = some b ∧ Bnd ρ σ ρt
  | none :: σ, _ :: ρt => Bnd ρ σ ρt
  | _, _ => False
theorem bnd_of {ρ : List Nat} : ∀ {σ : Sg} {ρt : List Nat}, SgOK σ ρ ρt → Bnd ρ σ ρt
  | [], [], h => trivial
  | [], _ :: _, h => by have := h.2; simp at this
  | _ :: _, [], h => by have := h.2; simp at this
  | some m :: σ, b :: ρt, h => by
    refine ⟨?_, bnd_of ⟨fun n k hk => h.1 (n + 1) k (by simpa using hk), by simpa using h.2⟩⟩
    obtain ⟨b', h1, h2⟩ := h.1 0 m rfl
    simp at h2
    subst h2
    exact h1
  | none :: σ, b :: ρt, h => bnd_of (σ := σ) (ρt := ρt) ⟨fun n k hk => h.1 (n + 1) k (by simpa using hk), by simpa using h.2⟩
theorem of_bnd {ρ : List Nat} : ∀ {σ : Sg} {ρt : List Nat}, Bnd ρ σ ρt → SgOK σ ρ ρt
  | [], [], h => ⟨fun n m hm => by simp at hm, rfl⟩
  | [], _ :: _, h => h.elim
  | some _ :: _, [], h => h.elim
  | none :: _, [], h => h.elim
  | some m :: σ, b :: ρt, h => by
    have h2 := of_bnd h.2
    refine ⟨fun n k hk => ?_, by simp [h2.2]⟩
    cases n with
    | zero => simp at hk; subst hk; exact ⟨b, h.1, rfl⟩
    | succ n => exact h2.1 n k (by simpa using hk)
  | none :: σ, b :: ρt, h => by
    have h2 := of_bnd (σ := σ) (ρt := ρt) h
    refine ⟨fun n k hk => ?_, by simp [h2.2]⟩
    cases n with
    | zero => simp at hk
    | succ n => exact h2.1 n k (by simpa using hk)
theorem Bnd.mono {ρ : List Nat} (l : List Nat) : ∀ {σ : Sg} {ρt : List Nat}, Bnd ρ σ ρt → Bnd (ρ ++ l) σ ρt
  | [], [], h => trivial
  | [], _ :: _, h => h.elim
  | some _ :: _, [], h => h.elim
  | none :: _, [], h => h.elim
  | some m :: σ, b :: ρt, h => ⟨by rw [List.getElem?_append_left (List.getElem?_eq_some_iff.1 h.1).1]; exact h.1, h.2.mono l⟩
  | none :: σ, b :: ρt, h => Bnd.mono (σ := σ) (ρt := ρt) l h
structure Filled (ρ : List Nat) (hp : List Blk) (w : World) (σ : Sg) (ρt : List Nat) (bs : List Blk) (ρ' : List Nat) : Prop where
  since : Since ρ hp w ρ' (fillPh σ bs hp).2 w
  bnd : Bnd ρ' (fillPh σ bs hp).1 ρt
  len : (fillPh σ bs hp).1.length = σ.length
  all : ∀ n ∈ (fillPh σ bs hp).1, n ≠ none
  pre : ∃ l, (fillPh σ bs hp).2 = hp ++ l
  old : ∀ (j n : Nat), σ[j]? = some (some n) → (fillPh σ bs hp).1[j]? = some (some n)
  new : ∀ (j n : Nat) (b : Blk), σ[j]? = some none → (fillPh σ bs hp).1[j]? = some (some n) → bs[j]? = some b → hp.length ≤ n ∧ (fillPh σ bs hp).2[n]? = some b
theorem segs_empty {ρ ρ' : List Nat} : ∀ {s : List Seg}, SegsOK ρ s [] → SegsOK ρ' s []
  | [], _ => rfl
  | .one _ :: _, h => by
    simp only [SegsOK] at h
    obtain ⟨_, _, h, _⟩ := h
    cases h
  | .arr n c :: s, h => by
    simp only [SegsOK] at h ⊢
    obtain ⟨a, b, h1, h2, h3⟩ := h
    have h1 := List.append_eq_nil_iff.1 h1.symm
    obtain ⟨rfl, rfl⟩ := h1
    exact ⟨[], [], rfl, h2, segs_empty h3⟩
theorem blk_empty {ρ ρ' : List Nat} {w w' : World} {n n' : Nat} {b : Blk} (h : BlkOK ρ w n b) (hn : ¬ b.there) : BlkOK ρ' w' n' b := by
  cases b with
  | gone => trivial
  | mk t s =>
    obtain ⟨cs, fz, _, hs⟩ := h
    have h0 : cs.toList = [] := by
      refine List.length_eq_zero_iff.1 ?_
      rw [segsOK_size hs]
      simpa [Blk.there] using hn
    rw [h0] at hs
    exact ⟨#[], (0, 0), fun h => absurd rfl h, segs_empty hs⟩
theorem fillPh_filled : ∀ {σ : Sg} {ρt : List Nat} {bs : List Blk} {ρ : List Nat} {hp : List Blk} {w : World}, HOK ρ hp w → Bnd ρ σ ρt → bs.length = σ.length →
    (∀ (j : Nat) (b : Blk), bs[j]? = some b → σ[j]? = some none → ¬ b.there ∧ ∃ (ρ1 : List Nat) (n : Nat), BlkOK ρ1 w n b) → ∃ ρ', Filled ρ hp w σ ρt bs ρ'
  | [], [], bs, ρ, hp, w, H, hb, hl, hn => by
    have : bs = [] := List.length_eq_zero_iff.1 hl
    subst this
    exact ⟨ρ, Since.refl H, trivial, rfl, fun n hn => by simp [fillPh] at hn, ⟨[], by simp [fillPh]⟩, fun j n h => by simp at h, fun j n b h => by simp at h⟩
  | [], _ :: _, bs, ρ, hp, w, H, hb, hl, hn => hb.elim
  | some _ :: _, [], bs, ρ, hp, w, H, hb, hl, hn => hb.elim
  | none :: _, [], bs, ρ, hp, w, H, hb, hl, hn => hb.elim
  | x :: σ, c :: ρt, [], ρ, hp, w, H, hb, hl, hn => by simp at hl
  | some m :: σ, c :: ρt, b :: bs, ρ, hp, w, H, hb, hl, hn => by
    obtain ⟨ρ', F⟩ := fillPh_filled (σ := σ) (ρt := ρt) (bs := bs) H hb.2 (by simpa using hl) (fun j b h1 h2 => hn (j + 1) b (by simpa using h1) (by simpa using h2))
    obtain ⟨l, hl'⟩ := F.since.old
    refine ⟨ρ', F.since, ⟨by rw [hl', List.getElem?_append_left (List.getElem?_eq_some_iff.1 hb.1).1]; exact hb.1, F.bnd⟩, by simp [fillPh, F.len], fun n hn => ?_, F.pre, fun j n h => ?_, fun j n d h1 h2 h3 => ?_⟩
    · simp only [fillPh, List.mem_cons] at hn
      rcases hn with e | e
      · subst e; simp
      · exact F.all n e
    · cases j with
      | zero => simpa [fillPh] using h
      | succ j => simpa [fillPh] using F.old j n (by simpa using h)
    · cases j with
      | zero => simp at h1
      | succ j => exact F.new j n d (by simpa using h1) (by simpa [fillPh] using h2) (by simpa using h3)
  | none :: σ, c :: ρt, b :: bs, ρ, hp, w, H, hb, hl, hn => by
    obtain ⟨hnt, ρ1, n1, hok⟩ := hn 0 b rfl rfl
    have S1 := Since.name H (n := c) (b := b) (blk_empty hok hnt) (fun _ _ _ _ _ => hnt) (fun h => absurd h hnt) (fun h => absurd h hnt)
    obtain ⟨ρ', F⟩ := fillPh_filled (σ := σ) (ρt := ρt) (bs := bs) S1.hok (Bnd.mono (σ := σ) (ρt := ρt) [c] hb) (by simpa using hl) (fun j b h1 h2 => hn (j + 1) b (by simpa using h1) (by simpa using h2))
    obtain ⟨l, hl'⟩ := F.since.old
    obtain ⟨l2, hl2⟩ := F.pre
    refine ⟨ρ', S1.trans F.since, ⟨?_, F.bnd⟩, by simp [fillPh, F.len], fun n hn => ?_, ⟨b :: l2, by simp [fillPh, hl2]⟩, fun j n h => ?_, fun j n d h1 h2 h3 => ?_⟩
    · rw [hl', List.append_assoc, List.getElem?_append_right (by rw [H.len]; exact Nat.le_refl _), ← H.len]
      simp
    · simp only [fillPh, List.mem_cons] at hn
      rcases hn with e | e
      · subst e; simp
      · exact F.all n e
    · cases j with
      | zero => simp at h
      | succ j => simpa [fillPh] using F.old j n (by simpa using h)
    · cases j with
      | zero =>
        simp [fillPh] at h2 h3
        subst h2 h3
        refine ⟨Nat.le_refl _, ?_⟩
        simp only [fillPh]
        rw [hl2, List.append_assoc, List.getElem?_append_right (Nat.le_refl _)]
        simp
      | succ j =>
        have := F.new j n d (by simpa using h1) (by simpa [fillPh] using h2) (by simpa using h3)
        refine ⟨?_, this.2⟩
        have h4 := this.1
        simp at h4
        omega
theorem fillPh_nodup : ∀ {σ : Sg} {bs hp : List Blk}, SgIn σ hp.length → (sgNames σ bs).Nodup → bs.length = σ.length →
    (sgNames (fillPh σ bs hp).1 bs).Nodup ∧ ∀ n ∈ sgNames (fillPh σ bs hp).1 bs, n ∈ sgNames σ bs ∨ hp.length ≤ n
  | [], [], hp, hin, hnd, hl => ⟨hnd, fun n hn => .inl hn⟩
  | [], _ :: _, hp, hin, hnd, hl => by simp at hl
  | _ :: _, [], hp, hin, hnd, hl => by simp at hl
  | some m :: σ, b :: bs, hp, hin, hnd, hl => by
    have hin' : SgIn σ hp.length := fun n k h => hin (n + 1) k (by simpa using h)
    have hm := hin 0 m rfl
    cases b with
    | gone =>
      simp only [sgNames, fillPh] at hnd ⊢
      exact fillPh_nodup hin' hnd (by simpa using hl)
    | mk t s =>
      simp only [sgNames, fillPh, List.nodup_cons] at hnd ⊢
      obtain ⟨h1, h2⟩ := fillPh_nodup (σ := σ) (bs := bs) hin' hnd.2 (by simpa using hl)
      refine ⟨⟨fun h => ?_, h1⟩, fun n hn => ?_⟩
      · rcases h2 m h with h | h
        · exact hnd.1 h
        · omega
      · rcases List.mem_cons.1 hn with e | e
        · subst e; exact .inl (by simp)
        · rcases h2 n e with h | h
          · exact .inl (by simp [h])
          · exact .inr h
  | none :: σ, b :: bs, hp, hin, hnd, hl => by
    have hin' : SgIn σ (hp ++ [b]).length := fun n k h => by
      have := hin (n + 1) k (by simpa using h)
      simp; omega
    have hin0 : SgIn σ hp.length := fun n k h => hin (n + 1) k (by simpa using h)
    have hnd' : (sgNames σ bs).Nodup := by cases b <;> simpa [sgNames] using hnd
    obtain ⟨h1, h2⟩ := fillPh_nodup (σ := σ) (bs := bs) hin' hnd' (by simpa using hl)
    have names_lt : ∀ {σ : Sg} {bs : List Blk} {n : Nat}, SgIn σ hp.length → n ∈ sgNames σ bs → n < hp.length := fun {σ bs} => by
      induction σ generalizing bs with
      | nil => intro n _ h; cases bs <;> simp [sgNames] at h
      | cons x σ ih =>
        intro n hi h
        have hi' : SgIn σ hp.length := fun n k h => hi (n + 1) k (by simpa using h)
        cases bs with
        | nil => cases x <;> simp [sgNames] at h
        | cons b bs =>
          cases x with
          | none => exact ih hi' (by simpa [sgNames] using h)
          | some m => cases b with
            | gone => exact ih hi' (by simpa [sgNames] using h)
            | mk t s =>
              simp only [sgNames, List.mem_cons] at h
              rcases h with e | e
              · subst e; exact hi 0 n rfl
              · exact ih hi' e
    cases b with
    | gone =>
      simp only [sgNames, fillPh] at h1 h2 ⊢
      refine ⟨h1, fun n hn => ?_⟩
      rcases h2 n hn with h | h
      · exact .inl h
      · right; simp at h; omega
    | mk t s =>
      simp only [sgNames, fillPh, List.nodup_cons] at h1 h2 ⊢
      refine ⟨⟨fun h => ?_, h1⟩, fun n hn => ?_⟩
      · rcases h2 _ h with h | h
        · have := names_lt hin0 h; omega
        · simp at h; omega
      · rcases List.mem_cons.1 hn with e | e
        · subst e; exact .inr (Nat.le_refl _)
        · rcases h2 n e with h | h
          · exact .inl h
          · right; simp at h; omega
theorem Seen.fill {σ : Sg} {ρ ρt : List Nat} {hp HT : List Blk} {w : World} {frT : List SV} {vs : List Value} (H : HOK ρ hp w) (hs : Seen σ ρ hp w ρt frT HT vs) :
    ∃ ρ', Since ρ hp w ρ' (fillPh σ HT hp).2 w ∧ Seen (fillPh σ HT hp).1 ρ' (fillPh σ HT hp).2 w ρt frT HT vs ∧ (∀ i, i < (fillPh σ HT hp).1.length → ∃ n, (fillPh σ HT hp).1[i]? = some (some n)) ∧
      (∃ l, (fillPh σ HT hp).2 = hp ++ l) := by
  have hlt : ρt.length = σ.length := hs.sg.2
  obtain ⟨ρ', F⟩ := fillPh_filled (σ := σ) (ρt := ρt) (bs := HT) H (bnd_of hs.sg) hs.len.symm (fun j b hb hn => by
    have hj : j < ρt.length := by rw [hlt, hs.len]; exact (List.getElem?_eq_some_iff.1 hb).1
    exact ⟨hs.off j b hb hn, ρt, _, hs.hok.ok j _ b hb (List.getElem?_eq_getElem hj)⟩)
  obtain ⟨l, hl⟩ := F.pre
  obtain ⟨lr, hlr⟩ := F.since.old
  have bound : ∀ i, i < (fillPh σ HT hp).1.length → ∃ n, (fillPh σ HT hp).1[i]? = some (some n) := fun i hi => by
    have h1 := List.getElem?_eq_getElem hi
    have h2 := F.all _ (List.mem_of_getElem? h1)
    cases h3 : (fillPh σ HT hp).1[i] with
    | none => exact absurd h3 h2
    | some n => rw [h3] at h1; exact ⟨n, h1⟩
  have hsg := of_bnd F.bnd
  have hinH : SgIn σ hp.length := fun n m h => by rw [← H.len]; exact hs.inn n m h
  refine ⟨ρ', F.since, { sg := hsg, len := by rw [F.len, hs.len], hok := hs.hok, den := hs.den, nodup := (fillPh_nodup hinH hs.nodup hs.len.symm).1, has := ?_, off := ?_, inn := ?_, own := ?_, src := ?_ }, bound, l, hl⟩
  · intro j n t s hj hn
    have hjs : j < σ.length := by rw [hs.len]; exact (List.getElem?_eq_some_iff.1 hj).1
    cases h1 : σ[j] with
    | none =>
      have h2 : σ[j]? = some none := by rw [List.getElem?_eq_getElem hjs, h1]
      exact ⟨t, s, (F.new j n _ h2 hn hj).2⟩
    | some m =>
      have h2 : σ[j]? = some (some m) := by rw [List.getElem?_eq_getElem hjs, h1]
      have h3 := F.old j m h2
      rw [hn] at h3
      cases h3
      obtain ⟨t', s', h4⟩ := hs.has j n t s hj h2
      exact ⟨t', s', by rw [hl, List.getElem?_append_left (List.getElem?_eq_some_iff.1 h4).1]; exact h4⟩
  · intro j b hj hn
    obtain ⟨n, h⟩ := bound j (by rw [F.len, hs.len]; exact (List.getElem?_eq_some_iff.1 hj).1)
    rw [hn] at h
    cases h
  · intro n m h
    obtain ⟨b, hb, _⟩ := hsg.1 n m h
    exact (List.getElem?_eq_some_iff.1 hb).1
  · intro n hn
    obtain ⟨i, x, hx, gx, hi⟩ := hs.own n hn
    exact ⟨i, x, by rw [hl, List.getElem?_append_left (List.getElem?_eq_some_iff.1 hx).1]; exact hx, gx, by rw [hlr, List.getElem?_append_left (List.getElem?_eq_some_iff.1 hi).1]; exact hi⟩
  · intro i b hi gb
    obtain ⟨n, h1, h2, x, h3, h4⟩ := hs.src i b hi gb
    exact ⟨n, F.old i n h1, by rw [hlr, List.length_append]; omega, x, by rw [hl, List.getElem?_append_left (List.getElem?_eq_some_iff.1 h3).1]; exact h3, h4⟩
end Go.Eng
/- The executor: what a call is handed, seen as what stays for the time of the call. -/
set_option linter.unusedSimpArgs false
set_option linter.unusedVariables false
set_option linter.unusedSectionVars false
namespace Go.Eng
section
variable (ar : AR)
mutual
/-- The value 'a' seen as 'b', where all memory is taken as it is. -/
def fSV (hp : List Blk) : SV → SV → Option (List Prop)
  | _, .any => some []
  | .int k x, .int k' y => if k = k' then eqZ x y else none
  | .bool x, .bool y => eqB x y
  | .str s, .str t => some [s = t]
  | .nptr, .nptr => some []
  | .nmap, .nmap => some []
  | .nslc, .nslc => some []
  | .nfn, .nfn => some []
  | .nifc, .nifc => some []
  | .fn f cs, .fn f' cs' => if f = f' then fSVs hp cs cs' else none
  | .ifc t v, .ifc t' v' => if t = t' then fSV hp v v' else none
  | .agg l, .agg l' => fSVs hp l l'
  | .tup l, .tup l' => fSVs hp l l'
  | .cp l, .cp l' => fSVs hp l l'
  | .cs cols l c, .cs cols' l' c' =>
    match mCols cols cols', eqZ l l', eqZ c c' with
    | some p, some q, some r => some (p ++ q ++ r)
    | _, _, _ => none
  | .nslc, .cs _ l' c' =>
    match eqZ (.l 0) l', eqZ (.l 0) c' with
    | some p, some q => some (p ++ q)
    | _, _ => none
  | .slc n o len cap, .cs cols' l' c' =>
    match hp[n]? with
    | some (.mk _ segs) =>
      match rowAt ar (zeroOf cols') segs o len with
      | some (cols, p) =>
        match mCols cols cols', eqZ len l', eqZ cap c' with
        | some q, some r, some s => some (p ++ (q ++ r ++ s))
        | _, _, _ => none
      | none => none
    | _ => none
  | .ptr n o, .cp l' =>
    match hp[n]? with
    | some (.mk _ segs) =>
      match segGetN ar segs o l'.length with
      | some (vs, p) =>
        match fSVs hp vs l' with
        | some q => some (p ++ q)
        | none => none
      | none => none
    | _ => none
  | _, _ => none
def fSVs (hp : List Blk) : List SV → List SV → Option (List Prop)
  | [], [] => some []
  | a :: l, b :: m =>
    match fSV hp a b, fSVs hp l m with
    | some p, some q => some (p ++ q)
    | _, _ => none
  | _, _ => none
end
mutual
/-- Nothing that stays is spoken of. -/
def noC : SV → Bool
  | .cs _ _ _ => false
  | .cp _ => false
  | .fn _ l => noCs l
  | .ifc _ v => noC v
  | .agg l => noCs l
  | .tup l => noCs l
  | _ => true
def noCs : List SV → Bool
  | [] => true
  | a :: l => noC a && noCs l
end
def noCS : List Seg → Bool
  | [] => true
  | .one v :: s => noC v && noCS s
  | .arr _ _ :: s => noCS s
def noCB : List Blk → Bool
  | [] => true
  | .gone :: l => noCB l
  | .mk _ s :: l => noCS s && noCB l
end
section
variable {C1 C2 : CWorld}
mutual
theorem den_noC {ρ : List Nat} : ∀ {a : SV} {v : Value}, noC a = true → @Den C1 ρ a v → @Den C2 ρ a v
  | .any, _, _, h => trivial
  | .int _ _, _, _, h => h
  | .bool _, _, _, h => h
  | .str _, _, _, h => h
  | .ptr _ _, _, _, h => h
  | .nptr, _, _, h => h
  | .map _, _, _, h => h
  | .nmap, _, _, h => h
  | .slc _ _ _ _, _, _, h => h
  | .nslc, _, _, h => h
  | .fn f l, v, hn, h => by
    simp only [noC] at hn
    simp only [Den] at h ⊢
    obtain ⟨vs, h1, h2⟩ := h
    exact ⟨vs, h1, denL_noC hn h2⟩
  | .nfn, _, _, h => h
  | .ifc t x, v, hn, h => by
    simp only [noC] at hn
    simp only [Den] at h ⊢
    obtain ⟨y, h1, h2⟩ := h
    exact ⟨y, h1, den_noC hn h2⟩
  | .nifc, _, _, h => h
  | .agg l, v, hn, h => by
    simp only [noC] at hn
    simp only [Den] at h ⊢
    obtain ⟨vs, h1, h2⟩ := h
    exact ⟨vs, h1, denL_noC hn h2⟩
  | .tup l, v, hn, h => by
    simp only [noC] at hn
    simp only [Den] at h ⊢
    obtain ⟨vs, h1, h2⟩ := h
    exact ⟨vs, h1, denL_noC hn h2⟩
  | .cs _ _ _, _, hn, _ => by simp [noC] at hn
  | .cp _, _, hn, _ => by simp [noC] at hn
theorem denL_noC {ρ : List Nat} : ∀ {as : List SV} {vs : List Value}, noCs as = true → @DenL C1 ρ as vs → @DenL C2 ρ as vs
  | [], _, _, h => h
  | a :: as, vs, hn, h => by
    simp only [noCs, Bool.and_eq_true] at hn
    simp only [DenL] at h ⊢
    obtain ⟨v, vs', h1, h2, h3⟩ := h
    exact ⟨v, vs', h1, den_noC hn.1 h2, denL_noC hn.2 h3⟩
end
theorem segs_noC {ρ : List Nat} : ∀ {s : List Seg} {cs : List Value}, noCS s = true → @SegsOK C1 ρ s cs → @SegsOK C2 ρ s cs
  | [], _, _, h => h
  | .one v :: s, cs, hn, h => by
    simp only [noCS, Bool.and_eq_true] at hn
    simp only [SegsOK] at h ⊢
    obtain ⟨c, cs', h1, h2, h3⟩ := h
    exact ⟨c, cs', h1, den_noC hn.1 h2, segs_noC hn.2 h3⟩
  | .arr n c :: s, cs, hn, h => by
    simp only [noCS] at hn
    simp only [SegsOK] at h ⊢
    obtain ⟨a, b, h1, h2, h3⟩ := h
    exact ⟨a, b, h1, h2, segs_noC hn h3⟩
theorem noCB_get : ∀ {l : List Blk} {i : Nat} {t : TypeId} {s : List Seg}, noCB l = true → l[i]? = some (.mk t s) → noCS s = true
  | [], i, t, s, h, hi => by simp at hi
  | .gone :: l, i, t, s, h, hi => by
    cases i with
    | zero => simp at hi
    | succ i => exact noCB_get (l := l) (by simpa [noCB] using h) (by simpa using hi)
  | .mk t0 s0 :: l, i, t, s, h, hi => by
    simp only [noCB, Bool.and_eq_true] at h
    cases i with
    | zero => simp at hi; obtain ⟨rfl, rfl⟩ := hi; exact h.1
    | succ i => exact noCB_get (l := l) h.2 (by simpa using hi)
theorem blk_noC {ρ : List Nat} {w : World} {n : Nat} {b : Blk} (hn : ∀ t s, b = .mk t s → noCS s = true) (h : @BlkOK C1 ρ w n b) : @BlkOK C2 ρ w n b := by
  cases b with
  | gone => trivial
  | mk t s =>
    obtain ⟨cs, fz, h1, h2⟩ := h
    exact ⟨cs, fz, h1, segs_noC (hn t s rfl) h2⟩
end
structure SinceP (C1 : CWorld) (ρ0 : List Nat) (hp0 : List Blk) (w0 : World) (ρ : List Nat) (hp : List Blk) (w : World) : Prop where
  len : ρ.length = hp.length
  inj : ∀ (i j n : Nat) (b c : Blk), hp[i]? = some b → hp[j]? = some c → b.there → c.there → ρ[i]? = some n → ρ[j]? = some n → i = j
  ok : ∀ (i n : Nat) (b : Blk), hp[i]? = some b → ρ[i]? = some n → @BlkOK C1 ρ w n b
  new : ∀ n, Own ρ hp n → w0.heap.size ≤ n ∨ Own ρ0 hp0 n
  frame : ∀ b, b < w0.heap.size → ¬ Own ρ0 hp0 b → w.heap[b]? = w0.heap[b]?
  size : w0.heap.size ≤ w.heap.size
  tape : w.tape = w0.tape
  os : w.os = w0.os
  out : w.output = w0.output
theorem sinceP {C1 : CWorld} {ρ0 : List Nat} {hp0 : List Blk} {w0 : World} {ρ : List Nat} {hp : List Blk} {w : World} (S : @Since C1 ρ0 hp0 w0 ρ hp w) : SinceP C1 ρ0 hp0 w0 ρ hp w :=
  { len := S.hok.len, inj := S.hok.inj, ok := S.hok.ok, new := S.new, frame := S.frame, size := S.size, tape := S.tape, os := S.os, out := S.out }
section
variable [CW : CWorld]
theorem ccell_now {w : World} (hc : CSame w) {b i : Nat} {v : Value} (h : ccell b i = some v) : @ccell ⟨w⟩ b i = some v := by
  have h1 := ccell_cell hc h
  unfold ccell
  have hb : b < w.heap.size := by
    unfold World.cell? at h1
    simp only at h1
    split at h1
    · rename_i he
      exact (Array.getElem?_eq_some_iff.1 he).1
    · cases h1
  show (if b < w.heap.size then w.cell? ⟨b, i, none⟩ else none) = _
  rw [if_pos hb]
  exact h1
theorem cell_now {w : World} {b i : Nat} {v : Value} (h1 : w.cell? ⟨b, i, none⟩ = some v) : @ccell ⟨w⟩ b i = some v := by
  have hb : b < w.heap.size := by
    unfold World.cell? at h1
    simp only at h1
    split at h1
    · rename_i he
      exact (Array.getElem?_eq_some_iff.1 he).1
    · cases h1
  show (if b < w.heap.size then w.cell? ⟨b, i, none⟩ else none) = _
  rw [if_pos hb]
  exact h1
mutual
theorem fSV_sound {ρ : List Nat} {hp : List Blk} {w : World} (H : HOK ρ hp w) : ∀ {a b : SV} {p : List Prop} {v : Value}, fSV ar0 hp a b = some p → AllP p → Den ρ a v → @Den ⟨w⟩ [] b v
  | a, b, p, v, h, hv, hd => by
    unfold fSV at h
    split at h
    · trivial
    · split at h
      · rename_i hk
        subst hk
        simp only [Den] at hd ⊢
        rw [← eqZ_sound h hv]
        exact hd
      · cases h
    · simp only [Den] at hd ⊢
      obtain ⟨c, hc, hb⟩ := hd
      exact ⟨c, hc, hb.trans (eqB_sound h hv)⟩
    · cases h
      have := hv.1
      subst this
      exact hd
    · exact hd
    · exact hd
    · exact hd
    · exact hd
    · exact hd
    · split at h
      · rename_i hf
        subst hf
        simp only [Den] at hd ⊢
        obtain ⟨vs, hvs, hd⟩ := hd
        exact ⟨vs, hvs, fSVs_sound H h hv hd⟩
      · cases h
    · split at h
      · rename_i hf
        subst hf
        simp only [Den] at hd ⊢
        obtain ⟨y, hy, hd⟩ := hd
        exact ⟨y, hy, fSV_sound H h hv hd⟩
      · cases h
    · simp only [Den] at hd ⊢
      obtain ⟨vs, hvs, hd⟩ := hd
      exact ⟨vs, hvs, fSVs_sound H h hv hd⟩
    · simp only [Den] at hd ⊢
      obtain ⟨vs, hvs, hd⟩ := hd
      exact ⟨vs, hvs, fSVs_sound H h hv hd⟩
    · simp only [Den] at hd ⊢
      obtain ⟨b, off, hvs, vs, hd, hc⟩ := hd
      exact ⟨b, off, hvs, vs, fSVs_sound H h hv hd, fun j x hj => ccell_now H.cst (hc j x hj)⟩
    · split at h
      · rename_i hq hl hc
        cases h
        obtain ⟨v12, v3⟩ := allP_append.1 hv
        obtain ⟨v1, v2⟩ := allP_append.1 v12
        simp only [Den] at hd ⊢
        rw [← mCols_sound hq v1, ← eqZ_sound hl v2, ← eqZ_sound hc v3]
        obtain ⟨a, h1, h2, h3, h4⟩ := hd
        refine ⟨a, h1, h2, h3, fun hne => ?_⟩
        obtain ⟨b, off, h5, h6⟩ := h4 hne
        exact ⟨b, off, h5, fun i j c hi hj => ccell_now H.cst (h6 i j c hi hj)⟩
      · cases h
    · split at h
      · rename_i hl hc
        cases h
        obtain ⟨v1, v2⟩ := allP_append.1 hv
        simp only [Den] at hd ⊢
        subst hd
        rw [← eqZ_sound hl v1, ← eqZ_sound hc v2]
        exact ⟨none, rfl, Int.le_refl 0, Int.le_refl 0, fun h => absurd rfl h⟩
      · cases h
    · rename_i n o len cap cols' l' c'
      split at h
      · rename_i t segs hb
        split at h
        · rename_i cols p1 hr
          split at h
          · rename_i hq hl hc
            cases h
            obtain ⟨v0, v123⟩ := allP_append.1 hv
            obtain ⟨v12, v3⟩ := allP_append.1 v123
            obtain ⟨v1, v2⟩ := allP_append.1 v12
            simp only [Den] at hd ⊢
            obtain ⟨a, b, hbn, rfl, h0, h1, ha⟩ := hd
            have hcols := mCols_sound hq v1
            subst hcols
            rw [← eqZ_sound hl v2, ← eqZ_sound hc v3]
            obtain ⟨cs, hs, cellw⟩ := blk_read H hb hbn
            obtain ⟨hz1, hz2⟩ := zeroOf_empty cols
            obtain ⟨r, r1, r2, r3⟩ := rowAt_sound hz1 hs hr h0 v0
            refine ⟨a, rfl, h0, h1, fun hne => ⟨b, o.val, ha hne, fun i j c hi hj => ?_⟩⟩
            have h5 := r3 _ _ (r1.cell i j c hj hi)
            have := cellw w ⟨fun _ _ _ _ _ _ _ => rfl, H.cst⟩ _ _ h5
            rw [Nat.add_assoc]
            exact cell_now this
          · cases h
        · cases h
      · cases h
    · rename_i n o l'
      split at h
      · rename_i t segs hb
        split at h
        · rename_i vs p1 hg
          split at h
          · rename_i q hq
            cases h
            obtain ⟨v1, v2⟩ := allP_append.1 hv
            simp only [Den] at hd ⊢
            obtain ⟨b, hbn, rfl⟩ := hd
            obtain ⟨cs, hs, cellw⟩ := blk_read H hb hbn
            obtain ⟨us, hus, hlen, hcell⟩ := segGetN_sound hs hg v1
            refine ⟨b, o.val, rfl, us, fSVs_sound H hq v2 hus, fun j x hj => ?_⟩
            exact cell_now (cellw w ⟨fun _ _ _ _ _ _ _ => rfl, H.cst⟩ _ _ (hcell j x hj))
          · cases h
        · cases h
      · cases h
    · cases h
theorem fSVs_sound {ρ : List Nat} {hp : List Blk} {w : World} (H : HOK ρ hp w) : ∀ {l m : List SV} {p : List Prop} {vs : List Value}, fSVs ar0 hp l m = some p → AllP p → DenL ρ l vs → @DenL ⟨w⟩ [] m vs
  | [], [], p, vs, h, hv, hd => hd
  | a :: l, b :: m, p, vs, h, hv, hd => by
    simp only [fSVs] at h
    split at h
    · rename_i h1 h2
      cases h
      obtain ⟨v1, v2⟩ := allP_append.1 hv
      simp only [DenL] at hd ⊢
      obtain ⟨v, vs', e, d1, d2⟩ := hd
      exact ⟨v, vs', e, fSV_sound H h1 v1 d1, fSVs_sound H h2 v2 d2⟩
    · cases h
  | [], _ :: _, p, vs, h, hv, hd => by simp [fSVs] at h
  | _ :: _, [], p, vs, h, hv, hd => by simp [fSVs] at h
end
theorem Since.frz {ρ ρc : List Nat} {hp H' : List Blk} {w w' : World} (H : HOK ρ hp w) (hn : noCB H' = true) (S : SinceP ⟨w⟩ [] [] w ρc H' w') :
    Since ρ hp w (ρ ++ ρc) (hp ++ renBs (· + hp.length) H') w' ∧ ∀ (n b : Nat), ρc[n]? = some b → (ρ ++ ρc)[n + hp.length]? = some b := by
  have num : ∀ (n b : Nat), ρc[n]? = some b → (ρ ++ ρc)[n + hp.length]? = some b := fun n b h => by
    rw [List.getElem?_append_right (by rw [H.len]; omega), H.len, Nat.add_sub_cancel]; exact h
  have hcl : ρc.length = H'.length := S.len
  have notown : ∀ m, ¬ Own [] [] m := fun m ⟨i, x, h, _⟩ => by simp at h
  have fr : ∀ b, b < w.heap.size → w'.heap[b]? = w.heap[b]? := fun b hb => S.frame b hb (notown b)
  have split : ∀ (c n : Nat) (x : Blk), (hp ++ renBs (· + hp.length) H')[c]? = some x → (ρ ++ ρc)[c]? = some n →
      (c < hp.length ∧ hp[c]? = some x ∧ ρ[c]? = some n) ∨ ∃ (j : Nat) (y : Blk), c = j + hp.length ∧ H'[j]? = some y ∧ x = y.ren (· + hp.length) ∧ ρc[j]? = some n := fun c n x hx hc => by
    by_cases hlt : c < hp.length
    · left
      rw [List.getElem?_append_left hlt] at hx
      rw [List.getElem?_append_left (by rw [H.len]; exact hlt)] at hc
      exact ⟨hlt, hx, hc⟩
    · right
      rw [List.getElem?_append_right (by omega)] at hx
      rw [List.getElem?_append_right (by rw [H.len]; omega), H.len] at hc
      simp only [renBs, List.getElem?_map, Option.map_eq_some_iff] at hx
      obtain ⟨y, hy, e⟩ := hx
      exact ⟨c - hp.length, y, by omega, hy, e.symm, hc⟩
  have newlt : ∀ (j n : Nat) (y : Blk), H'[j]? = some y → y.there → ρc[j]? = some n → w.heap.size ≤ n := fun j n y hy gy hj => by
    rcases S.new n ⟨j, y, hy, gy, hj⟩ with h | h
    · exact h
    · exact absurd h (notown n)
  refine ⟨{ hok := { len := by simp [renBs, H.len, hcl], inj := ?_, ok := ?_, cst := fun b hb => ?_, above := ?_ }, old := ⟨_, rfl⟩, new := ?_, frame := fun b hb _ => fr b hb, size := S.size, tape := S.tape, os := S.os, out := S.out }, num⟩
  · intro c d n x y hx hy gx gy hc hd
    rcases split c n x hx hc with ⟨a1, a2, a3⟩ | ⟨j, x', rfl, a2, rfl, a3⟩ <;> rcases split d n y hy hd with ⟨b1, b2, b3⟩ | ⟨k, y', rfl, b2, rfl, b3⟩
    · exact H.inj c d n x y a2 b2 gx gy a3 b3
    · rw [Blk.ren_there] at gy
      have h1 := newlt k n y' b2 gy b3
      cases x with
      | gone => exact gx.elim
      | mk t s => have := H.lt a2 gx a3; omega
    · rw [Blk.ren_there] at gx
      have h1 := newlt j n x' a2 gx a3
      cases y with
      | gone => exact gy.elim
      | mk t s => have := H.lt b2 gy b3; omega
    · rw [Blk.ren_there] at gx gy
      rw [S.inj j k n x' y' a2 b2 gx gy a3 b3]
  · intro c n x hx hc
    rcases split c n x hx hc with ⟨a1, a2, a3⟩ | ⟨j, y, rfl, a2, rfl, a3⟩
    · have h0 := (H.ok c n x a2 a3).mono ρc
      cases x with
      | gone => trivial
      | mk t s => exact h0.same (fun ht => fr n (H.lt a2 ht a3))
    · have h1 := S.ok j n y a2 a3
      have h2 : BlkOK ρc w' n y := blk_noC (C1 := ⟨w⟩) (C2 := CW) (fun t s e => by subst e; exact noCB_get hn a2) h1
      exact h2.ren num
  · have hle := H.cst.le
    rw [fr b (by omega)]
    exact H.cst b hb
  · intro c n x hx gx hc
    rcases split c n x hx hc with ⟨a1, a2, a3⟩ | ⟨j, y, rfl, a2, rfl, a3⟩
    · exact H.above c n x a2 gx a3
    · rw [Blk.ren_there] at gx
      have := newlt j n y a2 gx a3
      have := H.cst.le
      omega
  · rintro n ⟨c, x, hx, gx, hc⟩
    rcases split c n x hx hc with ⟨a1, a2, a3⟩ | ⟨j, y, rfl, a2, rfl, a3⟩
    · exact .inr ⟨c, x, a2, gx, a3⟩
    · rw [Blk.ren_there] at gx
      exact .inl (newlt j n y a2 gx a3)
end
end Go.Eng
/- The executor, seventeenth text: contracts; one operation; a list of operations. -/
set_option linter.unusedSimpArgs false
set_option linter.unusedSectionVars false
namespace Go.Eng
variable [CW : CWorld]
variable (ar : AR)
structure Out (X : Type) where
  Y : X → Type
  post : (x : X) → Y x → Prop
  R : (x : X) → Y x → SV
  H' : (x : X) → Y x → List Blk
structure Spec where
  X : Type
  A : X → List SV
  H : X → List Blk
  pre : X → Prop
  outs : List (Out X)
  /-- It reads what it is handed, and owns nothing: then all memory is taken as what stays. -/
  frz : Bool := false
  /-- In a drawn region it may write to blocks that come up late (only a guess leans on it). -/
  far : Bool := false
def allOuts {α : Type 1} : List α → (α → Prop) → Prop
  | [], _ => True
  | [o], f => f o
  | o :: l, f => f o ∧ allOuts l f
def anyOuts {α : Type 1} : List α → (α → Prop) → Prop
  | [], _ => False
  | [o], f => f o
  | o :: l, f => f o ∨ anyOuts l f
theorem allOuts_mem {α : Type 1} {f : α → Prop} : ∀ {l : List α} {o : α}, allOuts l f → o ∈ l → f o
  | [], o, h, hi => by cases hi
  | [p], o, h, hi => by simp at hi; subst hi; exact h
  | p :: q :: l, o, h, hi => by
    simp only [allOuts] at h
    rcases List.mem_cons.1 hi with e | e
    · subst e; exact h.1
    · exact allOuts_mem h.2 e
theorem anyOuts_mem {α : Type 1} {f : α → Prop} : ∀ {l : List α}, anyOuts l f → ∃ o, o ∈ l ∧ f o
  | [], h => h.elim
  | [p], h => ⟨p, by simp, h⟩
  | p :: q :: l, h => by
    simp only [anyOuts] at h
    rcases h with h | h
    · exact ⟨p, by simp, h⟩
    · obtain ⟨o, ho, hf⟩ := anyOuts_mem h
      exact ⟨o, List.mem_cons_of_mem _ ho, hf⟩
def Callable (P : Program) (f : FuncId) : Prop := ∃ fn, P.funcs[f]? = some fn ∧ (fn.name == "runtime.NumGoroutine") = false ∧ fn.body.isNone = false
def Spec.OK (P : Program) (f : FuncId) (S : Spec) : Prop :=
  Callable P f ∧ ∀ x, S.pre x → ∀ (ρ : List Nat) (w : World) (vs : List Value), DenL ρ (S.A x) vs → HOK ρ (S.H x) w →
    Calls P f vs.toArray w fun e w' => ∃ (o : Out S.X) (v : Value) (y : o.Y x) (ρ' : List Nat), o ∈ S.outs ∧ e = .returned v ∧ o.post x y ∧ Den ρ' (o.R x y) v ∧ Since ρ (S.H x) w ρ' (o.H' x y) w'
def sgList : Sg → List Nat
  | [] => []
  | some n :: σ => n :: sgList σ
  | none :: σ => sgList σ
theorem sgList_mem : ∀ {σ : Sg} {i n : Nat}, σ[i]? = some (some n) → n ∈ sgList σ
  | [], i, n, h => by simp at h
  | x :: σ, i, n, h => by
    cases i with
    | zero => simp at h; subst h; simp [sgList]
    | succ i =>
      have := sgList_mem (σ := σ) (i := i) (n := n) (by simpa using h)
      cases x <;> simp [sgList, this]
abbrev Specs := FuncId → List SV → List Blk → Option Spec
def SpecsOK (P : Program) (specs : Specs) : Prop := ∀ (CW : CWorld) f as hp S, specs f as hp = some S → @Spec.OK CW P f S
def callFrz (S : Spec) (args : List SV) (hp : List Blk) (K : SV → List Blk → List Nat → Prop) : Prop :=
  ∃ x : S.X,
    match fSVs ar hp args (S.A x), S.H x with
    | some p, [] => vcs p (S.pre x ∧ allOuts S.outs fun o => ∀ y, o.post x y →
        match noC (o.R x y), noCB (o.H' x y) with
        | true, true => K ((o.R x y).ren (· + hp.length)) (hp ++ renBs (· + hp.length) (o.H' x y)) []
        | _, _ => False)
    | _, _ => False
def callStep (S : Spec) (args : List SV) (hp : List Blk) (K : SV → List Blk → List Nat → Prop) : Prop :=
  match S.frz with
  | true => callFrz ar S args hp K
  | false => ∃ x : S.X,
    match mState 0 args hp (S.A x) (S.H x), allMk (S.H x) with
    | some (σ, p), true =>
      match fillPh σ (S.H x) hp with
      | (σ', hp') => vcs p (S.pre x ∧ allOuts S.outs fun o => ∀ y, o.post x y → K ((o.R x y).ren (upName σ' hp'.length)) (upHeap σ' hp' (o.H' x y)) (sgList σ'))
    | _, _ => False
theorem callFrz_sound {P : Program} {id : FuncId} {S : Spec} (hok : ∀ CW : CWorld, @Spec.OK CW P id S) {ρ : List Nat} {hp : List Blk} {w : World} (H : HOK ρ hp w) {args : List SV} {vs : List Value} (hargs : DenL ρ args vs)
    {K : SV → List Blk → List Nat → Prop} (h : callFrz ar0 S args hp K) :
    Calls P id vs.toArray w fun e w' => ∃ (v : Value) (ρ' : List Nat) (hp' : List Blk) (sv : SV) (T : List Nat), e = .returned v ∧ Den ρ' sv v ∧ Since ρ hp w ρ' hp' w' ∧ Touch ρ hp T w hp' w' ∧ K sv hp' T := by
  obtain ⟨x, h⟩ := h
  split at h
  · rename_i p hm hH
    obtain ⟨hv, hpre, hy⟩ := vcs_iff.1 h
    have hd := fSVs_sound H hm hv hargs
    have hok0 : @HOK ⟨w⟩ [] (S.H x) w := by
      letI : CWorld := ⟨w⟩
      rw [hH]
      exact { len := rfl, inj := fun i j n b c hi => by simp at hi, ok := fun i n b hi => by simp at hi, cst := fun b hb => rfl, above := fun i n b hi => by simp at hi }
    refine ((hok ⟨w⟩).2 x hpre [] w vs hd hok0).mono fun e w' he => ?_
    obtain ⟨out, v, y, ρc, hout, rfl, hpost, hdv, hsince⟩ := he
    have hk := allOuts_mem hy hout y hpost
    split at hk
    · rename_i n1 n2
      rw [hH] at hsince
      obtain ⟨hs, hnum⟩ := Since.frz H n2 (sinceP hsince)
      refine ⟨v, _, _, _, [], rfl, (den_noC (C2 := CW) n1 hdv).ren hnum, hs, ⟨fun n _ hlt => List.getElem?_append_left hlt, fun n b z _ hz gz hb => ?_⟩, hk⟩
      cases z with
      | gone => exact gz.elim
      | mk t s => exact (sinceP hsince).frame b (H.lt hz gz hb) (fun ⟨i, x, h, _⟩ => by simp at h)
    · exact hk.elim
  · exact h.elim
theorem callStep_sound {P : Program} {id : FuncId} {S : Spec} (hok : ∀ CW : CWorld, @Spec.OK CW P id S) {ρ : List Nat} {hp : List Blk} {w : World} (H : HOK ρ hp w) {args : List SV} {vs : List Value} (hargs : DenL ρ args vs)
    {K : SV → List Blk → List Nat → Prop} (h : callStep ar0 S args hp K) :
    Calls P id vs.toArray w fun e w' => ∃ (v : Value) (ρ' : List Nat) (hp' : List Blk) (sv : SV) (T : List Nat), e = .returned v ∧ Den ρ' sv v ∧ Since ρ hp w ρ' hp' w' ∧ Touch ρ hp T w hp' w' ∧ K sv hp' T := by
  unfold callStep at h
  split at h
  · exact callFrz_sound hok H hargs h
  obtain ⟨x, h⟩ := h
  split at h
  · rename_i σ p hm hall
    split at h
    rename_i σ' hp' hfill
    obtain ⟨hv, hpre, hy⟩ := vcs_iff.1 h
    obtain ⟨hs0, _⟩ := seen (m := 0) H (Nat.zero_le _) hm hv hargs 0
    obtain ⟨ρ', S1, hs, hbd, l, hl⟩ := hs0.fill H
    rw [hfill] at S1 hs hbd hl
    simp only at S1 hs hbd hl
    refine ((hok CW).2 x hpre _ w _ hs.den hs.hok).mono fun e w' he => ?_
    obtain ⟨out, v, y, ρc, hout, rfl, hpost, hdv, hsince⟩ := he
    obtain ⟨hup, hnum⟩ := Since.call S1.hok hs hall hbd hsince
    refine ⟨v, _, _, _, sgList σ', rfl, hdv.ren hnum, S1.trans hup, ⟨fun n hnT hlt => ?_, fun n b z hnT hz gz hb => ?_⟩, allOuts_mem hy hout y hpost⟩
    · unfold upHeap
      rw [List.getElem?_append_left (by rw [length_setAll, hl, List.length_append]; omega), setAll_other]
      · rw [hl, List.getElem?_append_left hlt]
      · intro i hi
        exact hnT (sgList_mem hi)
    · have hz' : hp'[n]? = some z := by rw [hl, List.getElem?_append_left (List.getElem?_eq_some_iff.1 hz).1]; exact hz
      obtain ⟨lr, hlr⟩ := S1.old
      have hb' : ρ'[n]? = some b := by rw [hlr, List.getElem?_append_left (List.getElem?_eq_some_iff.1 hb).1]; exact hb
      cases z with
      | gone => exact gz.elim
      | mk t s =>
        refine hsince.frame b (H.lt hz gz hb) (fun hmem => ?_)
        obtain ⟨i, y, hy', gy, hi⟩ := hmem
        obtain ⟨m, h1, _, z, hz2, gz2⟩ := hs.src i y hy' gy
        obtain ⟨b', hb1, hb2⟩ := hs.sg.1 _ _ h1
        rw [hb2] at hi
        cases hi
        have := S1.hok.inj n m b _ _ hz' hz2 gz gz2 hb' hb1
        subst this
        exact hnT (sgList_mem h1)
  · exact h.elim
abbrev Inl := FuncId → List SV → List Blk → (SV → List Blk → Prop) → Prop
def InlOK (P : Program) (inl : Inl) : Prop :=
  ∀ id args hp K, inl id args hp K → Callable P id ∧ ∀ (ρ : List Nat) (w : World) (vs : List Value), HOK ρ hp w → DenL ρ args vs →
    Calls P id vs.toArray w fun e w' => ∃ (v : Value) (ρ' : List Nat) (hp' : List Blk) (sv : SV), e = .returned v ∧ Den ρ' sv v ∧ Since ρ hp w ρ' hp' w' ∧ K sv hp'
def nameSV (sv : SV) (K : SV → Prop) : Prop :=
  match sv with
  | .int k (.x e) => ∀ z : Int, z = e → K (.int k (.x z))
  | .str s => ∀ t : List UInt8, t = s → K (.str t)
  | sv => K sv
theorem nameSV_sound {sv : SV} {K : SV → Prop} (h : nameSV sv K) : K sv := by
  unfold nameSV at h
  split at h
  · exact h _ rfl
  · exact h _ rfl
  · exact h
def named (o : Op) (sv : SV) (K : SV → Prop) : Prop :=
  match o with
  | .binOp .. => nameSV sv K
  | .unOp .. => nameSV sv K
  | .convert .. => nameSV sv K
  | .index .. => nameSV sv K
  | .slice .. => nameSV sv K
  | _ => K sv
theorem named_sound {o : Op} {sv : SV} {K : SV → Prop} (h : named o sv K) : K sv := by
  unfold named at h
  split at h
  all_goals first
    | exact nameSV_sound h
    | exact h
def methOf (P : Program) (t : TypeId) (name : String) : Option FuncId :=
  match P.info? t, P.underlying t with
  | some i, some u =>
    match i.methods.find? (·.name == name) with
    | some m =>
      match m.path.toList, m.func, u with
      | [], some (f, true), .pointer _ => some f
      | [], some (_, false), .pointer _ => none
      | [], some (f, false), _ => some f
      | _, _, _ => none
    | none => none
  | _, _ => none
def callFn (specs : Specs) (inl : Inl) (id : FuncId) (args : List SV) (hp : List Blk) (K : SV → List Blk → List Nat → Prop) : Prop :=
  match specs id args hp with
  | some S => callStep ar S args hp K
  | none => inl id args hp fun sv hp' => K sv hp' (List.range hp.length)
noncomputable def opStep (P : Program) (specs : Specs) (inl : Inl) (hp : List Blk) (E : Operand → SV) (o : Op) (K : SV → List Blk → List Nat → Prop) : Prop :=
  match qv ar P hp E o with
  | some (sv, vc) => vcs vc (named o sv fun sv => K sv hp [])
  | none =>
    match o with
    | .call { callee := .value f, args, .. } =>
      match E f with
      | .fn id caps => callFn ar specs inl id (args.toList.map E ++ caps) hp K
      | _ => False
    | .call { callee := .invoke r name, args, .. } =>
      match E r with
      | .ifc t v =>
        match methOf P t name with
        | some id => callFn ar specs inl id (v :: args.toList.map E) hp K
        | none => False
      | _ => False
    | o => eff ar P hp E o K
theorem callFn_sound {P : Program} {specs : Specs} (hsp : SpecsOK P specs) {inl : Inl} (hinl : InlOK P inl) {ρ : List Nat} {hp : List Blk} {w : World} (H : HOK ρ hp w) {id : FuncId} {args : List SV} {vs : List Value}
    (hargs : DenL ρ args vs) {K : SV → List Blk → List Nat → Prop} (h : callFn ar0 specs inl id args hp K) :
    Callable P id ∧ Calls P id vs.toArray w fun e w' => ∃ (v : Value) (ρ' : List Nat) (hp' : List Blk) (sv : SV) (T : List Nat), e = .returned v ∧ Den ρ' sv v ∧ Since ρ hp w ρ' hp' w' ∧ Touch ρ hp T w hp' w' ∧ K sv hp' T := by
  unfold callFn at h
  split at h
  · rename_i S hS
    have hok := fun C => hsp C id _ _ S hS
    exact ⟨(hok CW).1, callStep_sound hok H hargs h⟩
  · obtain ⟨hcall, hok⟩ := hinl id _ hp _ h
    refine ⟨hcall, (hok ρ w _ H hargs).mono fun e w' he => ?_⟩
    obtain ⟨v, ρ', hp', sv, rfl, hd, hs, hK⟩ := he
    exact ⟨v, ρ', hp', sv, _, rfl, hd, hs, ⟨fun n hnT hlt => absurd (List.mem_range.2 hlt) hnT, fun n b z hnT hz _ _ => absurd (List.mem_range.2 (List.getElem?_eq_some_iff.1 hz).1) hnT⟩, hK⟩
theorem run_methOf {P : Program} {t : TypeId} {name : String} {id : FuncId} (h : methOf P t name = some id) (n : Nat) (v : Value) (w : World) : (method (n + 1) t v name).run P w = .ok (id, v) w := by
  unfold methOf at h
  split at h
  · rename_i i u hi hu
    split at h
    · rename_i m hm
      have key : ∀ (b : Bool), m.path.toList = [] → m.func = some (id, b) → (b = true → ∃ x, u = .pointer x) → (b = false → ∀ x, u ≠ .pointer x) → (method (n + 1) t v name).run P w = .ok (id, v) w := fun b hp hf h1 h2 => by
        simp only [method, typeInfo, Sem.run_bind, run_program, Result.andThen_ok, hi, Sem.run_pure, hm, hp, follow, hf, receiverAt, run_underlying hu]
        cases b with
        | true =>
          obtain ⟨x, rfl⟩ := h1 rfl
          simp [Place.get]
        | false =>
          have := h2 rfl
          cases u <;> simp [Place.get] <;> exact absurd rfl (this _)
      split at h
      · rename_i f x hp hf
        cases h
        exact key true hp hf (fun _ => ⟨x, rfl⟩) (fun h => by cases h)
      · cases h
      · rename_i f hne hp hf
        cases h
        exact key false hne hp (fun h => by cases h) (fun _ x hx => hf x hx)
      · cases h
    · cases h
  · cases h
theorem opStep_sound {P : Program} {specs : Specs} (hsp : SpecsOK P specs) {inl : Inl} (hinl : InlOK P inl) {ρ : List Nat} {hp : List Blk} {w : World} (H : HOK ρ hp w)
    {E : Operand → SV} {a : Act} (hE : ∀ x, Den ρ (E x) (a.eval x)) {o : Oper} {K : SV → List Blk → List Nat → Prop} (h : opStep ar0 P specs inl hp E o.op K)
    {next : Act → World → Prop} {Q : Exit → Act → World → Prop}
    (hn : ∀ (ρ' : List Nat) (w' : World) (sv : SV) (v : Value) (hp' : List Blk) (T : List Nat), Since ρ hp w ρ' hp' w' → Touch ρ hp T w hp' w' → Den ρ' sv v → K sv hp' T → next (a.put o.dst v) w') :
    o.wp P a w next Q := by
  have quiet := qv_sound (P := P) (w1 := w) H hE o
  unfold opStep at h
  split at h
  · rename_i sv vc hq
    obtain ⟨hv, hK⟩ := vcs_iff.1 h
    obtain ⟨v, hd, hrun⟩ := quiet sv vc hq hv
    unfold Oper.wp
    rw [hrun w ⟨fun _ _ _ _ _ _ _ => rfl, H.cst⟩]
    exact hn ρ w sv v hp [] (Since.refl H) Touch.refl hd (named_sound hK)
  · have other : eff ar0 P hp E o.op K → o.wp P a w next Q := fun h => by
      obtain ⟨n, v, w', ρ', sv, hp', T, hrun, hnv, hd, hs, ht, hK⟩ := eff_sound H hE h
      have := hn ρ' w' sv v hp' T hs ht hd hK
      unfold Oper.wp
      rw [hrun]
      rcases hnv with rfl | ⟨rfl, rfl⟩
      · exact this
      · exact this
    split at h
    · rename_i f args ts ho
      split at h
      · rename_i id caps hf
        have hfv := hE f
        rw [hf] at hfv
        simp only [Den] at hfv
        obtain ⟨cs, hfe, hcs⟩ := hfv
        have hargs : DenL ρ (args.toList.map E ++ caps) (args.toList.map a.eval ++ cs) := denL_append (denL_map hE _) hcs
        have hrun : Callable P id → (execOp a.eval o).run P w = .ok (.enter id (args.toList.map a.eval ++ cs).toArray) w := fun ⟨fn, hfn, hname, hbody⟩ => by
          have harr : (args.toList.map a.eval ++ cs).toArray = args.map a.eval ++ cs.toArray := by
            apply Array.ext'
            simp
          rw [harr]
          simp only [execOp, ho, resolve, hfe, Deferred.ofValue, Sem.run_bind, Sem.run_pure, Result.andThen_ok, invoke, callFunc, run_program, hfn, hname, hbody]
          simp only [Bool.false_eq_true, if_false, Array.empty_append]
          rfl
        obtain ⟨hcall, hcs⟩ := callFn_sound hsp hinl H hargs h
        unfold Oper.wp
        rw [hrun hcall]
        refine hcs.mono fun e w' he => ?_
        obtain ⟨v, ρ', hp', sv, T, rfl, hd, hs, ht, hK⟩ := he
        exact hn ρ' w' sv v hp' T hs ht hd hK
      · exact h.elim
    · rename_i r name args ts ho
      split at h
      · rename_i t y hr
        split at h
        · rename_i id hm
          have hrv := hE r
          rw [hr] at hrv
          simp only [Den] at hrv
          obtain ⟨u, hue, hud⟩ := hrv
          have hargs : DenL ρ (y :: args.toList.map E) (u :: args.toList.map a.eval) := ⟨u, _, rfl, hud, denL_map hE _⟩
          obtain ⟨hcall, hcs⟩ := callFn_sound hsp hinl H hargs h
          have hrun : (execOp a.eval o).run P w = .ok (.enter id (u :: args.toList.map a.eval).toArray) w := by
            obtain ⟨fn, hfn, hname, hbody⟩ := hcall
            have harr : (u :: args.toList.map a.eval).toArray = #[u] ++ args.map a.eval := by
              apply Array.ext'
              simp
            have hfuel : P.types.size + Made.depth = (P.types.size + Made.depth - 1) + 1 := by have : 0 < Made.depth := by decide
                                                                                               omega
            rw [harr]
            simp only [execOp, ho, resolve, hue, Sem.run_bind, Sem.run_pure, Result.andThen_ok, invoke, callMethod, run_program]
            have h0 : (#[Value.iface t u] ++ args.map a.eval)[0]? = some (Value.iface t u) := by
              rw [Array.getElem?_append_left (by simp)]
              rfl
            simp only [h0]
            simp only [Sem.run_bind, run_program, Result.andThen_ok]
            rw [hfuel, run_methOf hm]
            simp only [Result.andThen_ok, callFunc, Sem.run_bind, run_program, hfn, hname, hbody]
            simp only [Bool.false_eq_true, if_false]
            have : (#[Value.iface t u] ++ args.map a.eval).extract 1 (#[Value.iface t u] ++ args.map a.eval).size = args.map a.eval := by
              apply Array.ext'
              simp [List.take_of_length_le]
            rw [this]
            rfl
          unfold Oper.wp
          rw [hrun]
          refine hcs.mono fun e w' he => ?_
          obtain ⟨v, ρ', hp', sv, T, rfl, hd, hs, ht, hK⟩ := he
          exact hn ρ' w' sv v hp' T hs ht hd hK
        · exact h.elim
      · exact h.elim
    · exact other h
end Go.Eng
/- The executor: an operation that only reads is taken first, if whoever writes what it reads waits for it. -/
set_option linter.unusedSimpArgs false
set_option linter.unusedSectionVars false
namespace Go.Eng
variable [CW : CWorld]
section
variable {P : Program} {ops : Array Oper} {Q : Exit → Act → World → Prop} {md : Region.Mode} {S : (Nat → Bool) → World → Prop}
abbrev got (listed : Array Bool) : Nat → Bool := fun j => listed.getD j false
def wpAnyD (P : Program) (md : Region.Mode) (ops : Array Oper) (Q : Exit → Act → World → Prop) (S : (Nat → Bool) → World → Prop) : Nat → Array Bool → Act → World → Prop
  | 0, listed, a, w => Region.ready md ops listed = [] ∧ Q .normal a w
  | fuel + 1, listed, a, w =>
    (Region.ready md ops listed = [] → Q .normal a w) ∧
    ∀ i ∈ Region.ready md ops listed, wpOp P ops Q i (fun a' w' => S (got (listed.setIfInBounds i true)) w' ∧ wpAnyD P md ops Q S fuel (listed.setIfInBounds i true) a' w') a w
theorem wpAny_of_wpAnyD : ∀ (fuel : Nat) (listed : Array Bool) (a : Act) (w : World), wpAnyD P md ops Q S fuel listed a w → wpAny P md ops Q fuel listed a w
  | 0, _, _, _, h => h
  | fuel + 1, _, _, _, h => ⟨h.1, fun i hi => wpOp_mono (fun a' w' h' => wpAny_of_wpAnyD fuel _ a' w' h'.2) (h.2 i hi)⟩
structure Down (md : Region.Mode) (ops : Array Oper) (D : List Nat) (i : Nat) : Prop where
  self : i ∈ D
  waits : ∀ j o, j ∈ D → j ≠ i → ops[j]? = some o → ∃ e ∈ o.after, Region.binds md e = true ∧ e.on ∈ D
theorem wpAnyD_first {i : Nat} {oi : Oper} {v : Value} {D : List Nat} {Si : World → Prop} (hi : ops[i]? = some oi) (hsel : ∀ (j : Nat) (o : Oper) cs b, ops[j]? = some o → o.op ≠ .select cs b)
    (hQ : ∀ c a w, Q (.panic c) (a.put oi.dst v) w → Q (.panic c) a w) (hD : Down md ops D i)
    (hS : ∀ (L : Nat → Bool) (w : World), (∀ k ∈ D, L k = false) → S L w → Si w)
    (hSi : ∀ (L L' : Nat → Bool) (w : World), (∀ k, k ≠ i → L' k = L k) → S L w → S L' w) :
    ∀ (fuel : Nat) (listed : Array Bool) (a : Act) (w : World),
      (∀ k ∈ D, got listed k = false) →
      (∀ j oj, ops[j]? = some oj → j ≠ i → listed.getD j true = false → (∀ e ∈ oj.after, Region.binds md e = true → e.on ≠ i) → oi.apart ops oj = true) →
      i ∈ Region.ready md ops listed → YieldsIf P ops Si oi v a → S (got listed) w →
      wpAnyD P md ops Q S fuel (listed.setIfInBounds i true) (a.put oi.dst v) w → wpAnyD P md ops Q S (fuel + 1) listed a w := by
  have gotSet : ∀ (listed : Array Bool) (i k : Nat), k ≠ i → got (listed.setIfInBounds i true) k = got listed k := fun listed i k h => getD_set_ne false (Ne.symm h)
  intro fuel
  induction fuel with
  | zero =>
    intro listed a w hl _ hr hy hSw H
    refine ⟨fun h => (by rw [h] at hr; cases hr), fun j hj => ?_⟩
    by_cases hji : j = i
    · subst hji; exact hy.wpOp hi (hS _ _ hl hSw) ⟨hSi _ _ _ (fun k hk => gotSet listed j k hk) hSw, H⟩
    · have := ready_mono hj hji
      rw [H.1] at this
      cases this
  | succ fuel ih =>
    intro listed a w hl hfree hr hy hSw H
    refine ⟨fun h => (by rw [h] at hr; cases hr), fun j hj => ?_⟩
    by_cases hji : j = i
    · subst hji; exact hy.wpOp hi (hS _ _ hl hSw) ⟨hSi _ _ _ (fun k hk => gotSet listed j k hk) hSw, H⟩
    · have h1 := H.2 j (ready_mono hj hji)
      obtain ⟨hjun, oj, hoj, hall⟩ := mem_ready.1 hj
      have hnot : ∀ e ∈ oj.after, Region.binds md e = true → e.on ≠ i := fun e he hb heq => by
        have h1 := hall e he hb
        rw [heq] at h1
        have := hl i hD.self
        simp only [got] at this
        rw [h1] at this
        cases this
      have hjD : j ∉ D := fun hm => by
        obtain ⟨e, he, hb, hon⟩ := hD.waits j oj hm hji hoj
        have h1 := hall e he hb
        have := hl _ hon
        simp only [got] at this
        rw [h1] at this
        cases this
      have h2 := wpOp_putIf hoj (hfree j oj hoj hji hjun hnot) (fun cs b => hsel i oi cs b hi) (fun cs b => hsel j oj cs b hoj) hQ hy h1
      have hfree' : ∀ k ok, ops[k]? = some ok → k ≠ i → (listed.setIfInBounds j true).getD k true = false →
          (∀ e ∈ ok.after, Region.binds md e = true → e.on ≠ i) → oi.apart ops ok = true := fun k ok hk hki hun hno => by
        refine hfree k ok hk hki ?_ hno
        by_cases hjk : j = k
        · subst hjk; exact hjun
        · rw [getD_set_ne true hjk] at hun; exact hun
      have hl' : ∀ k ∈ D, got (listed.setIfInBounds j true) k = false := fun k hk => by
        have hne : k ≠ j := fun e => hjD (e ▸ hk)
        rw [gotSet listed j k hne]
        exact hl k hk
      refine wpOp_mono (fun a' w' h3 => ?_) h2
      obtain ⟨hy', hS', hrest⟩ := h3
      have hS'' : S (got (listed.setIfInBounds j true)) w' := hSi _ _ _ (fun k hk => by
        rw [Array.setIfInBounds_comm _ _ (Ne.symm hji)]
        exact (gotSet _ i k hk).symm) hS'
      refine ⟨hS'', ih (listed.setIfInBounds j true) a' w' hl' hfree' (ready_mono hr (Ne.symm hji)) hy' hS'' ?_⟩
      rw [Array.setIfInBounds_comm _ _ hji]
      exact hrest
theorem wpAnyD_take {i : Nat} {oi : Oper} {v : Value} {D : List Nat} {Si : World → Prop} {fuel : Nat} {listed : Array Bool} {a : Act} {w : World} (hi : ops[i]? = some oi)
    (hs : Region.noSelect ops = true) (hf : Region.free md ops listed i = true) (hr : (Region.ready md ops listed).contains i = true)
    (hQ : ∀ c a w, Q (.panic c) (a.put oi.dst v) w → Q (.panic c) a w) (hD : Down md ops D i) (hl : ∀ k ∈ D, got listed k = false)
    (hS : ∀ (L : Nat → Bool) (w : World), (∀ k ∈ D, L k = false) → S L w → Si w)
    (hSi : ∀ (L L' : Nat → Bool) (w : World), (∀ k, k ≠ i → L' k = L k) → S L w → S L' w)
    (hy : YieldsIf P ops Si oi v a) (hSw : S (got listed) w)
    (h : wpAnyD P md ops Q S fuel (listed.setIfInBounds i true) (a.put oi.dst v) w) : wpAnyD P md ops Q S (fuel + 1) listed a w :=
  wpAnyD_first hi (Region.noSelect_spec hs) hQ hD hS hSi fuel listed a w hl (Region.free_spec hi hf) (by simpa using hr) hy hSw h
theorem wpAnyD_all {rs : List Nat} {fuel : Nat} {listed : Array Bool} {a : Act} {w : World} (hr : Region.ready md ops listed = rs) (hne : rs ≠ [])
    (h : ∀ i ∈ rs, wpOp P ops Q i (fun a' w' => S (got (listed.setIfInBounds i true)) w' ∧ wpAnyD P md ops Q S fuel (listed.setIfInBounds i true) a' w') a w) : wpAnyD P md ops Q S (fuel + 1) listed a w :=
  ⟨fun h0 => absurd (hr ▸ h0) hne, hr ▸ h⟩
theorem wpAnyD_mono {S' : (Nat → Bool) → World → Prop} : ∀ (fuel : Nat) (listed : Array Bool) (a : Act) (w : World),
    (∀ (L : Nat → Bool) (w : World), (∀ k, got listed k = true → L k = true) → S' L w → S L w) → wpAnyD P md ops Q S' fuel listed a w → wpAnyD P md ops Q S fuel listed a w
  | 0, _, _, _, _, h => h
  | fuel + 1, listed, a, w, hS, h => ⟨h.1, fun i hi => wpOp_mono (fun a' w' ⟨h1, h2⟩ => by
      have sub : ∀ k, got listed k = true → got (listed.setIfInBounds i true) k = true := fun k hk => getD_set_true (i := i) (j := k) hk
      exact ⟨hS _ _ sub h1, wpAnyD_mono fuel _ a' w' (fun L w hL => hS L w (fun k hk => hL k (sub k hk))) h2⟩) (h.2 i hi)⟩
theorem wpAnyD_done {listed : Array Bool} {a : Act} {w : World} (hr : Region.ready md ops listed = []) (h : Q .normal a w) :
    ∀ fuel, wpAnyD P md ops Q S fuel listed a w
  | 0 => ⟨hr, h⟩
  | _ + 1 => ⟨fun _ => h, by rw [hr]; simp⟩
theorem wp_region_wpAnyD {id : Nat} {a : Act} {w : World} (hm : P.follows .mixedOrders = true)
    (h : wpAnyD P .any ops Q S ops.size (Array.replicate ops.size false) a { w with drawn := w.drawn + 1 }) : (Code.region id ops true).wp P Q a w :=
  wp_region_any hm (wpAny_of_wpAnyD _ _ _ _ h)
end
end Go.Eng
/- The executor, eighteenth text: regions. -/
set_option linter.unusedSimpArgs false
set_option linter.unusedSectionVars false
namespace Go.Eng
variable [CW : CWorld]
variable (ar : AR)
def ev (fr : List SV) : Operand → SV
  | .tmp t => fr.getD t .any
  | .const v => svOf v
  | .global _ => .any
  | .func f => .fn f []
def putD (fr : List SV) : Option Tmp → SV → List SV
  | some d, v => fr.set d v
  | none, _ => fr
class DMarks where
  l : List Deferred
structure FrOK [DM : DMarks] (ρ : List Nat) (fr : List SV) (a : Act) : Prop where
  den : DenL ρ fr a.tmps.toList
  defers : a.defers = DM.l
theorem FrOK.eval [DM : DMarks] {ρ : List Nat} {fr : List SV} {a : Act} (h : FrOK ρ fr a) (x : Operand) : Den ρ (ev fr x) (a.eval x) := by
  cases x with
  | tmp t =>
    simp only [ev, Act.eval]
    by_cases ht : t < fr.length
    · obtain ⟨v, hv, hd⟩ := denL_get h.den (List.getElem?_eq_getElem ht)
      have : a.tmps.getD t undef = v := by
        simp only [Array.getElem?_toList] at hv
        simp [hv]
      rw [this]
      simpa [List.getD, List.getElem?_eq_getElem ht] using hd
    · simp [List.getD, List.getElem?_eq_none (Nat.le_of_not_lt ht), Den]
  | const v => exact den_svOf ρ v
  | global g => trivial
  | func f => exact ⟨[], rfl, rfl⟩
theorem FrOK.put [DM : DMarks] {ρ : List Nat} {fr : List SV} {a : Act} (h : FrOK ρ fr a) (d : Option Tmp) {sv : SV} {v : Value} (hd : Den ρ sv v) : FrOK ρ (putD fr d sv) (a.put d v) := by
  cases d with
  | none => exact h
  | some d => exact ⟨by simpa [Act.put, putD] using denL_set d h.den hd, h.defers⟩
theorem FrOK.mono [DM : DMarks] {ρ : List Nat} {fr : List SV} {a : Act} (h : FrOK ρ fr a) {ρ' : List Nat} (ho : ∃ l, ρ' = ρ ++ l) : FrOK ρ' fr a := by
  obtain ⟨l, rfl⟩ := ho
  exact ⟨h.den.mono l, h.defers⟩
def gd (ops : List Oper) (fr : List SV) (g : Option (Nat × Bool)) : Option BB :=
  match g with
  | none => some (.l true)
  | some (j, want) =>
    match (ops[j]?).bind (·.dst) with
    | some t => match fr[t]? with
      | some (.bool (.l b)) => some (.l (b == want))
      | some (.bool (.x p)) => some (.x (match want with | true => p | false => ¬ p))
      | some (.tup _) => some (.l false)
      | _ => none
    | none => none
theorem gd_sound [DM : DMarks] {ρ : List Nat} {ops : List Oper} {fr : List SV} {a : Act} (h : FrOK ρ fr a) {o : Oper} {b : BB} (hg : gd ops fr o.guard = some b) :
    Region.wanted o (yielded ops.toArray a.tmps) = true ↔ b.prop := by
  unfold gd at hg
  split at hg
  · rename_i hn
    cases hg
    simp [Region.wanted, hn, BB.prop]
  · rename_i j want hn
    split at hg
    · rename_i t ht
      have key : ∀ (c : BB), fr[t]? = some (.bool c) → ∃ d : Bool, yielded ops.toArray a.tmps j = some d ∧ (d = true ↔ c.prop) := fun c hc => by
        obtain ⟨v, hv, hd⟩ := denL_get h.den hc
        simp only [Den] at hd
        obtain ⟨d, rfl, hd⟩ := hd
        refine ⟨d, ?_, hd⟩
        simp only [Array.getElem?_toList] at hv
        simp [yielded, ht, hv]
      split at hg
      · rename_i c hc
        cases hg
        obtain ⟨d, hy, hd⟩ := key _ hc
        simp only [BB.prop] at hd
        simp only [Region.wanted, hn, hy, BB.prop]
        cases c <;> cases d <;> cases want <;> simp_all
      · rename_i p hc
        cases hg
        obtain ⟨d, hy, hd⟩ := key _ hc
        simp only [BB.prop] at hd
        simp only [Region.wanted, hn, hy, BB.prop]
        cases want
        · simp only [← hd]
          cases d <;> simp
        · simp only [← hd]
          cases d <;> simp
      · rename_i l hc
        cases hg
        obtain ⟨v, hv, hd⟩ := denL_get h.den hc
        simp only [Den] at hd
        obtain ⟨vs, rfl, hd⟩ := hd
        simp only [Array.getElem?_toList] at hv
        simp [Region.wanted, hn, BB.prop, yielded, ht, hv]
      · cases hg
    · cases hg
def asked (want yes : Bool) : Bool :=
  match yes with
  | true => want
  | false => !want
def settle (ops : List Oper) (fr : List SV) (g : Option (Nat × Bool)) (yes : Bool) : List SV :=
  match g with
  | none => fr
  | some (j, want) =>
    match (ops[j]?).bind (·.dst) with
    | some t => match fr[t]? with
      | some (.bool _) => fr.set t (.bool (.l (asked want yes)))
      | _ => fr
    | none => fr
theorem list_set_same {α : Type} : ∀ {l : List α} {t : Nat} {v : α}, l[t]? = some v → l.set t v = l
  | [], t, v, h => by simp at h
  | x :: l, 0, v, h => by simp at h; simp [h]
  | x :: l, t + 1, v, h => by simp only [List.set_cons_succ]; rw [list_set_same (by simpa using h)]
theorem FrOK.settle [DM : DMarks] {ρ : List Nat} {ops : List Oper} {fr : List SV} {a : Act} (h : FrOK ρ fr a) {g : Option (Nat × Bool)} {b : BB} (hg : gd ops fr g = some b) {yes : Bool} (hb : b.prop ↔ yes = true) :
    FrOK ρ (settle ops fr g yes) a := by
  unfold gd at hg
  split at hg
  · exact h
  · rename_i j want
    split at hg
    · rename_i t ht
      simp only [Go.Eng.settle, ht]
      have key : ∀ (c : BB), fr[t]? = some (.bool c) → (c.prop ↔ (asked want yes) = true) → FrOK ρ (match fr[t]? with | some (.bool _) => fr.set t (.bool (.l (asked want yes))) | _ => fr) a := fun c hc hcy => by
        simp only [hc]
        obtain ⟨v, hv, hd⟩ := denL_get h.den hc
        refine ⟨?_, h.defers⟩
        have := denL_set (a := .bool (.l (asked want yes))) (v := v) t h.den (by
          simp only [Den] at hd ⊢
          obtain ⟨d, rfl, hd⟩ := hd
          exact ⟨d, rfl, hd.trans hcy⟩)
        rwa [list_set_same hv] at this
      split at hg
      · rename_i c hc
        cases hg
        refine key _ hc ?_
        simp only [BB.prop] at hb ⊢
        cases c <;> cases want <;> cases yes <;> simp_all [asked]
      · rename_i p hc
        cases hg
        refine key _ hc ?_
        simp only [BB.prop] at hb ⊢
        cases want <;> cases yes <;> simp_all [asked]
      · rename_i l hc
        simp only [hc]
        exact h
      · cases hg
    · cases hg
def guardStep (b : BB) (yes no : Prop) : Prop :=
  match b with
  | .l true => yes
  | .l false => no
  | .x p => (p → yes) ∧ (¬ p → no)
theorem guardStep_sound {b : BB} {yes no : Prop} (h : guardStep b yes no) : (b.prop → yes) ∧ (¬ b.prop → no) := by
  unfold guardStep at h
  split at h
  · exact ⟨fun _ => h, fun hn => absurd rfl hn⟩
  · exact ⟨fun hn => by simp [BB.prop] at hn, fun _ => h⟩
  · exact h
noncomputable def runList (P : Program) (specs : Specs) (inl : Inl) (ops : List Oper) : List Oper → List SV → List Blk → (List SV → List Blk → Prop) → Prop
  | [], fr, hp, K => K fr hp
  | o :: l, fr, hp, K =>
    match gd ops fr o.guard with
    | some b => guardStep b (opStep ar P specs inl hp (ev (settle ops fr o.guard true)) o.op fun sv hp' _ => runList P specs inl ops l (putD (settle ops fr o.guard true) o.dst sv) hp' K)
        (runList P specs inl ops l (putD (settle ops fr o.guard false) o.dst (.tup [])) hp K)
    | none => False
theorem runList_sound [DM : DMarks] {P : Program} {specs : Specs} (hsp : SpecsOK P specs) {inl : Inl} (hinl : InlOK P inl) {ops : List Oper} {Q : Exit → Act → World → Prop}
    {ρ0 : List Nat} {hp0 : List Blk} {w0 : World} {K : List SV → List Blk → Prop}
    (hQ : ∀ (ρ : List Nat) (w : World) (fr : List SV) (hp : List Blk) (a : Act), Since ρ0 hp0 w0 ρ hp w → FrOK ρ fr a → K fr hp → Q .normal a w) :
    ∀ (l : List Oper) (ρ : List Nat) (w : World) (fr : List SV) (hp : List Blk) (a : Act), Since ρ0 hp0 w0 ρ hp w → FrOK ρ fr a → runList ar0 P specs inl ops l fr hp K → wpList P ops.toArray Q l a w
  | [], ρ, w, fr, hp, a, S, F, h => wpList_nil (hQ ρ w fr hp a S F h)
  | o :: l, ρ, w, fr, hp, a, S, F, h => by
    simp only [runList] at h
    split at h
    · rename_i b hb
      have hg := gd_sound F hb
      obtain ⟨h1, h2⟩ := guardStep_sound h
      unfold wpList
      split
      · rename_i hw
        left
        have F1 := F.settle hb (yes := true) ⟨fun _ => rfl, fun _ => hg.1 hw⟩
        refine opStep_sound hsp hinl S.hok F1.eval (h1 (hg.1 hw)) (fun ρ' w' sv v hp' T hs _ hd hK => ?_)
        exact runList_sound hsp hinl hQ l ρ' w' _ hp' _ (S.trans hs) ((F1.mono hs.old).put o.dst hd) hK
      · rename_i hw
        have F2 := F.settle hb (yes := false) ⟨fun hp => absurd (hg.2 hp) hw, fun h => by cases h⟩
        exact runList_sound hsp hinl hQ l ρ w _ hp _ S (F2.put o.dst (sv := .tup []) ⟨[], rfl, rfl⟩) (h2 (fun hp => hw (hg.2 hp)))
    · exact h.elim
mutual
/-- The blocks that a value points to. -/
def svBlks : SV → List Nat
  | .ptr n _ => [n]
  | .map n => [n]
  | .slc n _ _ _ => [n]
  | .fn _ l => svsBlks l
  | .ifc _ v => svBlks v
  | .agg l => svsBlks l
  | .tup l => svsBlks l
  | _ => []
def svsBlks : List SV → List Nat
  | [] => []
  | v :: l => svBlks v ++ svsBlks l
end
def segsBlks : List Seg → List Nat
  | [] => []
  | .one v :: s => svBlks v ++ segsBlks s
  | .arr _ _ :: s => segsBlks s
def reachBlks (hp : List Blk) : Nat → List Nat → List Nat
  | 0, l => l
  | n + 1, l => l ++ reachBlks hp n (l.flatMap fun b => match hp[b]? with
    | some (Blk.mk _ s) => segsBlks s
    | _ => [])
noncomputable def guessW (P : Program) (specs : Specs) (hp : List Blk) (listed : Array Bool) : Nat → List Oper → List SV → List (Nat × Nat)
  | _, [], _ => []
  | i, o :: l, fr =>
    match listed.getD i false with
    | true => guessW P specs hp listed (i + 1) l fr
    | false =>
      match qv ar P hp (ev fr) o.op with
      | some (sv, _) => guessW P specs hp listed (i + 1) l (putD fr o.dst sv)
      | none =>
        ((match o.op with
          | .store _ a _ => svBlks (ev fr a)
          | .call { callee := .value f, args, .. } =>
            match ev fr f with
            | .fn id caps =>
              match specs id (args.toList.map (ev fr) ++ caps) hp with
              | some S => match S.frz, S.far with
                | true, _ => []
                | false, true => List.range hp.length
                | false, false => reachBlks hp 3 (svsBlks (args.toList.map (ev fr) ++ caps))
              | none => List.range hp.length
            | _ => []
          | .call { callee := .invoke r name, args, .. } =>
            match ev fr r with
            | .ifc t v =>
              match methOf P t name with
              | some id =>
                match specs id (v :: args.toList.map (ev fr)) hp with
                | some S => match S.frz with
                  | true => []
                  | false => reachBlks hp 3 (svsBlks (v :: args.toList.map (ev fr)))
                | none => List.range hp.length
              | none => []
            | _ => []
          | .call { args, .. } => svsBlks (args.toList.map (ev fr))
          | _ => []).map fun n => (i, n)) ++ guessW P specs hp listed (i + 1) l (putD fr o.dst .any)
noncomputable def rebase (P : Program) (specs : Specs) (ops : List Oper) (k : Nat) (wr : List (Nat × Nat)) (listed : Array Bool) (fr : List SV) (hp : List Blk) : List (Nat × Nat) :=
  (wr.filter fun p => !listed.getD p.1 false) ++ ((guessW ar P specs hp listed 0 ops fr).filter fun p => decide (k ≤ p.2))
def downFrom (ops : List Oper) (i : Nat) : List Nat :=
  (List.range ops.length).foldl (fun D k => match ops[k]? with
    | some o => match o.after.toList.any fun e => Region.binds .any e && D.contains e.on with
      | true => k :: D
      | false => D
    | none => D) [i]
def downOK (ops : List Oper) (D : List Nat) (i : Nat) : Bool :=
  D.contains i && D.all fun k => k == i || match ops[k]? with
    | some o => o.after.toList.any fun e => Region.binds .any e && D.contains e.on
    | none => true
theorem downOK_sound {ops : List Oper} {D : List Nat} {i : Nat} (h : downOK ops D i = true) : Down .any ops.toArray D i := by
  unfold downOK at h
  obtain ⟨h1, h2⟩ := Bool.and_eq_true_iff.1 h
  refine ⟨by simpa using h1, fun j o hj hne ho => ?_⟩
  have := List.all_eq_true.1 h2 j hj
  simp only [Bool.or_eq_true, beq_iff_eq, hne, false_or] at this
  have ho' : ops[j]? = some o := by simpa using ho
  rw [ho'] at this
  obtain ⟨e, he, hb⟩ := List.any_eq_true.1 this
  obtain ⟨b1, b2⟩ := Bool.and_eq_true_iff.1 hb
  exact ⟨e, by simpa using he, b1, by simpa using b2⟩
def notDown (wr : List (Nat × Nat)) (D : List Nat) : List Nat := (wr.filter fun p => !D.contains p.1).map (·.2)
def maskFrom (W : List Nat) : Nat → List Blk → List Blk
  | _, [] => []
  | i, b :: l => (if W.contains i then .gone else b) :: maskFrom W (i + 1) l
theorem maskFrom_get (W : List Nat) : ∀ (i : Nat) (hp : List Blk) (n : Nat) (t : TypeId) (s : List Seg), (maskFrom W i hp)[n]? = some (.mk t s) → hp[n]? = some (.mk t s)
  | i, [], n, t, s, h => by simp [maskFrom] at h
  | i, b :: l, n, t, s, h => by
    cases n with
    | zero =>
      simp only [maskFrom] at h
      simp only [List.getElem?_cons_zero, Option.some.injEq] at h ⊢
      split at h
      · cases h
      · exact h
    | succ n =>
      simp only [maskFrom, List.getElem?_cons_succ] at h ⊢
      exact maskFrom_get W (i + 1) l n t s h
theorem length_maskFrom (W : List Nat) : ∀ (i : Nat) (hp : List Blk), (maskFrom W i hp).length = hp.length
  | i, [] => rfl
  | i, b :: l => by simp [maskFrom, length_maskFrom W (i + 1) l]
def padTo (hpS : List Blk) (n : Nat) : List Blk := hpS ++ List.replicate (n - hpS.length) .gone
def mayPick (ops : List Oper) (wr : List (Nat × Nat)) (listed : Array Bool) (i : Nat) : Bool :=
  Region.free .any ops.toArray listed i && wr.all (fun p => p.1 != i) && downOK ops (downFrom ops i) i && (downFrom ops i).all fun k => !listed.getD k false
noncomputable def pickQ (P : Program) (ops : List Oper) (hpS : List Blk) (len : Nat) (wr : List (Nat × Nat)) (listed : Array Bool) (fr : List SV) : List Nat → Option (Nat × SV × List Prop × Option Tmp)
  | [] => none
  | i :: rs =>
    match mayPick ops wr listed i, ops[i]? with
    | true, some o =>
      match gd ops fr o.guard with
      | some (.l true) =>
        match qv ar P (padTo (maskFrom (notDown wr (downFrom ops i)) 0 hpS) len) (ev fr) o.op with
        | some (sv, vc) => some (i, sv, vc, o.dst)
        | none => pickQ P ops hpS len wr listed fr rs
      | some (.l false) => some (i, .tup [], [], o.dst)
      | _ => pickQ P ops hpS len wr listed fr rs
    | _, _ => pickQ P ops hpS len wr listed fr rs
def andAll : List Nat → (Nat → Prop) → Prop
  | [], _ => True
  | [i], f => f i
  | i :: l, f => f i ∧ andAll l f
theorem andAll_mem {f : Nat → Prop} : ∀ {l : List Nat} {i : Nat}, andAll l f → i ∈ l → f i
  | [], i, h, hi => by cases hi
  | [j], i, h, hi => by simp at hi; subst hi; exact h
  | j :: k :: l, i, h, hi => by
    simp only [andAll] at h
    rcases List.mem_cons.1 hi with e | e
    · subst e; exact h.1
    · exact andAll_mem h.2 e
def keepB (hpS : List Blk) (wr : List (Nat × Nat)) (i : Nat) (T : List Nat) : Bool :=
  T.all fun n => match hpS[n]? with
    | some (.mk _ _) => wr.any fun p => p.1 == i && p.2 == n
    | _ => true
def splitG (ops : List Oper) (fr : List SV) : List Nat → Option (Nat × Bool)
  | [] => none
  | i :: rs =>
    match ops[i]? with
    | some o =>
      match o.guard, gd ops fr o.guard with
      | some g, some (.x _) => some g
      | _, _ => splitG ops fr rs
    | none => splitG ops fr rs
def dSplit (ops : List Oper) (fr : List SV) (rs : List Nat) (picked : Bool) (k : List SV → Prop) : Prop :=
  match picked with
  | true => k fr
  | false =>
    match splitG ops fr rs with
    | some g =>
      match gd ops fr (some g) with
      | some (.x p) => (p → k (settle ops fr (some g) true)) ∧ (¬ p → k (settle ops fr (some g) false))
      | _ => k fr
    | none => k fr
theorem dSplit_sound [DM : DMarks] {ρ : List Nat} {ops : List Oper} {fr : List SV} {a : Act} (F : FrOK ρ fr a) {rs : List Nat} {b : Bool} {k : List SV → Prop} (h : dSplit ops fr rs b k) :
    ∃ fr', FrOK ρ fr' a ∧ k fr' := by
  unfold dSplit at h
  split at h
  · exact ⟨fr, F, h⟩
  · split at h
    · rename_i g _
      split at h
      · rename_i p hg
        by_cases hp : p
        · exact ⟨_, F.settle hg (yes := true) ⟨fun _ => rfl, fun _ => hp⟩, h.1 hp⟩
        · exact ⟨_, F.settle hg (yes := false) ⟨fun h => absurd h hp, fun h => by cases h⟩, h.2 hp⟩
      · exact ⟨fr, F, h⟩
    · exact ⟨fr, F, h⟩
noncomputable def drawRun (P : Program) (specs : Specs) (inl : Inl) (ops : List Oper) : Nat → List Blk → List (Nat × Nat) → Array Bool → List SV → List Blk → (List SV → List Blk → Prop) → Prop
  | 0, hpS, wr, listed, fr, hp, K =>
    match Region.ready .any ops.toArray listed with
    | [] => K fr hp
    | _ => False
  | n + 1, hpS, wr, listed, fr, hp, K =>
    match Region.ready .any ops.toArray listed with
    | [] => K fr hp
    | r :: rs =>
      dSplit ops fr (r :: rs) (pickQ ar P ops hpS hp.length wr listed fr (r :: rs)).isSome fun fr =>
      match pickQ ar P ops hpS hp.length wr listed fr (r :: rs) with
      | some (i, sv, vc, dst) => vcs vc (match ops[i]? with
        | some o => named o.op sv fun sv => drawRun P specs inl ops n hpS wr (listed.setIfInBounds i true) (putD fr dst sv) hp K
        | none => False)
      | none =>
        andAll (r :: rs) fun i =>
          match ops[i]? with
          | some o =>
            match gd ops fr o.guard with
            | some b =>
              guardStep b
                (opStep ar P specs inl hp (ev (settle ops fr o.guard true)) o.op fun sv hp' T =>
                  match keepB hpS wr i T with
                  | true => drawRun P specs inl ops n hp' (rebase ar P specs ops hpS.length wr (listed.setIfInBounds i true) (putD (settle ops fr o.guard true) o.dst sv) hp') (listed.setIfInBounds i true) (putD (settle ops fr o.guard true) o.dst sv) hp' K
                  | false => False)
                (drawRun P specs inl ops n hpS wr (listed.setIfInBounds i true) (putD (settle ops fr o.guard false) o.dst (.tup [])) hp K)
            | none => False
          | none => False
theorem pickQ_spec {P : Program} {ops : List Oper} {hpS : List Blk} {len : Nat} {wr : List (Nat × Nat)} {listed : Array Bool} {fr : List SV} : ∀ {rs : List Nat} {i : Nat} {sv : SV} {vc : List Prop} {dst : Option Tmp},
    pickQ ar0 P ops hpS len wr listed fr rs = some (i, sv, vc, dst) → i ∈ rs ∧ mayPick ops wr listed i = true ∧ ∃ o, ops[i]? = some o ∧ dst = o.dst ∧
      ((gd ops fr o.guard = some (.l true) ∧ qv ar0 P (padTo (maskFrom (notDown wr (downFrom ops i)) 0 hpS) len) (ev fr) o.op = some (sv, vc)) ∨ (gd ops fr o.guard = some (.l false) ∧ sv = .tup [] ∧ vc = []))
  | [], i, sv, vc, dst, h => by simp [pickQ] at h
  | r :: rs, i, sv, vc, dst, h => by
    have rest : pickQ ar0 P ops hpS len wr listed fr rs = some (i, sv, vc, dst) → i ∈ r :: rs ∧ mayPick ops wr listed i = true ∧ ∃ o, ops[i]? = some o ∧ dst = o.dst ∧
      ((gd ops fr o.guard = some (.l true) ∧ qv ar0 P (padTo (maskFrom (notDown wr (downFrom ops i)) 0 hpS) len) (ev fr) o.op = some (sv, vc)) ∨ (gd ops fr o.guard = some (.l false) ∧ sv = .tup [] ∧ vc = [])) := fun h => by
      obtain ⟨h1, h2⟩ := pickQ_spec h
      exact ⟨List.mem_cons_of_mem _ h1, h2⟩
    simp only [pickQ] at h
    split at h
    · rename_i o hm ho
      split at h
      · rename_i hg
        split at h
        · rename_i sv' vc' hq
          cases h
          exact ⟨by simp, hm, o, ho, rfl, .inl ⟨hg, hq⟩⟩
        · exact rest h
      · rename_i hg
        cases h
        exact ⟨by simp, hm, o, ho, rfl, .inr ⟨hg, rfl, rfl⟩⟩
      · exact rest h
    · exact rest h
structure SD (ρ1 : List Nat) (w1 : World) (hpS : List Blk) (wr : List (Nat × Nat)) (L : Nat → Bool) (w : World) : Prop where
  cst : CSame w
  blk : ∀ (n b : Nat) (t : TypeId) (s : List Seg), hpS[n]? = some (.mk t s) → segsSize s ≠ 0 → ρ1[n]? = some b → (∀ j, (j, n) ∈ wr → L j = false) → w.heap[b]? = w1.heap[b]?
structure DrawInv (ρ1 : List Nat) (w1 : World) (hpS : List Blk) (wr : List (Nat × Nat)) (L : Nat → Bool) (ρ : List Nat) (hp : List Blk) (w : World) : Prop where
  old : ∃ l, ρ = ρ1 ++ l
  len : ρ1.length = hpS.length
  hp : ∀ (n : Nat) (t : TypeId) (s : List Seg), hpS[n]? = some (.mk t s) → (∀ j, (j, n) ∈ wr → L j = false) → hp[n]? = some (.mk t s)
  ok : ∀ (n b : Nat) (t : TypeId) (s : List Seg), hpS[n]? = some (.mk t s) → ρ1[n]? = some b → BlkOK ρ1 w1 b (.mk t s)
  inj : ∀ (i j n : Nat) (t t' : TypeId) (s s' : List Seg), hpS[i]? = some (.mk t s) → hpS[j]? = some (.mk t' s') → segsSize s ≠ 0 → segsSize s' ≠ 0 → ρ1[i]? = some n → ρ1[j]? = some n → i = j
  same : SD ρ1 w1 hpS wr L w
  cst1 : CSame w1
  above : ∀ (n b : Nat) (t : TypeId) (s : List Seg), hpS[n]? = some (.mk t s) → segsSize s ≠ 0 → ρ1[n]? = some b → CW.w.heap.size ≤ b
theorem DrawInv.base {ρ : List Nat} {hp : List Blk} {w : World} {wr : List (Nat × Nat)} {L : Nat → Bool} (H : HOK ρ hp w) : DrawInv ρ w hp wr L ρ hp w where
  old := ⟨[], by simp⟩
  len := H.len
  hp := fun n t s hn _ => hn
  ok := fun n b t s hn hb => H.ok n b _ hn hb
  inj := fun i j n t t' s s' hi hj zi zj ri rj => H.inj i j n _ _ hi hj zi zj ri rj
  cst1 := H.cst
  above := fun n b t s hn hz hb => H.above n b _ hn hz hb
  same := ⟨H.cst, fun _ _ _ _ _ _ _ _ => rfl⟩
theorem got_sub {listed : Array Bool} {i : Nat} {k : Nat} (h : got (listed.setIfInBounds i true) k = false) : got listed k = false := by
  by_cases hk : k = i
  · subst hk
    cases hg : got listed k with
    | false => rfl
    | true =>
      have := getD_set_true (i := k) (j := k) hg
      rw [show got (listed.setIfInBounds k true) k = (listed.setIfInBounds k true).getD k false from rfl, this] at h
      cases h
  · rw [← h]
    exact (getD_set_ne false (Ne.symm hk)).symm
theorem DrawInv.later {ρ1 : List Nat} {w1 : World} {hpS : List Blk} {wr : List (Nat × Nat)} {listed : Array Bool} {ρ : List Nat} {hp : List Blk} {w : World} (D : DrawInv ρ1 w1 hpS wr (got listed) ρ hp w) (i : Nat) :
    DrawInv ρ1 w1 hpS wr (got (listed.setIfInBounds i true)) ρ hp w :=
  ⟨D.old, D.len, fun n t s hn hw => D.hp n t s hn (fun j hj => got_sub (hw j hj)), D.ok, D.inj, ⟨D.same.cst, fun n b t s hn hz hb hw => D.same.blk n b t s hn hz hb (fun j hj => got_sub (hw j hj))⟩, D.cst1, D.above⟩
theorem mask_notDown {wr : List (Nat × Nat)} {D : List Nat} : ∀ (i : Nat) (hp : List Blk) (n : Nat) (t : TypeId) (s : List Seg), (maskFrom (notDown wr D) i hp)[n]? = some (.mk t s) → ∀ j, (j, i + n) ∈ wr → j ∈ D
  | i, [], n, t, s, h => by simp [maskFrom] at h
  | i, b :: l, n, t, s, h => by
    cases n with
    | zero =>
      simp only [maskFrom, List.getElem?_cons_zero, Option.some.injEq] at h
      split at h
      · cases h
      · rename_i hc
        intro j hj
        refine Classical.byContradiction fun hn => hc ?_
        simp only [notDown, List.contains_iff_mem, List.mem_map, List.mem_filter]
        exact ⟨(j, i), ⟨by simpa using hj, by simpa using hn⟩, rfl⟩
    | succ n =>
      simp only [maskFrom, List.getElem?_cons_succ] at h
      intro j hj
      exact mask_notDown (i + 1) l n t s h j (by rw [show i + 1 + n = i + (n + 1) by omega]; exact hj)
theorem draw_sound [DM : DMarks] {P : Program} {specs : Specs} (hsp : SpecsOK P specs) {inl : Inl} (hinl : InlOK P inl) {ops : List Oper} {Q : Exit → Act → World → Prop}
    (hsel : Region.noSelect ops.toArray = true) (hpan : ∀ c a w, ¬ Q (.panic c) a w)
    {ρ0 : List Nat} {hp0 : List Blk} {w0 : World} {K : List SV → List Blk → Prop}
    (hQ : ∀ (ρ : List Nat) (w : World) (fr : List SV) (hp : List Blk) (a : Act), Since ρ0 hp0 w0 ρ hp w → FrOK ρ fr a → K fr hp → Q .normal a w)
    :
    ∀ {ρ1 : List Nat} {w1 : World} {hpS : List Blk} {wr : List (Nat × Nat)} (n : Nat) (listed : Array Bool) (ρ : List Nat) (w : World) (fr : List SV) (hp : List Blk) (a : Act), Since ρ0 hp0 w0 ρ hp w → FrOK ρ fr a → DrawInv ρ1 w1 hpS wr (got listed) ρ hp w →
      drawRun ar0 P specs inl ops n hpS wr listed fr hp K → wpAnyD P .any ops.toArray Q (SD ρ1 w1 hpS wr) n listed a w
  | ρ1, w1, hpS, wr, 0, listed, ρ, w, fr, hp, a, S, F, D, h => by
    simp only [drawRun] at h
    split at h
    · rename_i hr
      exact wpAnyD_done hr (hQ ρ w fr hp a S F h) 0
    · exact h.elim
  | ρ1, w1, hpS, wr, n + 1, listed, ρ, w, fr, hp, a, S, F, D, h => by
    simp only [drawRun] at h
    split at h
    · rename_i hr
      exact wpAnyD_done hr (hQ ρ w fr hp a S F h) _
    · rename_i r rs hr
      obtain ⟨fr, F, h⟩ := dSplit_sound F h
      split at h
      · rename_i i sv vc dst hp'
        obtain ⟨hv, h⟩ := vcs_iff.1 h
        obtain ⟨hmem, hmay, o, ho, rfl, hcase⟩ := pickQ_spec hp'
        rw [ho] at h
        have h := named_sound h
        unfold mayPick at hmay
        obtain ⟨hmay, hdl⟩ := Bool.and_eq_true_iff.1 hmay
        obtain ⟨hmay, hdown⟩ := Bool.and_eq_true_iff.1 hmay
        obtain ⟨hfree, hnw⟩ := Bool.and_eq_true_iff.1 hmay
        generalize hDn : downFrom ops i = Dn at hdl hdown hcase
        have hDown := downOK_sound hdown
        have hl : ∀ k ∈ Dn, got listed k = false := fun k hk => by
          have := List.all_eq_true.1 hdl k hk
          simpa using this
        have hnw' : ∀ n, (i, n) ∉ wr := fun n hm => by
          have := List.all_eq_true.1 hnw _ hm
          simp at this
        obtain ⟨l, hl'⟩ := D.old
        have hlen : ρ.length = hp.length := S.hok.len
        generalize hq : maskFrom (notDown wr Dn) 0 hpS = hpq at hcase
        have hqlen : hpq.length = hpS.length := by rw [← hq, length_maskFrom]
        have hqS : ∀ (m : Nat) (t : TypeId) (s : List Seg), hpq[m]? = some (.mk t s) → hpS[m]? = some (.mk t s) := fun m t s hm => by
          rw [← hq] at hm
          exact maskFrom_get _ _ _ _ _ _ hm
        have hle : hpS.length ≤ hp.length := by rw [← hlen, hl', List.length_append, D.len]; omega
        have hget : ∀ (m : Nat) (t : TypeId) (s : List Seg), (padTo hpq hp.length)[m]? = some (.mk t s) → hpq[m]? = some (.mk t s) ∧ m < ρ1.length := fun m t s hm => by
          unfold padTo at hm
          by_cases hlt : m < hpq.length
          · rw [List.getElem?_append_left hlt] at hm
            exact ⟨hm, by rw [D.len, ← hqlen]; exact hlt⟩
          · rw [List.getElem?_append_right (Nat.le_of_not_lt hlt), List.getElem?_replicate] at hm
            split at hm <;> cases hm
        have ρget : ∀ m, m < ρ1.length → ρ[m]? = ρ1[m]? := fun m hm => by rw [hl', List.getElem?_append_left hm]
        have Hq : HOK ρ (padTo hpq hp.length) w1 := {
          len := by simp [padTo, hlen]; omega
          inj := fun i j m b c hi hj gi gj ri rj => by
            cases b with
            | gone => exact gi.elim
            | mk t s =>
              cases c with
              | gone => exact gj.elim
              | mk t' s' =>
                obtain ⟨hi', li⟩ := hget _ _ _ hi
                obtain ⟨hj', lj⟩ := hget _ _ _ hj
                rw [ρget _ li] at ri
                rw [ρget _ lj] at rj
                exact D.inj i j m t t' s s' (hqS _ _ _ hi') (hqS _ _ _ hj') gi gj ri rj
          ok := fun m b x hx hb => by
            cases x with
            | gone => trivial
            | mk t s =>
              obtain ⟨hx', lx⟩ := hget _ _ _ hx
              rw [ρget _ lx] at hb
              rw [hl']
              exact (D.ok m b t s (hqS _ _ _ hx') hb).mono l
          cst := D.cst1
          above := fun i n b hi gi ri => by
            cases b with
            | gone => exact gi.elim
            | mk t s =>
              obtain ⟨hi', li⟩ := hget _ _ _ hi
              rw [ρget _ li] at ri
              exact D.above i n t s (hqS _ _ _ hi') gi ri }
        have Sq : ∀ w', Same ρ1 hpq w1 w' → Same ρ (padTo hpq hp.length) w1 w' := fun w' hs => ⟨fun m b t s hm hz hb => by
          obtain ⟨hm', lm⟩ := hget _ _ _ hm
          rw [ρget _ lm] at hb
          exact hs.blk m b t s hm' hz hb, hs.cst⟩
        have ho' : ops.toArray[i]? = some o := by simpa using ho
        have hy : ∃ v, Den ρ sv v ∧ YieldsIf P ops.toArray (Same ρ1 hpq w1) o v a := by
          rcases hcase with ⟨hg, hq⟩ | ⟨hg, rfl, rfl⟩
          · obtain ⟨v, hd, hrun⟩ := qv_sound Hq F.eval o sv vc hq hv
            exact ⟨v, hd, .inl ⟨(gd_sound F hg).2 rfl, fun w' hs => hrun w' (Sq w' hs)⟩⟩
          · refine ⟨undef, ⟨[], rfl, rfl⟩, .inr ⟨?_, rfl⟩⟩
            have := gd_sound F hg
            simp only [BB.prop, Bool.false_eq_true, iff_false, Bool.not_eq_true] at this
            exact this
        obtain ⟨v, hd, hy⟩ := hy
        refine wpAnyD_take (Si := Same ρ1 hpq w1) ho' hsel hfree (by rw [hr]; simpa using hmem) (fun c a w hq => absurd hq (hpan c _ w)) hDown hl
          (fun L w' hL hS => ⟨fun m b t s hm hz hb => hS.blk m b t s (hqS _ _ _ hm) hz hb (fun j hj => hL j (by
            rw [← hq] at hm
            exact mask_notDown 0 hpS m t s hm j (by rw [Nat.zero_add]; exact hj))), hS.cst⟩)
          (fun L L' w' hLL hS => ⟨hS.cst, fun m b t s hm hz hb hw => hS.blk m b t s hm hz hb (fun j hj => by
            rw [← hLL j (fun e => hnw' m (e ▸ hj))]
            exact hw j hj)⟩)
          hy D.same ?_
        exact draw_sound hsp hinl hsel hpan hQ n _ ρ w _ hp _ S (F.put o.dst hd) (D.later i) h
      · refine wpAnyD_all hr (by simp) (fun i hi => ?_)
        have h := andAll_mem h hi
        split at h
        · rename_i o ho
          split at h
          · rename_i b hb
            have hg := gd_sound F hb
            obtain ⟨h1, h2⟩ := guardStep_sound h
            have ho' : ops.toArray[i]? = some o := by simpa using ho
            unfold wpOp
            simp only [ho']
            split
            · rename_i hw
              left
              have F1 := F.settle hb (yes := true) ⟨fun _ => rfl, fun _ => hg.1 hw⟩
              refine opStep_sound hsp hinl S.hok F1.eval (h1 (hg.1 hw)) (fun ρ' w' sv v hp' T hs ht hd hK => ?_)
              split at hK
              · rename_i hkeep
                have inWr : ∀ (m : Nat) (t : TypeId) (s : List Seg), hpS[m]? = some (.mk t s) → m ∈ T → (i, m) ∈ wr := fun m t s hm hmT => by
                  have := List.all_eq_true.1 hkeep m hmT
                  simp only [hm, List.any_eq_true, Bool.and_eq_true, beq_iff_eq] at this
                  obtain ⟨p, hp, e1, e2⟩ := this
                  rw [← e1, ← e2]
                  exact hp
                have hin : got (listed.setIfInBounds i true) i = true := by
                  have hun := (mem_ready.1 (hr ▸ hi : i ∈ Region.ready .any ops.toArray listed)).1
                  have hlt : i < listed.size := by
                    rcases Nat.lt_or_ge i listed.size with h' | h'
                    · exact h'
                    · rw [Array.getD_eq_getD_getElem?, Array.getElem?_eq_none h'] at hun
                      cases hun
                  simp [got, hlt]
                have notT : ∀ (m : Nat) (t : TypeId) (s : List Seg), hpS[m]? = some (.mk t s) → (∀ j, (j, m) ∈ wr → got (listed.setIfInBounds i true) j = false) → m ∉ T := fun m t s hm hw hmT => by
                  have := hw i (inWr m t s hm hmT)
                  rw [hin] at this
                  cases this
                have D1 := D.later i
                obtain ⟨l, hl⟩ := D.old
                have D' : DrawInv ρ1 w1 hpS wr (got (listed.setIfInBounds i true)) ρ' hp' w' := {
                  old := by obtain ⟨l', hl'⟩ := hs.old; exact ⟨l ++ l', by rw [hl', hl, List.append_assoc]⟩
                  len := D.len
                  hp := fun m t s hm hw => by
                    have h0 := D1.hp m t s hm hw
                    rw [ht.keep m (notT m t s hm hw) (List.getElem?_eq_some_iff.1 h0).1]
                    exact h0
                  ok := D.ok
                  inj := D.inj
                  cst1 := D.cst1
                  above := D.above
                  same := ⟨hs.hok.cst, fun m b t s hm hz hbm hw => by
                    have h0 := D1.hp m t s hm hw
                    have hbρ : ρ[m]? = some b := by rw [hl, List.getElem?_append_left (List.getElem?_eq_some_iff.1 hbm).1]; exact hbm
                    rw [ht.heap m b _ (notT m t s hm hw) h0 hz hbρ]
                    exact D1.same.blk m b t s hm hz hbm hw⟩ }
                have S' := S.trans hs
                refine ⟨D'.same, wpAnyD_mono n _ _ w' (fun L wL hL hSL => ⟨hSL.cst, fun m b t s hm hz hb hw => ?_⟩)
                  (draw_sound hsp hinl hsel hpan hQ n (listed.setIfInBounds i true) ρ' w' _ hp' _ S' ((F1.mono hs.old).put o.dst hd) (DrawInv.base S'.hok) hK)⟩
                have hw0 : ∀ j, (j, m) ∈ wr → got (listed.setIfInBounds i true) j = false := fun j hj => by
                  cases hg : got (listed.setIfInBounds i true) j with
                  | false => rfl
                  | true => have h1 := hL j hg; rw [hw j hj] at h1; cases h1
                have h1 := D'.hp m t s hm hw0
                have h2 := D'.same.blk m b t s hm hz hb hw0
                have hm1 : m < hpS.length := (List.getElem?_eq_some_iff.1 hm).1
                obtain ⟨l', hl'⟩ := D'.old
                have hbρ' : ρ'[m]? = some b := by rw [hl', List.getElem?_append_left (List.getElem?_eq_some_iff.1 hb).1]; exact hb
                rw [← h2]
                refine hSL.blk m b t s h1 hz hbρ' (fun j hj => ?_)
                simp only [rebase, List.mem_append, List.mem_filter, decide_eq_true_eq] at hj
                rcases hj with ⟨hj, _⟩ | ⟨_, hj⟩
                · exact hw j hj
                · omega
              · exact hK.elim
            · rename_i hw
              have F2 := F.settle hb (yes := false) ⟨fun hp => absurd (hg.2 hp) hw, fun h => by cases h⟩
              exact ⟨(D.later i).same, draw_sound hsp hinl hsel hpan hQ n _ ρ w _ hp _ S (F2.put o.dst (sv := .tup []) ⟨[], rfl, rfl⟩) (D.later i) (h2 (fun hp => hw (hg.2 hp)))⟩
          · exact h.elim
        · exact h.elim
end Go.Eng
/- The executor: in a region that draws its order an allocation that waits for nothing may be looked at late. -/
set_option linter.unusedSimpArgs false
set_option linter.unusedSectionVars false
namespace Go.Eng
variable [CW : CWorld]
variable (ar : AR)
def lateOp (P : Program) (ops : List Oper) (i : Nat) : Bool :=
  match ops[i]? with
  | some o =>
    match o.dst, o.op, o.guard with
    | some d, .alloc t, none => o.after.isEmpty && (zeroCs P t).isSome && (List.range ops.length).all fun j => j == i || (ops[j]?).bind (·.dst) != some d
    | _, _, _ => false
  | none => false
theorem lateOp_spec {P : Program} {ops : List Oper} {i : Nat} (h : lateOp P ops i = true) :
    ∃ (o : Oper) (d : Tmp) (t : TypeId) (z : List SV), ops[i]? = some o ∧ o.dst = some d ∧ o.op = .alloc t ∧ o.guard = none ∧ o.after = #[] ∧ zeroCs P t = some z ∧ ∀ j oj, ops[j]? = some oj → j ≠ i → oj.dst ≠ some d := by
  unfold lateOp at h
  split at h
  · rename_i o ho
    split at h
    · rename_i d t hd hop hg
      obtain ⟨h1, h2⟩ := Bool.and_eq_true_iff.1 h
      obtain ⟨h0, h1⟩ := Bool.and_eq_true_iff.1 h1
      obtain ⟨z, hz⟩ := Option.isSome_iff_exists.1 h1
      refine ⟨o, d, t, z, ho, hd, hop, hg, by simpa using h0, hz, fun j oj hj hne hdj => ?_⟩
      have := List.all_eq_true.1 h2 j (List.mem_range.2 (List.getElem?_eq_some_iff.1 hj).1)
      simp [hne, hj, hdj] at this
    · cases h
  · cases h
def mayWait (P : Program) (ops : List Oper) (listed : Array Bool) (fr : List SV) (i : Nat) : Bool :=
  lateOp P ops i && (match (ops[i]?).bind (·.dst) with
    | some d => match fr[d]? with
      | some .any => true
      | _ => false
    | none => false) && (List.range ops.length).all fun j => listed.getD j true || match ops[j]? with
      | some oj => !(oj.after.toList.any fun e => Region.binds .any e && e.on == i) || oj.after.toList.any fun e => Region.binds .any e && !listed.getD e.on false && !lateOp P ops e.on
      | none => true
def branches (P : Program) (ops : List Oper) (listed : Array Bool) (fr : List SV) (rs : List Nat) : List Nat :=
  match rs.filter fun i => !mayWait P ops listed fr i with
  | [] => rs.take 1
  | l => l
theorem branches_sub {P : Program} {ops : List Oper} {listed : Array Bool} {fr : List SV} {rs : List Nat} {i : Nat} (h : i ∈ branches P ops listed fr rs) : i ∈ rs := by
  unfold branches at h
  split at h
  · exact List.mem_of_mem_take h
  · exact (List.mem_filter.1 h).1
theorem branches_ne {P : Program} {ops : List Oper} {listed : Array Bool} {fr : List SV} {r : Nat} {rs : List Nat} : ∃ i, i ∈ branches P ops listed fr (r :: rs) := by
  unfold branches
  split
  · exact ⟨r, by simp⟩
  · rename_i l hl
    cases hx : (r :: rs).filter fun i => !mayWait P ops listed fr i with
    | nil => exact absurd hx hl
    | cons x l => exact ⟨x, by simp⟩
theorem branches_not {P : Program} {ops : List Oper} {listed : Array Bool} {fr : List SV} {rs : List Nat} {i : Nat} (hi : i ∈ rs) (h : i ∉ branches P ops listed fr rs) : mayWait P ops listed fr i = true := by
  cases hm : mayWait P ops listed fr i with
  | true => rfl
  | false =>
    exfalso
    apply h
    have : i ∈ rs.filter fun i => !mayWait P ops listed fr i := List.mem_filter.2 ⟨hi, by simp [hm]⟩
    unfold branches
    split
    · rename_i he
      rw [he] at this
      cases this
    · exact this
noncomputable def drawLate (P : Program) (specs : Specs) (inl : Inl) (ops : List Oper) : Nat → List Blk → List (Nat × Nat) → Array Bool → List SV → List Blk → (List SV → List Blk → Prop) → Prop
  | 0, hpS, wr, listed, fr, hp, K =>
    match Region.ready .any ops.toArray listed with
    | [] => K fr hp
    | _ => False
  | n + 1, hpS, wr, listed, fr, hp, K =>
    match Region.ready .any ops.toArray listed with
    | [] => K fr hp
    | r :: rs =>
      dSplit ops fr (r :: rs) (pickQ ar P ops hpS hp.length wr listed fr (r :: rs)).isSome fun fr =>
      match pickQ ar P ops hpS hp.length wr listed fr (r :: rs) with
      | some (i, sv, vc, dst) => vcs vc (match ops[i]? with
        | some o => named o.op sv fun sv => drawLate P specs inl ops n hpS wr (listed.setIfInBounds i true) (putD fr dst sv) hp K
        | none => False)
      | none =>
        andAll (branches P ops listed fr (r :: rs)) fun i =>
          match ops[i]? with
          | some o =>
            match gd ops fr o.guard with
            | some b =>
              guardStep b
                (opStep ar P specs inl hp (ev (settle ops fr o.guard true)) o.op fun sv hp' T =>
                  match keepB hpS wr i T with
                  | true => drawLate P specs inl ops n hp' (rebase ar P specs ops hpS.length wr (listed.setIfInBounds i true) (putD (settle ops fr o.guard true) o.dst sv) hp') (listed.setIfInBounds i true) (putD (settle ops fr o.guard true) o.dst sv) hp' K
                  | false => False)
                (drawLate P specs inl ops n hpS wr (listed.setIfInBounds i true) (putD (settle ops fr o.guard false) o.dst (.tup [])) hp K)
            | none => False
          | none => False
def need (ops : List Oper) (listed : Array Bool) : Nat := ((List.range ops.length).filter fun k => !listed.getD k true).length
theorem filter_less {p q : Nat → Bool} : ∀ {l : List Nat} {i : Nat}, i ∈ l → p i = true → q i = false → (∀ k, q k = true → p k = true) → (l.filter q).length + 1 ≤ (l.filter p).length
  | x :: l, i, hi, hp, hq, h => by
    have mono : ∀ l : List Nat, (l.filter q).length ≤ (l.filter p).length := fun l => by
      induction l with
      | nil => simp
      | cons y l ih =>
        simp only [List.filter_cons]
        cases hy : q y with
        | true => simp [h y hy]; exact ih
        | false =>
          cases p y with
          | true => simp; omega
          | false => simpa using ih
    rcases List.mem_cons.1 hi with rfl | hi'
    · simp only [List.filter_cons, hp, hq, if_true, if_false, Bool.false_eq_true, List.length_cons]
      have := mono l
      omega
    · have ih := filter_less hi' hp hq h
      simp only [List.filter_cons]
      cases hy : q x with
      | true => simp [h x hy]; omega
      | false =>
        cases p x with
        | true => simp; omega
        | false => simpa using ih
theorem need_set {ops : List Oper} {listed : Array Bool} {i : Nat} (hlt : i < ops.length) (h : listed.getD i true = false) : need ops (listed.setIfInBounds i true) + 1 ≤ need ops listed := by
  refine filter_less (i := i) (List.mem_range.2 hlt) (by simp [h]) ?_ (fun k hk => ?_)
  · have hs : i < listed.size := by
      rcases Nat.lt_or_ge i listed.size with h' | h'
      · exact h'
      · rw [Array.getD_eq_getD_getElem?, Array.getElem?_eq_none h'] at h; cases h
    simp [hs]
  · by_cases e : i = k
    · subst e
      have hs : i < listed.size := by
        rcases Nat.lt_or_ge i listed.size with h' | h'
        · exact h'
        · rw [Array.getD_eq_getD_getElem?, Array.getElem?_eq_none h'] at h; cases h
      simp [hs] at hk
    · rwa [getD_set_ne true e] at hk
structure Rel (ops : List Oper) (lS lC : Array Bool) (E : List (Nat × Nat)) : Prop where
  size : lS.size = ops.length ∧ lC.size = ops.length
  iff : ∀ k, k < ops.length → (lC.getD k false = true ↔ lS.getD k false = true ∨ ∃ b, (k, b) ∈ E)
theorem getD_any {l : Array Bool} {k : Nat} (h : k < l.size) (d d' : Bool) : l.getD k d = l.getD k d' := by
  simp [h]
theorem unl_of {l : Array Bool} {k : Nat} (h : l.getD k true = false) : k < l.size ∧ l.getD k false = false := by
  have hs : k < l.size := by
    rcases Nat.lt_or_ge k l.size with h' | h'
    · exact h'
    · rw [Array.getD_eq_getD_getElem?, Array.getElem?_eq_none h'] at h; cases h
  exact ⟨hs, by rw [getD_any hs false true]; exact h⟩
theorem Rel.unlS {ops : List Oper} {lS lC : Array Bool} {E : List (Nat × Nat)} (R : Rel ops lS lC E) {k : Nat} (hk : lC.getD k true = false) : lS.getD k true = false ∧ ∀ b, (k, b) ∉ E := by
  obtain ⟨hs, h0⟩ := unl_of hk
  have hlt : k < ops.length := by rw [← R.size.2]; exact hs
  have hn := fun h => Bool.false_ne_true (h0.symm.trans ((R.iff k hlt).2 h))
  refine ⟨?_, fun b hb => hn (.inr ⟨b, hb⟩)⟩
  rw [getD_any (by rw [R.size.1]; exact hlt) true false]
  cases h : lS.getD k false with
  | false => rfl
  | true => exact (hn (.inl h)).elim
theorem Rel.unlC {ops : List Oper} {lS lC : Array Bool} {E : List (Nat × Nat)} (R : Rel ops lS lC E) {k : Nat} (hk : lS.getD k true = false) (hE : ∀ b, (k, b) ∉ E) : lC.getD k true = false := by
  obtain ⟨hs, h0⟩ := unl_of hk
  have hlt : k < ops.length := by rw [← R.size.1]; exact hs
  rw [getD_any (by rw [R.size.2]; exact hlt) true false]
  cases h : lC.getD k false with
  | false => rfl
  | true =>
    rcases (R.iff k hlt).1 h with h | ⟨b, hb⟩
    · rw [h0] at h; cases h
    · exact (hE b hb).elim
theorem getD_self {l : Array Bool} {i : Nat} (h : i < l.size) : (l.setIfInBounds i true).getD i false = true := by simp [h]
theorem Rel.both {ops : List Oper} {lS lC : Array Bool} {E : List (Nat × Nat)} (R : Rel ops lS lC E) {i : Nat} (hi : i < ops.length) : Rel ops (lS.setIfInBounds i true) (lC.setIfInBounds i true) E := by
  refine ⟨by simp [R.size], fun k hk => ?_⟩
  by_cases e : i = k
  · subst e
    rw [getD_self (by rw [R.size.2]; exact hi), getD_self (by rw [R.size.1]; exact hi)]
    simp
  · rw [getD_set_ne false e, getD_set_ne false e]
    exact R.iff k hk
theorem Rel.early {ops : List Oper} {lS lC : Array Bool} {E : List (Nat × Nat)} (R : Rel ops lS lC E) {i b : Nat} (hi : i < ops.length) : Rel ops lS (lC.setIfInBounds i true) ((i, b) :: E) := by
  refine ⟨by simp [R.size], fun k hk => ?_⟩
  by_cases e : i = k
  · subst e
    rw [getD_self (by rw [R.size.2]; exact hi)]
    simp
  · rw [getD_set_ne false e, R.iff k hk]
    constructor
    · rintro (h | ⟨b, h⟩)
      · exact .inl h
      · exact .inr ⟨b, List.mem_cons_of_mem _ h⟩
    · rintro (h | ⟨b, h⟩)
      · exact .inl h
      · rcases List.mem_cons.1 h with h | h
        · cases h; exact (e rfl).elim
        · exact .inr ⟨b, h⟩
theorem Rel.adopt {ops : List Oper} {lS lC : Array Bool} {E E' : List (Nat × Nat)} (R : Rel ops lS lC E) {i b : Nat} (hi : i < ops.length) (hE : ∀ x, x ∈ E ↔ x = (i, b) ∨ x ∈ E') : Rel ops (lS.setIfInBounds i true) lC E' := by
  refine ⟨by simp [R.size], fun k hk => ?_⟩
  rw [R.iff k hk]
  by_cases e : i = k
  · subst e
    rw [getD_self (by rw [R.size.1]; exact hi)]
    exact ⟨fun _ => .inl rfl, fun _ => .inr ⟨b, (hE _).2 (.inl rfl)⟩⟩
  · rw [getD_set_ne false e]
    refine or_congr Iff.rfl ⟨fun ⟨c, h⟩ => ?_, fun ⟨c, h⟩ => ⟨c, (hE _).2 (.inr h)⟩⟩
    rcases (hE _).1 h with h | h
    · cases h; exact (e rfl).elim
    · exact ⟨c, h⟩
structure Early (P : Program) (ops : List Oper) (w0 : World) (ρ : List Nat) (hp : List Blk) (w : World) (a : Act) (lS : Array Bool) (e b : Nat) : Prop where
  late : lateOp P ops e = true
  uns : lS.getD e true = false
  at_ : ∀ o d t z, ops[e]? = some o → o.dst = some d → o.op = .alloc t → zeroCs P t = some z → a.tmps[d]? = some (.pointer (some ⟨b, 0, none⟩)) ∧ ∃ cs : Array Value, w.heap[b]? = some (.cells cs t (0, 0)) ∧ ∀ ρ, DenL ρ z cs.toList
  own : ¬ Own ρ hp b
  new : w0.heap.size ≤ b
  cw : CW.w.heap.size ≤ b
theorem Early.lt {P : Program} {ops : List Oper} {w0 : World} {ρ : List Nat} {hp : List Blk} {w : World} {a : Act} {lS : Array Bool} {e b : Nat} (h : Early P ops w0 ρ hp w a lS e b) : b < w.heap.size := by
  obtain ⟨o, d, t, z, h1, h2, h3, _, _, h6, _⟩ := lateOp_spec h.late
  obtain ⟨_, cs, hc, _⟩ := h.at_ o d t z h1 h2 h3 h6
  exact (Array.getElem?_eq_some_iff.1 hc).1
theorem Early.step {P : Program} {ops : List Oper} {w0 : World} {ρ ρ' : List Nat} {hp hp' : List Blk} {w w' : World} {a a' : Act} {lS lS' : Array Bool} {e b : Nat} (h : Early P ops w0 ρ hp w a lS e b)
    (hS : Since ρ hp w ρ' hp' w') (hu : lS'.getD e true = false) (ha : ∀ o d, ops[e]? = some o → o.dst = some d → a'.tmps[d]? = a.tmps[d]?) : Early P ops w0 ρ' hp' w' a' lS' e b where
  late := h.late
  uns := hu
  at_ := fun o d t z h1 h2 h3 h6 => by
    obtain ⟨k1, cs, k2, k3⟩ := h.at_ o d t z h1 h2 h3 h6
    exact ⟨(ha o d h1 h2).trans k1, cs, by rw [hS.frame b h.lt h.own]; exact k2, k3⟩
  own := fun ho => by
    rcases hS.new b ho with h1 | h1
    · have := h.lt; omega
    · exact h.own h1
  new := h.new
  cw := h.cw
theorem Since.more {ρ : List Nat} {hp : List Blk} {w : World} (H : HOK ρ hp w) (o : Obj) : Since ρ hp w ρ hp { w with heap := w.heap.push o } where
  hok := {
    len := H.len
    inj := H.inj
    ok := fun i n b hi hn => by
      refine (H.ok i n b hi hn).same fun ht => ?_
      cases b with
      | gone => exact ht.elim
      | mk t s => simp [Array.getElem?_push, Nat.ne_of_lt (H.lt hi ht hn)]
    cst := fun b hb => by
      have hlt : b < w.heap.size := Nat.lt_of_lt_of_le hb H.cst.le
      rw [← H.cst b hb]
      simp [Array.getElem?_push, Nat.ne_of_lt hlt]
    above := H.above }
  old := ⟨[], by simp⟩
  new := fun n h => .inr h
  frame := fun b hb _ => by simp [Array.getElem?_push, Nat.ne_of_lt hb]
  size := by simp
  tape := rfl
  os := rfl
  out := rfl
theorem Since.adopt {ρ0 : List Nat} {hp0 : List Blk} {w0 : World} {ρ : List Nat} {hp : List Blk} {w : World} (S : Since ρ0 hp0 w0 ρ hp w) {b : Nat} {t : TypeId} {segs : List Seg} {cs : Array Value} (hc : w.heap[b]? = some (.cells cs t (0, 0))) (hs : SegsOK (ρ ++ [b]) segs cs.toList)
    (hown : ¬ Own ρ hp b) (hnew : w0.heap.size ≤ b) (hcw : CW.w.heap.size ≤ b) : Since ρ0 hp0 w0 (ρ ++ [b]) (hp ++ [.mk t segs]) w := by
  have key : ∀ (i n : Nat) (x : Blk), (hp ++ [Blk.mk t segs])[i]? = some x → (ρ ++ [b])[i]? = some n → (i < hp.length ∧ hp[i]? = some x ∧ ρ[i]? = some n) ∨ (i = hp.length ∧ n = b ∧ x = .mk t segs) := fun i n x hx hn => by
    by_cases hlt : i < hp.length
    · left
      rw [List.getElem?_append_left hlt] at hx
      rw [List.getElem?_append_left (by rw [S.hok.len]; exact hlt)] at hn
      exact ⟨hlt, hx, hn⟩
    · right
      rw [List.getElem?_append_right (by omega)] at hx
      have h1 := (List.getElem?_eq_some_iff.1 hx).1
      simp only [List.length_cons, List.length_nil] at h1
      have e : i = hp.length := by omega
      subst e
      rw [← S.hok.len] at hn
      simp at hx hn
      exact ⟨rfl, hn.symm, hx.symm⟩
  have hok : HOK (ρ ++ [b]) (hp ++ [.mk t segs]) w := {
    len := by simp [S.hok.len]
    inj := fun i j n x y hx hy gx gy hi hj => by
      rcases key i n x hx hi with ⟨h1, h2, h3⟩ | ⟨h1, h2, h3⟩ <;> rcases key j n y hy hj with ⟨k1, k2, k3⟩ | ⟨k1, k2, k3⟩
      · exact S.hok.inj i j n x y h2 k2 gx gy h3 k3
      · exact absurd ⟨i, x, h2, gx, k2 ▸ h3⟩ hown
      · exact absurd ⟨j, y, k2, gy, h2 ▸ k3⟩ hown
      · omega
    ok := fun i n x hx hi => by
      rcases key i n x hx hi with ⟨h1, h2, h3⟩ | ⟨h1, h2, h3⟩
      · exact (S.hok.ok i n x h2 h3).mono [b]
      · subst h2 h3
        exact ⟨cs, (0, 0), fun _ => ⟨hc, free_zero _⟩, hs⟩
    cst := S.hok.cst
    above := fun i n x hx gx hi => by
      rcases key i n x hx hi with ⟨h1, h2, h3⟩ | ⟨h1, h2, h3⟩
      · exact S.hok.above i n x h2 gx h3
      · subst h2; exact hcw }
  exact {
    hok := hok
    old := by obtain ⟨l, hl⟩ := S.old; exact ⟨l ++ [b], by rw [hl, List.append_assoc]⟩
    new := fun n ⟨i, x, hx, gx, hi⟩ => by
      rcases key i n x hx hi with ⟨h1, h2, h3⟩ | ⟨h1, h2, h3⟩
      · exact S.new n ⟨i, x, h2, gx, h3⟩
      · subst h2; exact .inl hnew
    frame := S.frame
    size := S.size
    tape := S.tape
    os := S.os
    out := S.out }
theorem own_adopt {ρ : List Nat} {hp : List Blk} {w : World} (H : HOK ρ hp w) {b n : Nat} {t : TypeId} {segs : List Seg} (h : Own (ρ ++ [b]) (hp ++ [.mk t segs]) n) : Own ρ hp n ∨ n = b := by
  obtain ⟨i, x, hx, gx, hi⟩ := h
  by_cases hlt : i < hp.length
  · left
    rw [List.getElem?_append_left hlt] at hx
    rw [List.getElem?_append_left (by rw [H.len]; exact hlt)] at hi
    exact ⟨i, x, hx, gx, hi⟩
  · right
    rw [List.getElem?_append_right (by omega)] at hx
    have h1 := (List.getElem?_eq_some_iff.1 hx).1
    simp only [List.length_cons, List.length_nil] at h1
    have e : i = hp.length := by omega
    subst e
    rw [← H.len] at hi
    simpa using hi.symm
theorem free_more {ops : List Oper} {lS lC : Array Bool} {i : Nat} (hm : ∀ k, k < ops.length → lS.getD k true = true → lC.getD k true = true) (h : Region.free .any ops.toArray lS i = true) : Region.free .any ops.toArray lC i = true := by
  unfold Region.free at h ⊢
  split
  · rename_i hn; rw [hn] at h; exact h
  · rename_i oi ho
    rw [ho] at h
    refine List.all_eq_true.2 fun j hj => ?_
    have := List.all_eq_true.1 h j hj
    have hlt : j < ops.length := by simpa using hj
    simp only [Bool.or_eq_true] at this ⊢
    rcases this with (h1 | h1) | h1
    · exact .inl (.inl h1)
    · exact .inl (.inr (hm j hlt h1))
    · exact .inr h1
theorem draw_push {ρ1 : List Nat} {w1 : World} {hpS : List Blk} {wr : List (Nat × Nat)} {L : Nat → Bool} {ρ : List Nat} {hp : List Blk} {w : World} (D : DrawInv ρ1 w1 hpS wr L ρ hp w) (o : Obj) : DrawInv ρ1 w1 hpS wr L ρ hp { w with heap := w.heap.push o } where
  old := D.old
  len := D.len
  hp := D.hp
  ok := D.ok
  inj := D.inj
  cst1 := D.cst1
  above := D.above
  same := ⟨fun b hb => by
      have hlt : b < w.heap.size := Nat.lt_of_lt_of_le hb D.same.cst.le
      rw [← D.same.cst b hb]
      simp [Array.getElem?_push, Nat.ne_of_lt hlt], fun n b t s hn hz hb hw => by
      have h1 := D.same.blk n b t s hn hz hb hw
      obtain ⟨cs, fz, h2, h3⟩ := D.ok n b t s hn hb
      have hne : cs.size ≠ 0 := by
        intro h0
        have : cs.toList.length = 0 := by simpa using h0
        rw [segsOK_size h3] at this
        exact hz this
      have h4 := (h2 hne).1
      rw [← h1] at h4 ⊢
      have hlt := (Array.getElem?_eq_some_iff.1 h4).1
      simp [Array.getElem?_push, Nat.ne_of_lt hlt]⟩
theorem fr_adopt [DM : DMarks] {ρ : List Nat} {fr : List SV} {a : Act} {b d : Nat} {sv : SV} (F : FrOK ρ fr a) (hd : a.tmps[d]? = some (.pointer (some ⟨b, 0, none⟩))) (hv : Den (ρ ++ [b]) sv (.pointer (some ⟨b, 0, none⟩))) : FrOK (ρ ++ [b]) (fr.set d sv) a := by
  refine ⟨?_, F.defers⟩
  have := denL_set d (F.den.mono [b]) hv
  have hl : a.tmps.toList.set d (.pointer (some ⟨b, 0, none⟩)) = a.tmps.toList := list_set_same (by simpa using hd)
  rwa [hl] at this
theorem late_sound [DM : DMarks] {P : Program} {specs : Specs} (hsp : SpecsOK P specs) {inl : Inl} (hinl : InlOK P inl) {ops : List Oper} {Q : Exit → Act → World → Prop}
    (hsel : Region.noSelect ops.toArray = true) (hpan : ∀ c a w, ¬ Q (.panic c) a w)
    {ρ0 : List Nat} {hp0 : List Blk} {w0 : World} {K : List SV → List Blk → Prop}
    (hQ : ∀ (ρ : List Nat) (w : World) (fr : List SV) (hp : List Blk) (a : Act), Since ρ0 hp0 w0 ρ hp w → FrOK ρ fr a → K fr hp → Q .normal a w) :
    ∀ (n m : Nat) {ρ1 : List Nat} {w1 : World} {hpS : List Blk} {wr : List (Nat × Nat)} (lS lC : Array Bool) (E : List (Nat × Nat)) (ρ : List Nat) (w : World) (fr : List SV) (hp : List Blk) (a : Act), Since ρ0 hp0 w0 ρ hp w → FrOK ρ fr a → DrawInv ρ1 w1 hpS wr (got lC) ρ hp w →
      Rel ops lS lC E → (∀ e b, (e, b) ∈ E → Early P ops w0 ρ hp w a lS e b) → (E.map (·.2)).Nodup → need ops lC ≤ m →
      drawLate ar0 P specs inl ops n hpS wr lS fr hp K → wpAnyD P .any ops.toArray Q (SD ρ1 w1 hpS wr) m lC a w := by
  -- what an early allocation waits for: nothing
  have earlyReady : ∀ {lS : Array Bool} {e : Nat}, lateOp P ops e = true → lS.getD e true = false → e ∈ Region.ready .any ops.toArray lS := fun {lS e} hl hu => by
    obtain ⟨o, d, t, z, h1, h2, h3, h4, h5, _⟩ := lateOp_spec hl
    exact mem_ready.2 ⟨hu, o, by simpa using h1, fun x hx => by rw [h5] at hx; simp at hx⟩
  have done : ∀ (m : Nat) {ρ1 : List Nat} {w1 : World} {hpS : List Blk} {wr : List (Nat × Nat)} (lS lC : Array Bool) (E : List (Nat × Nat)) (ρ : List Nat) (w : World) (fr : List SV) (hp : List Blk) (a : Act), Since ρ0 hp0 w0 ρ hp w → FrOK ρ fr a → Rel ops lS lC E →
      (∀ e b, (e, b) ∈ E → Early P ops w0 ρ hp w a lS e b) → Region.ready .any ops.toArray lS = [] → K fr hp → wpAnyD P .any ops.toArray Q (SD ρ1 w1 hpS wr) m lC a w := fun m ρ1 w1 hpS wr lS lC E ρ w fr hp a S F R hE hr hK => by
    have noE : ∀ e b, (e, b) ∉ E := fun e b h => by
      have := earlyReady (hE e b h).late (hE e b h).uns
      rw [hr] at this
      cases this
    refine wpAnyD_done ?_ (hQ ρ w fr hp a S F hK) m
    cases hx : Region.ready .any ops.toArray lC with
    | nil => rfl
    | cons x l =>
      exfalso
      have hm : x ∈ Region.ready .any ops.toArray lC := by rw [hx]; simp
      obtain ⟨h1, o, h2, h3⟩ := mem_ready.1 hm
      have h1' := (R.unlS h1).1
      have : x ∈ Region.ready .any ops.toArray lS := mem_ready.2 ⟨h1', o, h2, fun e he hb => by
        have h4 := h3 e he hb
        have hlt : e.on < ops.length := by
          rw [← R.size.2]
          rcases Nat.lt_or_ge e.on lC.size with h' | h'
          · exact h'
          · rw [Array.getD_eq_getD_getElem?, Array.getElem?_eq_none h'] at h4; cases h4
        rcases (R.iff e.on hlt).1 h4 with h5 | ⟨b, hb'⟩
        · exact h5
        · exact (noE _ _ hb').elim⟩
      rw [hr] at this
      cases this
  intro n
  induction n with
  | zero =>
    intro m ρ1 w1 hpS wr lS lC E ρ w fr hp a S F D R hE hnd hm h
    simp only [drawLate] at h
    split at h
    · rename_i hr
      exact done m lS lC E ρ w fr hp a S F R hE hr h
    · exact h.elim
  | succ n ih =>
    intro m ρ1 w1 hpS wr lS lC E ρ w fr hp a S F D R hE hnd hm h
    simp only [drawLate] at h
    split at h
    · rename_i hr
      exact done m lS lC E ρ w fr hp a S F R hE hr h
    · rename_i r rs hr
      have hds := dSplit_sound F h
      clear h F
      obtain ⟨fr, F, h⟩ := hds
      split at h
      · -- a reading operation, ahead of all others
        rename_i i sv vc dst hp'
        obtain ⟨hv, h⟩ := vcs_iff.1 h
        obtain ⟨hmem, hmay, o, ho, rfl, hcase⟩ := pickQ_spec hp'
        rw [ho] at h
        have h := named_sound h
        unfold mayPick at hmay
        obtain ⟨hmay, hdl⟩ := Bool.and_eq_true_iff.1 hmay
        obtain ⟨hmay, hdown⟩ := Bool.and_eq_true_iff.1 hmay
        obtain ⟨hfree, hnw⟩ := Bool.and_eq_true_iff.1 hmay
        generalize hDn : downFrom ops i = Dn at hdl hdown hcase
        have hDown := downOK_sound hdown
        have hready : i ∈ Region.ready .any ops.toArray lS := by rw [hr]; exact hmem
        have hun := (mem_ready.1 hready).1
        have hilt : i < ops.length := by rw [← R.size.1]; exact (unl_of hun).1
        have ilate : lateOp P ops i = false := by
          cases hl : lateOp P ops i with
          | false => rfl
          | true =>
            exfalso
            obtain ⟨o', d, t, z, h1, h2, h3, h4, _⟩ := lateOp_spec hl
            rw [ho] at h1
            cases h1
            rcases hcase with ⟨_, hq⟩ | ⟨hg, _⟩
            · rw [h3] at hq
              simp [qv] at hq
            · rw [h4] at hg
              simp [gd] at hg
        have iE : ∀ b, (i, b) ∉ E := fun b hb => by
          have := (hE i b hb).late
          rw [ilate] at this
          cases this
        have hunC := R.unlC hun iE
        have hreadyC : i ∈ Region.ready .any ops.toArray lC := by
          obtain ⟨_, o', h2, h3⟩ := mem_ready.1 hready
          exact mem_ready.2 ⟨hunC, o', h2, fun e he hb => by
            have h4 := h3 e he hb
            have hlt : e.on < ops.length := by
              rw [← R.size.1]
              rcases Nat.lt_or_ge e.on lS.size with h' | h'
              · exact h'
              · rw [Array.getD_eq_getD_getElem?, Array.getElem?_eq_none h'] at h4; cases h4
            exact (R.iff e.on hlt).2 (.inl h4)⟩
        have dlate : ∀ k ∈ Dn, ∀ b, (k, b) ∉ E := fun k hk b hb => by
          by_cases hki : k = i
          · subst hki; exact iE b hb
          · obtain ⟨o', d, t, z, h1, h2, h3, h4, h5, _⟩ := lateOp_spec (hE k b hb).late
            obtain ⟨e, he, _⟩ := hDown.waits k o' hk hki (by simpa using h1)
            rw [h5] at he
            simp at he
        have hl : ∀ k ∈ Dn, got lC k = false := fun k hk => by
          have h1 := List.all_eq_true.1 hdl k hk
          simp only [Bool.not_eq_true'] at h1
          by_cases hlt : k < ops.length
          · have h2 : lS.getD k true = false := by rw [getD_any (by rw [R.size.1]; exact hlt) true false]; exact h1
            exact (unl_of (R.unlC h2 (dlate k hk))).2
          · have : lC.size ≤ k := by rw [R.size.2]; omega
            show lC.getD k false = false
            rw [Array.getD_eq_getD_getElem?, Array.getElem?_eq_none this]
            rfl
        have hnw' : ∀ n, (i, n) ∉ wr := fun n hm => by
          have := List.all_eq_true.1 hnw _ hm
          simp at this
        have hfreeC : Region.free .any ops.toArray lC i = true := free_more (fun k hk h1 => by
          rw [getD_any (by rw [R.size.1]; exact hk) true false] at h1
          rw [getD_any (by rw [R.size.2]; exact hk) true false]
          exact (R.iff k hk).2 (.inl h1)) hfree
        obtain ⟨l, hl'⟩ := D.old
        have hlen : ρ.length = hp.length := S.hok.len
        generalize hq : maskFrom (notDown wr Dn) 0 hpS = hpq at hcase
        have hqlen : hpq.length = hpS.length := by rw [← hq, length_maskFrom]
        have hqS : ∀ (m : Nat) (t : TypeId) (s : List Seg), hpq[m]? = some (.mk t s) → hpS[m]? = some (.mk t s) := fun m t s hm => by
          rw [← hq] at hm
          exact maskFrom_get _ _ _ _ _ _ hm
        have hle : hpS.length ≤ hp.length := by rw [← hlen, hl', List.length_append, D.len]; omega
        have hget : ∀ (m : Nat) (t : TypeId) (s : List Seg), (padTo hpq hp.length)[m]? = some (.mk t s) → hpq[m]? = some (.mk t s) ∧ m < ρ1.length := fun m t s hm => by
          unfold padTo at hm
          by_cases hlt : m < hpq.length
          · rw [List.getElem?_append_left hlt] at hm
            exact ⟨hm, by rw [D.len, ← hqlen]; exact hlt⟩
          · rw [List.getElem?_append_right (Nat.le_of_not_lt hlt), List.getElem?_replicate] at hm
            split at hm <;> cases hm
        have ρget : ∀ m, m < ρ1.length → ρ[m]? = ρ1[m]? := fun m hm => by rw [hl', List.getElem?_append_left hm]
        have Hq : HOK ρ (padTo hpq hp.length) w1 := {
          len := by simp [padTo, hlen]; omega
          inj := fun i j m b c hi hj gi gj ri rj => by
            cases b with
            | gone => exact gi.elim
            | mk t s =>
              cases c with
              | gone => exact gj.elim
              | mk t' s' =>
                obtain ⟨hi', li⟩ := hget _ _ _ hi
                obtain ⟨hj', lj⟩ := hget _ _ _ hj
                rw [ρget _ li] at ri
                rw [ρget _ lj] at rj
                exact D.inj i j m t t' s s' (hqS _ _ _ hi') (hqS _ _ _ hj') gi gj ri rj
          ok := fun m b x hx hb => by
            cases x with
            | gone => trivial
            | mk t s =>
              obtain ⟨hx', lx⟩ := hget _ _ _ hx
              rw [ρget _ lx] at hb
              rw [hl']
              exact (D.ok m b t s (hqS _ _ _ hx') hb).mono l
          cst := D.cst1
          above := fun i n b hi gi ri => by
            cases b with
            | gone => exact gi.elim
            | mk t s =>
              obtain ⟨hi', li⟩ := hget _ _ _ hi
              rw [ρget _ li] at ri
              exact D.above i n t s (hqS _ _ _ hi') gi ri }
        have Sq : ∀ w', Same ρ1 hpq w1 w' → Same ρ (padTo hpq hp.length) w1 w' := fun w' hs => ⟨fun m b t s hm hz hb => by
          obtain ⟨hm', lm⟩ := hget _ _ _ hm
          rw [ρget _ lm] at hb
          exact hs.blk m b t s hm' hz hb, hs.cst⟩
        have ho' : ops.toArray[i]? = some o := by simpa using ho
        have hy : ∃ v, Den ρ sv v ∧ YieldsIf P ops.toArray (Same ρ1 hpq w1) o v a := by
          rcases hcase with ⟨hg, hq⟩ | ⟨hg, rfl, rfl⟩
          · obtain ⟨v, hd, hrun⟩ := qv_sound Hq F.eval o sv vc hq hv
            exact ⟨v, hd, .inl ⟨(gd_sound F hg).2 rfl, fun w' hs => hrun w' (Sq w' hs)⟩⟩
          · refine ⟨undef, ⟨[], rfl, rfl⟩, .inr ⟨?_, rfl⟩⟩
            have := gd_sound F hg
            simp only [BB.prop, Bool.false_eq_true, iff_false, Bool.not_eq_true] at this
            exact this
        obtain ⟨v, hd, hy⟩ := hy
        have hneed := need_set hilt hunC
        obtain ⟨m', rfl⟩ : ∃ m', m = m' + 1 := ⟨m - 1, by omega⟩
        refine wpAnyD_take (Si := Same ρ1 hpq w1) ho' hsel hfreeC (by simpa using hreadyC) (fun c a w hq => absurd hq (hpan c _ w)) hDown hl
          (fun L w' hL hS => ⟨fun m b t s hm hz hb => hS.blk m b t s (hqS _ _ _ hm) hz hb (fun j hj => hL j (by
            rw [← hq] at hm
            exact mask_notDown 0 hpS m t s hm j (by rw [Nat.zero_add]; exact hj))), hS.cst⟩)
          (fun L L' w' hLL hS => ⟨hS.cst, fun m b t s hm hz hb hw => hS.blk m b t s hm hz hb (fun j hj => by
            rw [← hLL j (fun e => hnw' m (e ▸ hj))]
            exact hw j hj)⟩)
          hy D.same ?_
        refine ih m' (lS.setIfInBounds i true) (lC.setIfInBounds i true) E ρ w _ hp _ S (F.put o.dst hd) (D.later i) (R.both hilt) (fun e b he => ?_) hnd (by omega) h
        have hne : i ≠ e := fun h => iE b (h ▸ he)
        refine (hE e b he).step (Since.refl S.hok) (by rw [getD_set_ne true hne]; exact (hE e b he).uns) (fun o' d ho2 hd2 => ?_)
        obtain ⟨o3, d3, _, _, k1, k2, _, _, _, _, k7⟩ := lateOp_spec (hE e b he).late
        rw [ho2] at k1
        cases k1
        rw [hd2] at k2
        cases k2
        have hdd := k7 i o ho hne
        cases hdst : o.dst with
        | none => rfl
        | some d' =>
          have : d' ≠ d := fun e => hdd (by rw [hdst, e])
          simp [Act.put, Array.getElem?_setIfInBounds, this]
      · -- none such: all that are ready, but the allocations that may wait
        rename_i hpick
        clear hpick
        -- carried out ahead of time already: it gets its name now
        by_cases hBE : ∃ e b, (e, b) ∈ E ∧ e ∈ branches P ops lS fr (r :: rs)
        · obtain ⟨e, b, heE, heB⟩ := hBE
          have h := andAll_mem h heB
          have hEe := hE e b heE
          obtain ⟨o, d, t, z, h1, h2, h3, h4, h5, h6, h7⟩ := lateOp_spec hEe.late
          have hb := hEe.at_ o d t z h1 h2 h3 h6
          obtain ⟨hat, cs, hc, hz⟩ := hb
          simp only [h1, h4, gd, guardStep, Go.Eng.settle, h3] at h
          have hop : opStep ar0 P specs inl hp (ev fr) (.alloc t) = fun K => K (.ptr hp.length (.l 0)) (hp ++ [.mk t (z.map .one)]) [] := by
            funext K
            simp only [opStep, qv, eff, eAlloc, h6]
          rw [hop] at h
          simp only [keepB, List.all_nil, h2, putD] at h
          have hlt : e < ops.length := (List.getElem?_eq_some_iff.1 h1).1
          have segs : SegsOK (ρ ++ [b]) (z.map .one) cs.toList := segsOK_ones (hz _)
          have S' := S.adopt hc segs hEe.own hEe.new hEe.cw
          have hv : Den (ρ ++ [b]) (.ptr hp.length (.l 0)) (.pointer (some ⟨b, 0, none⟩)) := by
            simp only [Den, Off.val]
            exact ⟨b, by rw [← S.hok.len]; simp, rfl⟩
          have F' := fr_adopt F hat hv
          obtain ⟨E1, E2, rfl⟩ := List.append_of_mem heE
          have hmemE : ∀ x, x ∈ E1 ++ (e, b) :: E2 ↔ x = (e, b) ∨ x ∈ E1 ++ E2 := fun x => by simp [or_left_comm]
          have hnd2 : ((E1 ++ E2).map (·.2)).Nodup ∧ ∀ x ∈ E1 ++ E2, x.2 ≠ b := by
            simp only [List.map_append, List.map_cons, List.nodup_append, List.nodup_cons, List.mem_map, List.mem_cons] at hnd
            obtain ⟨n1, ⟨n2, n3⟩, n4⟩ := hnd
            refine ⟨?_, fun x hx => ?_⟩
            · simp only [List.map_append, List.nodup_append, List.mem_map]
              exact ⟨n1, n3, fun a ha c hc => n4 a ha c (.inr hc)⟩
            · rcases List.mem_append.1 hx with hx | hx
              · exact n4 x.2 ⟨x, hx, rfl⟩ b (.inl rfl)
              · exact fun he => n2 ⟨x, hx, he⟩
          have D1 := D
          refine wpAnyD_mono m _ _ w (fun L wL hL hSL => ⟨hSL.cst, fun m' b' t' s hm' hz' hb' hw => ?_⟩)
            (ih m (lS.setIfInBounds e true) lC (E1 ++ E2) (ρ ++ [b]) w _ _ a S' F' (DrawInv.base S'.hok) (R.adopt hlt hmemE) (fun e' b' he' => ?_) hnd2.1 hm h)
          · have hw0 : ∀ j, (j, m') ∈ wr → got lC j = false := fun j hj => by
              cases hg : got lC j with
              | false => rfl
              | true => have h1 := hL j hg; rw [hw j hj] at h1; cases h1
            have k1 := D1.hp m' t' s hm' hw0
            have k2 := D1.same.blk m' b' t' s hm' hz' hb' hw0
            obtain ⟨l', hl'⟩ := D1.old
            have hm1 : m' < hp.length := (List.getElem?_eq_some_iff.1 k1).1
            have hbρ' : (ρ ++ [b])[m']? = some b' := by rw [hl', List.append_assoc, List.getElem?_append_left (List.getElem?_eq_some_iff.1 hb').1]; exact hb'
            rw [← k2]
            refine hSL.blk m' b' t' s (by rw [List.getElem?_append_left hm1]; exact k1) hz' hbρ' (fun j hj => ?_)
            simp only [rebase, List.mem_append, List.mem_filter, decide_eq_true_eq] at hj
            rcases hj with ⟨hj, _⟩ | ⟨_, hj⟩
            · exact hw j hj
            · have := (List.getElem?_eq_some_iff.1 hm').1
              omega
          · have hx := (hmemE (e', b')).2 (.inr he')
            have hne : e ≠ e' := fun heq => by
              -- one operation stands once in E only by its block
              subst heq
              have k1 := hE e b' hx
              obtain ⟨k2, _⟩ := k1.at_ o d t z h1 h2 h3 h6
              rw [hat] at k2
              cases k2
              exact hnd2.2 _ he' rfl
            have k := hE e' b' hx
            exact {
              late := k.late
              uns := by rw [getD_set_ne true hne]; exact k.uns
              at_ := k.at_
              own := fun ho => by
                rcases own_adopt S.hok ho with h1 | h1
                · exact k.own h1
                · exact hnd2.2 _ he' h1
              new := k.new
              cw := k.cw }
        · replace hBE : ∀ e b, (e, b) ∈ E → e ∉ branches P ops lS fr (r :: rs) := fun e b h1 h2 => hBE ⟨e, b, h1, h2⟩
          obtain ⟨x, hxB⟩ := branches_ne (P := P) (ops := ops) (listed := lS) (fr := fr) (r := r) (rs := rs)
          have hxr : x ∈ Region.ready .any ops.toArray lS := hr ▸ branches_sub hxB
          -- each truly ready operation, one behind the other
          induction m generalizing lC E w a with
          | zero =>
            exfalso
            have hxC := R.unlC (mem_ready.1 hxr).1 (fun b hb => hBE x b hb hxB)
            have := need_set (ops := ops) (by rw [← R.size.2]; exact (unl_of hxC).1) hxC
            omega
          | succ m ihm =>
            refine ⟨fun h0 => ?_, fun i hi => ?_⟩
            · exfalso
              have hxC := R.unlC (mem_ready.1 hxr).1 (fun b hb => hBE x b hb hxB)
              obtain ⟨_, o', h2, h3⟩ := mem_ready.1 hxr
              have : x ∈ Region.ready .any ops.toArray lC := mem_ready.2 ⟨hxC, o', h2, fun e he hb => by
                have h4 := h3 e he hb
                have hlt : e.on < ops.length := by
                  rw [← R.size.1]
                  rcases Nat.lt_or_ge e.on lS.size with h' | h'
                  · exact h'
                  · rw [Array.getD_eq_getD_getElem?, Array.getElem?_eq_none h'] at h4; cases h4
                exact (R.iff e.on hlt).2 (.inl h4)⟩
              rw [h0] at this
              cases this
            · obtain ⟨hunC, o, hoC, hafter⟩ := mem_ready.1 hi
              have ho : ops[i]? = some o := by simpa using hoC
              have hilt : i < ops.length := (List.getElem?_eq_some_iff.1 ho).1
              obtain ⟨hun, hiE⟩ := R.unlS hunC
              have hneed := need_set hilt hunC
              have hready : i ∈ Region.ready .any ops.toArray lS := by
                refine mem_ready.2 ⟨hun, o, hoC, fun e he hb => ?_⟩
                have h4 := hafter e he hb
                have hlt : e.on < ops.length := by
                  rw [← R.size.2]
                  rcases Nat.lt_or_ge e.on lC.size with h' | h'
                  · exact h'
                  · rw [Array.getD_eq_getD_getElem?, Array.getElem?_eq_none h'] at h4; cases h4
                rcases (R.iff e.on hlt).1 h4 with h5 | ⟨b, hbE⟩
                · exact h5
                · exfalso
                  have k := hE e.on b hbE
                  have hmw := branches_not (fr := fr) (hr ▸ earlyReady k.late k.uns : e.on ∈ r :: rs) (hBE _ _ hbE)
                  unfold mayWait at hmw
                  obtain ⟨_, hall⟩ := Bool.and_eq_true_iff.1 hmw
                  have h6 := List.all_eq_true.1 hall i (List.mem_range.2 hilt)
                  simp only [hun, Bool.false_or, ho, Bool.or_eq_true, Bool.not_eq_true', List.any_eq_false, List.any_eq_true, Bool.and_eq_true, beq_iff_eq, Array.mem_toList_iff] at h6
                  rcases h6 with h6 | ⟨x', hx1, ⟨hx2, hx3⟩, hx4⟩
                  · have := h6 e (by simpa using he)
                    simp [hb] at this
                  · have h7 := hafter x' (by simpa using hx1) hx2
                    have hlt' : x'.on < ops.length := by
                      rw [← R.size.2]
                      rcases Nat.lt_or_ge x'.on lC.size with h' | h'
                      · exact h'
                      · rw [Array.getD_eq_getD_getElem?, Array.getElem?_eq_none h'] at h7; cases h7
                    rcases (R.iff x'.on hlt').1 h7 with h8 | ⟨b', hb'⟩
                    · rw [h8] at hx3; cases hx3
                    · rw [(hE _ _ hb').late] at hx4; cases hx4
              by_cases hiB : i ∈ branches P ops lS fr (r :: rs)
              · -- the branch that is told
                have h := andAll_mem h hiB
                rw [ho] at h
                simp only at h
                split at h
                · rename_i b hb
                  have hg := gd_sound F hb
                  obtain ⟨h1, h2⟩ := guardStep_sound h
                  have keepE : ∀ {a' : Act} (e b' : Nat), (e, b') ∈ E → (∀ d, o.dst ≠ some d → a'.tmps[d]? = a.tmps[d]?) → (∀ o' d, ops[e]? = some o' → o'.dst = some d → a'.tmps[d]? = a.tmps[d]?) := fun {a'} e b' he' ha o' d ho2 hd2 => by
                    obtain ⟨o3, d3, _, _, k1, k2, _, _, _, _, k7⟩ := lateOp_spec (hE e b' he').late
                    rw [ho2] at k1
                    cases k1
                    rw [hd2] at k2
                    cases k2
                    have hne : i ≠ e := fun h => hiE b' (h ▸ he')
                    exact ha d (k7 i o ho hne)
                  have putKeeps : ∀ (v : Value) (d : Nat), o.dst ≠ some d → (a.put o.dst v).tmps[d]? = a.tmps[d]? := fun v d hd => by
                    cases hdst : o.dst with
                    | none => rfl
                    | some d' =>
                      have : d' ≠ d := fun e => hd (by rw [hdst, e])
                      simp [Act.put, Array.getElem?_setIfInBounds, this]
                  unfold wpOp
                  simp only [hoC]
                  split
                  · rename_i hw
                    left
                    have F1 := F.settle hb (yes := true) ⟨fun _ => rfl, fun _ => hg.1 hw⟩
                    refine opStep_sound hsp hinl S.hok F1.eval (h1 (hg.1 hw)) (fun ρ' w' sv v hp' T hs ht hd hK => ?_)
                    split at hK
                    · rename_i hkeep
                      have inWr : ∀ (m : Nat) (t : TypeId) (s : List Seg), hpS[m]? = some (.mk t s) → m ∈ T → (i, m) ∈ wr := fun m t s hm hmT => by
                        have := List.all_eq_true.1 hkeep m hmT
                        simp only [hm, List.any_eq_true, Bool.and_eq_true, beq_iff_eq] at this
                        obtain ⟨p, hp, e1, e2⟩ := this
                        rw [← e1, ← e2]
                        exact hp
                      have hin : got (lC.setIfInBounds i true) i = true := getD_self (by rw [R.size.2]; exact hilt)
                      have notT : ∀ (m : Nat) (t : TypeId) (s : List Seg), hpS[m]? = some (.mk t s) → (∀ j, (j, m) ∈ wr → got (lC.setIfInBounds i true) j = false) → m ∉ T := fun m t s hm hw hmT => by
                        have := hw i (inWr m t s hm hmT)
                        rw [hin] at this
                        cases this
                      have D1 := D.later i
                      obtain ⟨l, hl⟩ := D.old
                      have D' : DrawInv ρ1 w1 hpS wr (got (lC.setIfInBounds i true)) ρ' hp' w' := {
                        old := by obtain ⟨l', hl'⟩ := hs.old; exact ⟨l ++ l', by rw [hl', hl, List.append_assoc]⟩
                        len := D.len
                        hp := fun m t s hm hw => by
                          have h0 := D1.hp m t s hm hw
                          rw [ht.keep m (notT m t s hm hw) (List.getElem?_eq_some_iff.1 h0).1]
                          exact h0
                        ok := D.ok
                        inj := D.inj
                        cst1 := D.cst1
                        above := D.above
                        same := ⟨hs.hok.cst, fun m b t s hm hz hbm hw => by
                          have h0 := D1.hp m t s hm hw
                          have hbρ : ρ[m]? = some b := by rw [hl, List.getElem?_append_left (List.getElem?_eq_some_iff.1 hbm).1]; exact hbm
                          rw [ht.heap m b _ (notT m t s hm hw) h0 hz hbρ]
                          exact D1.same.blk m b t s hm hz hbm hw⟩ }
                      have S' := S.trans hs
                      refine ⟨D'.same, wpAnyD_mono m _ _ w' (fun L wL hL hSL => ⟨hSL.cst, fun m b t s hm hz hb hw => ?_⟩)
                        (ih m (lS.setIfInBounds i true) (lC.setIfInBounds i true) E ρ' w' _ hp' _ S' ((F1.mono hs.old).put o.dst hd) (DrawInv.base S'.hok) (R.both hilt)
                          (fun e b' he' => (hE e b' he').step hs (by rw [getD_set_ne true (fun h : i = e => hiE b' (by rw [h]; exact he'))]; exact (hE e b' he').uns) (keepE e b' he' (putKeeps v))) hnd (by omega) hK)⟩
                      have hw0 : ∀ j, (j, m) ∈ wr → got (lC.setIfInBounds i true) j = false := fun j hj => by
                        cases hg : got (lC.setIfInBounds i true) j with
                        | false => rfl
                        | true => have h1 := hL j hg; rw [hw j hj] at h1; cases h1
                      have h1 := D'.hp m t s hm hw0
                      have h2 := D'.same.blk m b t s hm hz hb hw0
                      have hm1 : m < hpS.length := (List.getElem?_eq_some_iff.1 hm).1
                      obtain ⟨l', hl'⟩ := D'.old
                      have hbρ' : ρ'[m]? = some b := by rw [hl', List.getElem?_append_left (List.getElem?_eq_some_iff.1 hb).1]; exact hb
                      rw [← h2]
                      refine hSL.blk m b t s h1 hz hbρ' (fun j hj => ?_)
                      simp only [rebase, List.mem_append, List.mem_filter, decide_eq_true_eq] at hj
                      rcases hj with ⟨hj, _⟩ | ⟨_, hj⟩
                      · exact hw j hj
                      · omega
                    · exact hK.elim
                  · rename_i hw
                    have F2 := F.settle hb (yes := false) ⟨fun hp => absurd (hg.2 hp) hw, fun h => by cases h⟩
                    exact ⟨(D.later i).same, ih m (lS.setIfInBounds i true) (lC.setIfInBounds i true) E ρ w _ hp _ S (F2.put o.dst (sv := .tup []) ⟨[], rfl, rfl⟩) (D.later i) (R.both hilt)
                      (fun e b' he' => (hE e b' he').step (Since.refl S.hok) (by rw [getD_set_ne true (fun h : i = e => hiE b' (by rw [h]; exact he'))]; exact (hE e b' he').uns) (keepE e b' he' (putKeeps undef))) hnd (by omega) (h2 (fun hp => hw (hg.2 hp)))⟩
                · exact h.elim
              · -- an allocation that waits here, but not in truth
                have hmw := branches_not (fr := fr) (hr ▸ hready : i ∈ r :: rs) hiB
                unfold mayWait at hmw
                obtain ⟨hmw, _⟩ := Bool.and_eq_true_iff.1 hmw
                obtain ⟨hlate, hany⟩ := Bool.and_eq_true_iff.1 hmw
                obtain ⟨o', d, t, z, h1, h2, h3, h4, h5, h6, h7⟩ := lateOp_spec hlate
                rw [ho] at h1
                cases h1
                have hfr : fr[d]? = some .any := by
                  simp only [ho, Option.bind_some, h2] at hany
                  split at hany
                  · assumption
                  · cases hany
                have hdlt : d < a.tmps.size := by
                  have := denL_length F.den
                  have h8 := (List.getElem?_eq_some_iff.1 hfr).1
                  simp only [Array.length_toList] at this
                  rw [this]
                  exact h8
                obtain ⟨zv, hzr, hzd⟩ := zeroCs_sound h6 []
                have hzd' : ∀ ρ, DenL ρ z zv.cells.toList := fun ρ => by
                  obtain ⟨zv', hzr', hzd'⟩ := zeroCs_sound h6 ρ
                  have := (hzr w).symm.trans (hzr' w)
                  cases this
                  exact hzd'
                unfold wpOp
                simp only [hoC]
                have hw : Region.wanted o (yielded ops.toArray a.tmps) = true := by simp [Region.wanted, h4]
                rw [if_pos hw]
                left
                have hrun : (execOp a.eval o).run P w = .ok (.value (.pointer (some ⟨w.heap.size, 0, none⟩))) { w with heap := w.heap.push (.cells zv.cells t) } := by
                  simp [execOp, h3, Instr.alloc, hzr, newVar, newRow]
                unfold Oper.wp
                rw [hrun]
                have hs := Since.more S.hok (.cells zv.cells t)
                have D' := draw_push (D.later i) (.cells zv.cells t)
                have put_d : ∀ d', (a.put o.dst (.pointer (some ⟨w.heap.size, 0, none⟩))).tmps[d']? = if d = d' then some (.pointer (some ⟨w.heap.size, 0, none⟩)) else a.tmps[d']? := fun d' => by
                  rw [h2]
                  simp only [Act.put, Array.getElem?_setIfInBounds]
                  by_cases e : d = d'
                  · subst e; simp [hdlt]
                  · simp [e]
                have F' : FrOK ρ fr (a.put o.dst (.pointer (some ⟨w.heap.size, 0, none⟩))) := by
                  have := F.put o.dst (sv := .any) (v := .pointer (some ⟨w.heap.size, 0, none⟩)) trivial
                  rw [h2] at this ⊢
                  simp only [putD] at this
                  rwa [list_set_same hfr] at this
                show SD ρ1 w1 hpS wr (got (lC.setIfInBounds i true)) _ ∧ wpAnyD P .any ops.toArray Q (SD ρ1 w1 hpS wr) m (lC.setIfInBounds i true) _ _
                refine ⟨D'.same, ?_⟩
                refine ihm (lC.setIfInBounds i true) ((i, w.heap.size) :: E) _ _ (S.trans hs) D' (R.early hilt) (fun e b' he' => ?_) ?_ (by omega) F' ?_
                · rcases List.mem_cons.1 he' with he' | he'
                  · cases he'
                    exact {
                      late := hlate
                      uns := hun
                      at_ := fun o2 d2 t2 z2 k1 k2 k3 k6 => by
                        rw [ho] at k1
                        cases k1
                        rw [h2] at k2
                        cases k2
                        rw [h3] at k3
                        cases k3
                        rw [h6] at k6
                        cases k6
                        exact ⟨by rw [put_d]; simp, zv.cells, by simp, hzd'⟩
                      own := fun ho => by
                        obtain ⟨i', x', hx1, gx, hx2⟩ := ho
                        cases x' with
                        | gone => exact gx.elim
                        | mk t' s' =>
                          have := S.hok.lt hx1 gx hx2
                          omega
                      new := S.size
                      cw := S.hok.cst.le }
                  · refine (hE e b' he').step hs (hE e b' he').uns (fun o2 d2 k1 k2 => ?_)
                    rw [put_d]
                    obtain ⟨o3, d3, _, _, j1, j2, _, _, _, _, j7⟩ := lateOp_spec (hE e b' he').late
                    rw [k1] at j1
                    cases j1
                    rw [k2] at j2
                    cases j2
                    have hne : i ≠ e := fun h => hiE b' (h ▸ he')
                    have := j7 i o ho hne
                    rw [h2] at this
                    have hdd : d ≠ d2 := fun e => this (by rw [e])
                    simp [hdd]
                · simp only [List.map_cons, List.nodup_cons]
                  refine ⟨fun hmem => ?_, hnd⟩
                  obtain ⟨x', hx1, hx2⟩ := List.mem_map.1 hmem
                  have := (hE x'.1 x'.2 hx1).lt
                  rw [hx2] at this
                  omega
                · intro e b' he'
                  rcases List.mem_cons.1 he' with he' | he'
                  · cases he'; exact hiB
                  · exact hBE e b' he'
end Go.Eng
/- The executor: regions; those that draw their order, as the table asks. -/
set_option linter.unusedSimpArgs false
set_option linter.unusedSectionVars false
namespace Go.Eng
variable [CW : CWorld]
variable (ar : AR)
def lateOn (specs : Specs) : Bool :=
  match specs 2 [] [] with
  | some S => S.far
  | none => false
def lateFr (P : Program) (ops : List Oper) : List Nat → List SV → List SV
  | [], fr => fr
  | i :: l, fr =>
    match lateOp P ops i, (ops[i]?).bind (·.dst) with
    | true, some d => lateFr P ops l (fr.set d .any)
    | _, _ => lateFr P ops l fr
theorem denL_forget {ρ : List Nat} : ∀ {l : List SV} {vs : List Value} (i : Nat), DenL ρ l vs → DenL ρ (l.set i .any) vs
  | [], vs, i, h => h
  | a :: l, vs, 0, h => by
    simp only [DenL] at h
    obtain ⟨v, vs', rfl, _, hl⟩ := h
    exact ⟨v, vs', rfl, trivial, hl⟩
  | a :: l, vs, i + 1, h => by
    simp only [DenL] at h
    obtain ⟨v, vs', rfl, hv, hl⟩ := h
    exact ⟨v, vs', rfl, hv, denL_forget i hl⟩
theorem FrOK.late [DM : DMarks] {P : Program} {ops : List Oper} {ρ : List Nat} {a : Act} : ∀ (l : List Nat) {fr : List SV}, FrOK ρ fr a → FrOK ρ (lateFr P ops l fr) a
  | [], fr, F => F
  | i :: l, fr, F => by
    unfold lateFr
    split
    · rename_i d _ _
      exact FrOK.late l ⟨denL_forget d F.den, F.defers⟩
    · exact FrOK.late l F
noncomputable def runRegion (P : Program) (specs : Specs) (inl : Inl) (ops : List Oper) (draw : Bool) (fr : List SV) (hp : List Blk) (K : List SV → List Blk → Prop) : Prop :=
  match draw with
  | false => runList ar P specs inl ops ops fr hp K
  | true =>
    match Region.noSelect ops.toArray, P.follows .mixedOrders with
    | true, true =>
      match lateOn specs with
      | false => drawRun ar P specs inl ops ops.length hp (guessW ar P specs hp (Array.replicate ops.length false) 0 ops fr) (Array.replicate ops.length false) fr hp K
      | true => drawLate ar P specs inl ops ops.length hp (guessW ar P specs hp (Array.replicate ops.length false) 0 ops fr) (Array.replicate ops.length false) (lateFr P ops (List.range ops.length) fr) hp K
    | _, _ => False
theorem runRegion_sound [DM : DMarks] {P : Program} {specs : Specs} (hsp : SpecsOK P specs) {inl : Inl} (hinl : InlOK P inl) {id : Nat} {ops : Array Oper} {draw : Bool} {Q : Exit → Act → World → Prop}
    (hpan : ∀ c a w, ¬ Q (.panic c) a w) {ρ0 : List Nat} {hp0 : List Blk} {w0 : World} {K : List SV → List Blk → Prop}
    (hQ : ∀ (ρ : List Nat) (w : World) (fr : List SV) (hp : List Blk) (a : Act), Since ρ0 hp0 w0 ρ hp w → FrOK ρ fr a → K fr hp → Q .normal a w)
    {ρ : List Nat} {w : World} {fr : List SV} {hp : List Blk} {a : Act} (S : Since ρ0 hp0 w0 ρ hp w) (F : FrOK ρ fr a) (h : runRegion ar0 P specs inl ops.toList draw fr hp K) :
    (Code.region id ops draw).wp P Q a w := by
  unfold runRegion at h
  split at h
  · exact wp_region_list (by simpa using runList_sound hsp hinl hQ ops.toList ρ w fr hp a S F h)
  · split at h
    · rename_i hsel hfol
      have S' : Since ρ0 hp0 w0 ρ hp { w with drawn := w.drawn + 1 } := S.trans (Since.heap S.hok rfl rfl rfl rfl)
      refine wp_region_wpAnyD hfol (S := SD ρ { w with drawn := w.drawn + 1 } hp (guessW ar0 P specs hp (Array.replicate ops.toList.length false) 0 ops.toList fr)) ?_
      have D : DrawInv ρ { w with drawn := w.drawn + 1 } hp (guessW ar0 P specs hp (Array.replicate ops.toList.length false) 0 ops.toList fr) (got (Array.replicate ops.toList.length false)) ρ hp { w with drawn := w.drawn + 1 } := {
          old := ⟨[], by simp⟩
          len := S.hok.len
          hp := fun n t s hn _ => hn
          ok := fun n b t s hn hb => S'.hok.ok n b _ hn hb
          inj := fun i j n t t' s s' hi hj zi zj ri rj => S'.hok.inj i j n _ _ hi hj zi zj ri rj
          cst1 := S'.hok.cst
          above := fun n b t s hn hz hb => S'.hok.above n b _ hn hz hb
          same := ⟨S'.hok.cst, fun _ _ _ _ _ _ _ _ => rfl⟩ }
      split at h
      · have := draw_sound hsp hinl hsel hpan hQ ops.toList.length (Array.replicate ops.toList.length false) ρ _ fr hp a S' F D h
        simpa using this
      · have := late_sound hsp hinl hsel hpan hQ ops.toList.length ops.toList.length (Array.replicate ops.toList.length false) (Array.replicate ops.toList.length false) [] ρ _ _ hp a S' (F.late _) D
          ⟨by simp, fun k hk => by simp⟩ (fun e b he => by cases he) (by simp) (by unfold need; exact Nat.le_trans (List.length_filter_le _ _) (by simp)) h
        simpa using this
    · exact h.elim
end Go.Eng
/- The executor, nineteenth text: whole bodies. -/
set_option linter.unusedSimpArgs false
set_option linter.unusedSectionVars false
namespace Go.Eng
variable [CW : CWorld]
variable (ar : AR)
def resVals (P : Program) (hp : List Blk) (fr : List SV) : List ResultVar → Option (List SV × List Prop)
  | [] => some ([], [])
  | .tmp t :: l =>
    match resVals P hp fr l with
    | some (vs, q) => some (fr.getD t .any :: vs, q)
    | none => none
  | .cell a t :: l =>
    match qLoad ar P hp t (fr.getD a .any), resVals P hp fr l with
    | some (v, p), some (vs, q) => some (v :: vs, p ++ q)
    | _, _ => none
def retSV : List SV → SV
  | [v] => v
  | l => .tup l
theorem run_asAddr {P : Program} {w : World} (x : Addr) : (asAddr (.pointer (some x))).run P w = .ok x w := rfl
theorem resVals_sound [DM : DMarks] {P : Program} {ρ : List Nat} {hp : List Blk} {w : World} (H : HOK ρ hp w) {fr : List SV} {a : Act} (F : FrOK ρ fr a) : ∀ {rs : List ResultVar} {l : List SV} {vc : List Prop},
    resVals ar0 P hp fr rs = some (l, vc) → AllP vc →
      ∃ vs, (rs.mapM fun (r : ResultVar) => match r with
        | .tmp t => pure (a.tmps.getD t undef)
        | .cell b t => do loadVar t (← asAddr (a.tmps.getD b undef)) : Sem (List Value)).run P w = .ok vs w ∧ DenL ρ l vs
  | [], l, vc, h, hv => by
    simp only [resVals, Option.some.injEq, Prod.mk.injEq] at h
    obtain ⟨rfl, rfl⟩ := h
    exact ⟨[], rfl, rfl⟩
  | .tmp t :: rs, l, vc, h, hv => by
    simp only [resVals] at h
    split at h
    · rename_i vs q hr
      cases h
      obtain ⟨us, hrun, hd⟩ := resVals_sound H F hr hv
      refine ⟨a.tmps.getD t undef :: us, ?_, ⟨_, us, rfl, F.eval (.tmp t), hd⟩⟩
      simp only [List.mapM_cons, Sem.run_bind, Sem.run_pure, Result.andThen_ok, hrun]
    · cases h
  | .cell b t :: rs, l, vc, h, hv => by
    simp only [resVals] at h
    split at h
    · rename_i v p vs q hl hr
      cases h
      obtain ⟨v1, v2⟩ := allP_append.1 hv
      obtain ⟨us, hrun, hd⟩ := resVals_sound H F hr v2
      have hE : Den ρ (fr.getD b .any) (a.tmps.getD b undef) := F.eval (.tmp b)
      obtain ⟨u, hdu, hru⟩ := qLoad_sound (P := P) (w1 := w) H (t := t) hE v p hl v1
      have hru := hru w ⟨fun _ _ _ _ _ _ _ => rfl, H.cst⟩
      have hptr : ∃ x, a.tmps.getD b undef = .pointer (some x) := by
        unfold qLoad at hl
        split at hl
        · rename_i he
          rw [he] at hE
          simp only [Den] at hE
          obtain ⟨_, _, hE⟩ := hE
          exact ⟨_, hE⟩
        · rename_i he
          rw [he] at hE
          simp only [Den] at hE
          obtain ⟨_, _, hE, _⟩ := hE
          exact ⟨_, hE⟩
        · cases hl
      obtain ⟨x, hx⟩ := hptr
      refine ⟨u :: us, ?_, ⟨u, us, rfl, hdu, hd⟩⟩
      rw [hx] at hru
      simp only [Instr.loadAt, Instr.sureAddr, Sem.run_bind, Sem.run_pure, Result.andThen_ok] at hru
      simp only [List.mapM_cons, Sem.run_bind, Sem.run_pure, Result.andThen_ok, hx, run_asAddr, hru, hrun]
    · cases h
theorem results_sound [DM : DMarks] {P : Program} {ρ : List Nat} {hp : List Blk} {w : World} (H : HOK ρ hp w) {fr : List SV} {a : Act} (F : FrOK ρ fr a) {fn : Func} {l : List SV} {vc : List Prop}
    (h : resVals ar0 P hp fr fn.results.toList = some (l, vc)) (hv : AllP vc) : ∃ v, (results fn a.tmps).run P w = .ok v w ∧ Den ρ (retSV l) v := by
  obtain ⟨vs, hrun, hd⟩ := resVals_sound H F h hv
  have hlen := denL_length hd
  have hm : (fn.results.mapM fun (r : ResultVar) => match r with
        | .tmp t => pure (a.tmps.getD t undef)
        | .cell b t => do loadVar t (← asAddr (a.tmps.getD b undef)) : Sem (Array Value)).run P w = .ok vs.toArray w := by
    rw [Array.mapM_eq_mapM_toList, Sem.run_map, hrun]; rfl
  refine ⟨if h : vs.toArray.size = 1 then vs.toArray[0] else .tuple vs.toArray, ?_, ?_⟩
  · unfold results
    simp only [Sem.run_bind]
    exact congrArg (fun r : Result (Array Value) => r.andThen fun vs w' => (pure (if h : vs.size = 1 then vs[0] else .tuple vs) : Sem Value).run P w') hm
  · match l, vs, hd with
    | [v], vs, hd =>
      simp only [DenL] at hd
      obtain ⟨u, _, rfl, hu, rfl⟩ := hd
      simpa [retSV] using hu
    | [], vs, hd =>
      simp only [DenL] at hd
      subst hd
      exact ⟨[], rfl, rfl⟩
    | x :: y :: l, vs, hd =>
      have hne : ¬ vs.toArray.size = 1 := by
        have := denL_length hd
        simp at this ⊢
        omega
      rw [dif_neg hne]
      exact ⟨vs, rfl, hd⟩
structure Inv where
  ι : Type
  fr : ι → List SV
  hp : ι → List Blk
  μ : ι → Nat
  ok : ι → Prop
abbrev Invs := FuncId → Nat → Option (Code → List SV → List Blk → List Inv)
def assigned : Code → List Nat
  | .region _ ops _ => ops.toList.filterMap (·.dst)
  | .seq a b => assigned a ++ assigned b
  | .block _ b => assigned b
  | .loop b => assigned b
  | .scope b => assigned b
  | .cond _ a b => assigned a ++ assigned b
  | _ => []
def havoc (b : Code) (fr : List SV) : List SV := (assigned b).foldl (fun fr t => fr.set t .any) fr
def upd (fr : List SV) (l : List (Nat × SV)) : List SV := l.foldl (fun fr p => fr.set p.1 p.2) fr
def maskT (n : Nat) (ex : List Nat) : Nat → List SV → List SV
  | _, [] => []
  | i, v :: l => (match i.blt n || ex.contains i with | true => v | false => .any) :: maskT n ex (i + 1) l
def only (b : Code) (fr : List SV) (n : Nat) (ex : List Nat) (u : List (Nat × SV)) : List SV := upd (maskT n ex 0 (havoc b fr)) u
def firstReg : Code → Option Nat
  | .region id _ _ => some id
  | .seq a b => match firstReg a with
    | some n => some n
    | none => firstReg b
  | .block _ b => firstReg b
  | .loop b => firstReg b
  | .scope b => firstReg b
  | .cond _ a b => match firstReg a with
    | some n => some n
    | none => firstReg b
  | _ => none
def entails (m : Nat) (fr : List SV) (hp : List Blk) (frT : List SV) (hpT : List Blk) : Prop :=
  match mState m fr hp frT hpT with
  | some (_, p) => vcs p True
  | none => False
theorem entails_sound [DM : DMarks] {ρ0 ρ : List Nat} {hp0 : List Blk} {w0 w : World} {fr frT : List SV} {hp hpT : List Blk} {a : Act} (S : Since ρ0 hp0 w0 ρ hp w) (F : FrOK ρ fr a)
    (h : entails ρ0.length fr hp frT hpT) : ∃ ρt, Since ρ0 hp0 w0 ρt hpT w ∧ FrOK ρt frT a := by
  unfold entails at h
  split at h
  · rename_i hm
    obtain ⟨ρt, h1, h2⟩ := S.seen hm (vcs_iff.1 h).1 F.den
    exact ⟨ρt, h1, h2, F.defers⟩
  · exact h.elim
def endCall (P : Program) (rs : List ResultVar) (K : SV → List Blk → Prop) (e : Exit) (fr : List SV) (hp : List Blk) : Prop :=
  match e with
  | .normal | .ret =>
    match resVals ar P hp fr rs with
    | some (l, vc) => vcs vc (K (retSV l) hp)
    | none => False
  | _ => False
def loopStep (Is : List Inv) (m : Nat) (fr : List SV) (hp : List Blk) (R : List SV → List Blk → (List SV → List Blk → Prop) → Prop) : Prop :=
  (anyOuts Is fun I => ∃ i : I.ι, I.ok i ∧ entails m fr hp (I.fr i) (I.hp i)) ∧
    allOuts Is fun I => ∀ i : I.ι, I.ok i → R (I.fr i) (I.hp i) fun fr hp => anyOuts Is fun J => ∃ j : J.ι, J.ok j ∧ J.μ j < I.μ i ∧ entails m fr hp (J.fr j) (J.hp j)
def cutStep (I : Option (Code → List SV → List Blk → List Inv)) (c : Code) (m : Nat) (fr : List SV) (hp : List Blk) (R : (List SV → List Blk → Prop) → Prop) (K : List SV → List Blk → Prop) : Prop :=
  match I with
  | none => R K
  | some I => R (fun fr' hp' => anyOuts (I c fr hp) fun J => ∃ i : J.ι, J.ok i ∧ entails m fr' hp' (J.fr i) (J.hp i)) ∧ allOuts (I c fr hp) fun J => ∀ i : J.ι, J.ok i → K (J.fr i) (J.hp i)
noncomputable def run (P : Program) (specs : Specs) (inv : Invs) : Nat → FuncId → Nat → Code → List SV → List Blk → (Exit → List SV → List Blk → Prop) → Prop
  | 0, _, _, _, _, _, _ => False
  | n + 1, f, m, c, fr, hp, K =>
    match c with
    | .skip => K .normal fr hp
    | .region rid ops draw =>
      cutStep (inv f (1000000 + rid)) (.region rid ops draw) m fr hp (runRegion ar P specs (fun id args hp K =>
        match P.funcs[id]? with
        | some fn =>
          match fn.name == "runtime.NumGoroutine", fn.body with
          | false, some c => run P specs inv n id hp.length c (args ++ List.replicate (fn.ntmps - args.length) .any) hp (endCall ar P fn.results.toList K)
          | _, _ => False
        | none => False) ops.toList draw fr hp) (K .normal)
    | .seq a b => run P specs inv n f m a fr hp fun e fr hp => match e with
      | .normal => run P specs inv n f m b fr hp K
      | e => K e fr hp
    | .cond c a b =>
      match ev fr c with
      | .bool (.l true) => run P specs inv n f m a fr hp K
      | .bool (.l false) => run P specs inv n f m b fr hp K
      | .bool (.x p) => (p → run P specs inv n f m a fr hp K) ∧ (¬ p → run P specs inv n f m b fr hp K)
      | _ => False
    | .block id b => run P specs inv n f m b fr hp fun e fr hp => match e with
      | .exit i => match i == id with
        | true => K .normal fr hp
        | false => K (.exit i) fr hp
      | e => K e fr hp
    | .loop b =>
      match (firstReg b).bind (inv f) with
      | none => run P specs inv n f m b fr hp fun e fr hp => match e with
        | .normal => run P specs inv n f m (.loop b) fr hp K
        | e => K e fr hp
      | some I =>
        loopStep (I b fr hp) m fr hp fun fr0 hp0 N => run P specs inv n f m b fr0 hp0 fun e fr hp => match e with
            | .normal => N fr hp
            | e => K e fr hp
    | .exit i => K (.exit i) fr hp
    | .ret => K .ret fr hp
    | _ => False
def SoundAt (P : Program) (specs : Specs) (inv : Invs) (n : Nat) : Prop :=
  ∀ (DM : DMarks) (f : FuncId) (ρ0 : List Nat) (hp0 : List Blk) (w0 : World) (c : Code) (Q : Exit → Act → World → Prop) (K : Exit → List SV → List Blk → Prop), (∀ c a w, ¬ Q (.panic c) a w) →
    (∀ (e : Exit) (ρ : List Nat) (w : World) (fr : List SV) (hp : List Blk) (a : Act), Since ρ0 hp0 w0 ρ hp w → FrOK ρ fr a → K e fr hp → Q e a w) →
    ∀ (ρ : List Nat) (w : World) (fr : List SV) (hp : List Blk) (a : Act), Since ρ0 hp0 w0 ρ hp w → FrOK ρ fr a → run ar0 P specs inv n f ρ0.length c fr hp K → c.wp P Q a w
theorem rounds_sound [DM : DMarks] {P : Program} {specs : Specs} {inv : Invs} {f : FuncId} {ρ0 : List Nat} {hp0 : List Blk} {w0 : World} :
    ∀ (n : Nat), (∀ m, m < n → SoundAt P specs inv m) → ∀ (b : Code), (firstReg b).bind (inv f) = none → ∀ (Q : Exit → Act → World → Prop) (K : Exit → List SV → List Blk → Prop),
      (∀ c a w, ¬ Q (.panic c) a w) →
      (∀ (e : Exit) (ρ : List Nat) (w : World) (fr : List SV) (hp : List Blk) (a : Act), Since ρ0 hp0 w0 ρ hp w → FrOK ρ fr a → K e fr hp → Q e a w) →
      ∀ (ρ : List Nat) (w : World) (fr : List SV) (hp : List Blk) (a : Act), Since ρ0 hp0 w0 ρ hp w → FrOK ρ fr a → run ar0 P specs inv n f ρ0.length (.loop b) fr hp K → Code.rounds P b Q n a w
  | 0, _, b, hb, Q, K, hpan, hQ, ρ, w, fr, hp, a, S, F, h => by simp [run] at h
  | n + 1, ih, b, hb, Q, K, hpan, hQ, ρ, w, fr, hp, a, S, F, h => by
    simp only [run, hb] at h
    rw [rounds_succ]
    refine ih n (Nat.lt_succ_self n) DM f ρ0 hp0 w0 b (Exit.then (Code.rounds P b Q n) Q) _ (fun c a w h => hpan c a w h) (fun e ρ w fr hp a S F h => ?_) ρ w fr hp a S F h
    cases e with
    | normal => exact rounds_sound n (fun m hm => ih m (Nat.lt_succ_of_lt hm)) b hb Q K hpan hQ ρ w fr hp a S F h
    | _ => exact hQ _ ρ w fr hp a S F h
theorem call_of_run {P : Program} {specs : Specs} {inv : Invs} {n : Nat} (hs : SoundAt P specs inv n) {id : FuncId} {fn : Func} {c : Code}
    (hf : P.funcs[id]? = some fn) (hc : fn.body = some c) {args : List SV} {hp : List Blk} {K : SV → List Blk → Prop}
    (h : run ar0 P specs inv n id hp.length c (args ++ List.replicate (fn.ntmps - args.length) .any) hp (endCall ar0 P fn.results.toList K))
    {ρ : List Nat} {w : World} {vs : List Value} (H : HOK ρ hp w) (hd : DenL ρ args vs) :
    Calls P id vs.toArray w fun e w' => ∃ (v : Value) (ρ' : List Nat) (hp' : List Blk) (sv : SV), e = .returned v ∧ Den ρ' sv v ∧ Since ρ hp w ρ' hp' w' ∧ K sv hp' := by
  refine calls_of_wp hf hc ?_
  letI DM : DMarks := ⟨[]⟩
  have hlen := denL_length hd
  rw [← H.len] at h
  refine hs DM id ρ hp w c _ _ ?_ ?_ ρ w _ _ _ (Since.refl H) ?_ h
  · intro ch a w hq
    obtain ⟨_, _, _, _, _, he, _⟩ := hq
    cases he
  · intro e ρ' w' fr hp' a S' F hK
    have fin : (∃ l vc, resVals ar0 P hp' fr fn.results.toList = some (l, vc) ∧ vcs vc (K (retSV l) hp')) →
        a.defers = [] ∧ ∃ v, (results fn a.tmps).run P w' = .ok v w' ∧ ∃ (u : Value) (ρ' : List Nat) (hp' : List Blk) (sv : SV), Ending.returned v = .returned u ∧ Den ρ' sv u ∧ Since ρ hp w ρ' hp' w' ∧ K sv hp' := by
      rintro ⟨l, vc, hr, hvc⟩
      obtain ⟨hv, hK⟩ := vcs_iff.1 hvc
      obtain ⟨v, hrun, hdv⟩ := results_sound S'.hok F hr hv
      exact ⟨F.defers, v, hrun, v, ρ', hp', _, rfl, hdv, S', hK⟩
    cases e with
    | normal =>
      simp only [endCall] at hK
      split at hK
      · exact fin ⟨_, _, ‹_›, hK⟩
      · exact hK.elim
    | ret =>
      simp only [endCall] at hK
      split at hK
      · exact fin ⟨_, _, ‹_›, hK⟩
      · exact hK.elim
    | exit i => exact hK.elim
    | goto l => exact hK.elim
    | panic ch => exact hK.elim
    | outgrown => exact hK.elim
  · refine ⟨?_, rfl⟩
    have hrep : ∀ n, DenL ρ (List.replicate n .any) (List.replicate n undef) := fun n => by
      induction n with
      | zero => rfl
      | succ n ih => exact ⟨undef, _, rfl, trivial, ih⟩
    have := denL_append hd (hrep (fn.ntmps - args.length))
    simpa [hlen] using this
theorem inl_ok {P : Program} {specs : Specs} {inv : Invs} {n : Nat} (hs : SoundAt P specs inv n) :
    InlOK P (fun id args hp K =>
        match P.funcs[id]? with
        | some fn =>
          match fn.name == "runtime.NumGoroutine", fn.body with
          | false, some c => run ar0 P specs inv n id hp.length c (args ++ List.replicate (fn.ntmps - args.length) .any) hp (endCall ar0 P fn.results.toList K)
          | _, _ => False
        | none => False) := by
  intro id args hp K h
  split at h
  · rename_i fn hf
    split at h
    · rename_i c hname hc
      exact ⟨⟨fn, hf, hname, by simp [hc]⟩, fun ρ w vs H hd => call_of_run hs hf hc h H hd⟩
    · exact h.elim
  · exact h.elim
theorem run_sound {P : Program} {specs : Specs} (hsp : SpecsOK P specs) {inv : Invs} (n : Nat) :
    SoundAt P specs inv n := by
  induction n using Nat.strongRecOn with
  | _ n ihs =>
  cases n with
  | zero => intro DM f ρ0 hp0 w0 c Q K hpan hQ ρ w fr hp a S F h; simp [run] at h
  | succ n =>
    intro DM f ρ0 hp0 w0 c Q K hpan hQ ρ w fr hp a S F h
    have ih0 := ihs n (Nat.lt_succ_self n)
    have ih := ih0 DM f ρ0 hp0 w0
    have seqQ : ∀ {next : Act → World → Prop}, ∀ c a w, ¬ Exit.then next Q (.panic c) a w := fun c a w h => hpan c a w h
    cases c with
    | skip => exact wp_skip (hQ _ ρ w fr hp a S F h)
    | region id ops draw =>
      simp only [run, cutStep] at h
      split at h
      · exact runRegion_sound hsp (inl_ok ih0) hpan (fun ρ w fr hp a S F h => hQ _ ρ w fr hp a S F h) S F h
      · obtain ⟨h1, h2⟩ := h
        refine runRegion_sound hsp (inl_ok ih0) hpan (fun ρ w fr' hp' a S F h => ?_) S F h1
        obtain ⟨J, hJ, i, hok, he⟩ := anyOuts_mem h
        obtain ⟨ρt, S1, F1⟩ := entails_sound S F he
        exact hQ _ ρt w _ _ a S1 F1 (allOuts_mem h2 hJ i hok)
    | seq x y =>
      refine wp_seq (ih x _ _ seqQ (fun e ρ w fr hp a S F h => ?_) ρ w fr hp a S F h)
      cases e with
      | normal => exact ih y Q K hpan hQ ρ w fr hp a S F h
      | _ => exact hQ _ ρ w fr hp a S F h
    | cond c x y =>
      simp only [run] at h
      have hc := F.eval c
      split at h
      · rename_i he
        rw [he] at hc
        simp only [Den, BB.prop, iff_true] at hc
        obtain ⟨b, hb, rfl⟩ := hc
        exact wp_cond_true hb (ih x Q K hpan hQ ρ w fr hp a S F h)
      · rename_i he
        rw [he] at hc
        simp only [Den, BB.prop, Bool.false_eq_true, iff_false, Bool.not_eq_true] at hc
        obtain ⟨b, hb, rfl⟩ := hc
        exact wp_cond_false hb (ih y Q K hpan hQ ρ w fr hp a S F h)
      · rename_i p he
        rw [he] at hc
        simp only [Den, BB.prop] at hc
        obtain ⟨b, hb, hp'⟩ := hc
        refine wp_cond_split hb (fun ht => ih x Q K hpan hQ ρ w fr hp a S F (h.1 (hp'.1 ht))) (fun hf => ih y Q K hpan hQ ρ w fr hp a S F (h.2 (fun hpp => ?_)))
        rw [hp'.2 hpp] at hf
        cases hf
      · exact h.elim
    | block id b =>
      refine wp_block (ih b (Exit.inBlock id Q) _ (fun c a w h => hpan c a w h) (fun e ρ w fr hp a S F h => ?_) ρ w fr hp a S F h)
      cases e with
      | exit i =>
        simp only [Exit.inBlock]
        simp only at h
        split at h
        · rename_i he
          rw [if_pos (by simpa using he)]
          exact hQ _ ρ w fr hp a S F h
        · rename_i he
          rw [if_neg (by simpa using he)]
          exact hQ _ ρ w fr hp a S F h
      | _ => exact hQ _ ρ w fr hp a S F h
    | loop b =>
      have hall := h
      simp only [run] at h
      split at h
      · rename_i hb
        exact wp_loop_rounds (n + 1) (rounds_sound (n + 1) ihs b hb Q K hpan hQ ρ w fr hp a S F hall)
      · rename_i I0 _
        generalize I0 b fr hp = Is at h
        obtain ⟨hin, hround⟩ := h
        obtain ⟨I, hI, i0, hi0, he0⟩ := anyOuts_mem hin
        obtain ⟨ρt, S0, F0⟩ := entails_sound S F he0
        refine wp_loop_ghost (fun k a w => ∃ (J : Inv) (_ : J ∈ Is) (i : J.ι) (ρ : List Nat), J.μ i = k ∧ J.ok i ∧ Since ρ0 hp0 w0 ρ (J.hp i) w ∧ FrOK ρ (J.fr i) a) (I.μ i0) ⟨I, hI, i0, ρt, rfl, hi0, S0, F0⟩ ?_
        rintro k a' w' ⟨J, hJ, i, ρi, rfl, hok, Si, Fi⟩
        refine ih b _ _ seqQ (fun e ρ w fr hp a S F h => ?_) ρi w' _ _ a' Si Fi (allOuts_mem hround hJ i hok)
        cases e with
        | normal =>
          obtain ⟨J', hJ', j, hj, hlt, he⟩ := anyOuts_mem h
          obtain ⟨ρt, S1, F1⟩ := entails_sound S F he
          exact ⟨J'.μ j, hlt, J', hJ', j, ρt, rfl, hj, S1, F1⟩
        | _ => exact hQ _ ρ w fr hp a S F h
    | exit i => exact wp_exit (hQ _ ρ w fr hp a S F h)
    | ret => exact wp_ret (hQ _ ρ w fr hp a S F h)
    | _ => exact h.elim
end Go.Eng
/- The executor, twentieth text: a contract out of a run. -/
set_option linter.unusedSimpArgs false
set_option linter.unusedSectionVars false
namespace Go.Eng
variable [CW : CWorld]
def Spec.fin (S : Spec) (x : S.X) (sv : SV) (hp : List Blk) : Prop := anyOuts S.outs fun o => ∃ y : o.Y x, o.post x y ∧ entails (S.H x).length [sv] hp [o.R x y] (o.H' x y)
theorem Spec.ok_of_run {P : Program} {f : FuncId} {S : Spec} {fn : Func} {c : Code} (hf : P.funcs[f]? = some fn) (hc : fn.body = some c) (hname : (fn.name == "runtime.NumGoroutine") = false)
    {specs : Specs} (hsp : SpecsOK P specs) (inv : S.X → Invs) (N : Nat)
    (h : ∀ x, S.pre x → run ar0 P specs (inv x) N f (S.H x).length c (S.A x ++ List.replicate (fn.ntmps - (S.A x).length) .any) (S.H x) (endCall ar0 P fn.results.toList (S.fin x))) :
    S.OK P f := by
  refine ⟨⟨fn, hf, hname, by simp [hc]⟩, fun x hx ρ w vs hd H => ?_⟩
  refine (call_of_run (run_sound hsp N) hf hc (h x hx) H hd).mono fun e w' he => ?_
  obtain ⟨v, ρ', hp', sv, rfl, hdv, hs, hfin⟩ := he
  obtain ⟨o, ho, y, hpost, hent⟩ := anyOuts_mem hfin
  unfold entails at hent
  split at hent
  · rename_i p hm
    rw [← H.len] at hm
    obtain ⟨ρt, h1, h2⟩ := hs.seen hm (vcs_iff.1 hent).1 (vs := [v]) ⟨v, [], rfl, hdv, rfl⟩
    simp only [DenL] at h2
    obtain ⟨u, _, hu, hd', rfl⟩ := h2
    cases hu
    exact ⟨o, v, y, ρt, ho, rfl, hpost, hd', h1⟩
  · exact hent.elim
end Go.Eng
/- The executor, last text: a contract over no memory, as the rows ask for it. -/
set_option linter.unusedSectionVars false
namespace Go.Eng
variable [CW : CWorld]
open Go.RowKit
theorem below_of_since {w w' : World} {ρ : List Nat} {hp : List Blk} (h : Since [] [] w ρ hp w') : Below w.heap.size w w' :=
  ⟨h.os, h.tape, h.out, h.size, fun k hk => h.frame k hk (fun ⟨i, x, hx, _⟩ => by simp at hx)⟩
theorem Spec.calls0 {P : Program} {f : FuncId} {S : Spec} (h : S.OK P f) (x : S.X) (hx : S.pre x) (hH : S.H x = []) {vs : List Value} (hd : DenL [] (S.A x) vs) :
    Calls P f vs.toArray CW.w fun e w' => (∃ (o : Out S.X) (v : Value) (y : o.Y x) (ρ : List Nat), o ∈ S.outs ∧ e = .returned v ∧ o.post x y ∧ Den ρ (o.R x y) v) ∧ Below CW.w.heap.size CW.w w' := by
  have H : HOK [] (S.H x) CW.w := by
    rw [hH]
    exact { len := rfl, inj := fun i j n b c hi => by simp at hi, ok := fun i n b hi => by simp at hi, cst := fun _ _ => rfl, above := fun i n b hi => by simp at hi }
  refine (h.2 x hx [] CW.w vs hd H).mono fun e w' he => ?_
  obtain ⟨o, v, y, ρ, ho, rfl, hp, hv, hs⟩ := he
  rw [hH] at hs
  exact ⟨⟨o, v, y, ρ, ho, rfl, hp, hv⟩, below_of_since hs⟩
end Go.Eng
/- The executor: the arguments of a statement, opened: structs and slices of whole numbers, texts and truth values. -/
set_option linter.unusedSimpArgs false
set_option linter.unusedVariables false
set_option linter.unusedSectionVars false
namespace Go.Eng
inductive Kd where
  | i (k : IntKind)
  | s
  | b
def Kd.ok : Kd → Value → Prop
  | .i k, v => ∃ n, v = .int k n ∧ (Lit.int k n).wf = true
  | .s, v => ∃ s : ByteArray, v = .string s ∧ s.size ≤ maxLen
  | .b, v => ∃ b, v = .bool b
def KdL : List Kd → List Value → Prop
  | [], vs => vs = []
  | k :: ks, vs => ∃ v vs', vs = v :: vs' ∧ k.ok v ∧ KdL ks vs'
theorem kdL_append : ∀ {ks ks' : List Kd} {vs vs' : List Value}, KdL ks vs → KdL ks' vs' → KdL (ks ++ ks') (vs ++ vs')
  | [], ks', vs, vs', h, h' => by simp only [KdL] at h; subst h; simpa using h'
  | k :: ks, ks', vs, vs', h, h' => by
    simp only [KdL] at h
    obtain ⟨v, ws, rfl, hv, hl⟩ := h
    exact ⟨v, ws ++ vs', rfl, hv, kdL_append hl h'⟩
theorem kdL_get : ∀ {ks : List Kd} {vs : List Value} {j : Nat} {k : Kd}, KdL ks vs → ks[j]? = some k → ∃ v, vs[j]? = some v ∧ k.ok v
  | [], vs, j, k, h, hj => by simp at hj
  | k0 :: ks, vs, 0, k, h, hj => by
    simp only [KdL] at h
    obtain ⟨v, vs', rfl, hv, _⟩ := h
    simp at hj
    subst hj
    exact ⟨v, rfl, hv⟩
  | k0 :: ks, vs, j + 1, k, h, hj => by
    simp only [KdL] at h
    obtain ⟨v, vs', rfl, _, h'⟩ := h
    obtain ⟨u, hu, ho⟩ := kdL_get h' (by simpa using hj)
    exact ⟨u, by simpa using hu, ho⟩
mutual
/-- The cells of a type that has only such. -/
def kinds (P : Program) : Nat → TypeId → Option (List Kd)
  | 0, _ => none
  | n + 1, t =>
    match P.underlying t with
    | some (.int k) => some [.i k]
    | some .string => some [.s]
    | some .bool => some [.b]
    | some (.struct fs) =>
      match kindsF P n 0 fs.toList with
      | some ks => if ks.length = P.cellsOf t then some ks else none
      | none => none
    | _ => none
def kindsF (P : Program) : Nat → Nat → List Field → Option (List Kd)
  | 0, _, _ => none
  | _ + 1, _, [] => some []
  | n + 1, off, f :: fs =>
    match kinds P n f.type, kindsF P n (off + P.cellsOf f.type) fs with
    | some ks, some ks' => if f.offset = off ∧ ks.length = P.cellsOf f.type then some (ks ++ ks') else none
    | _, _ => none
end
section
variable {H : Type} {enc : TypeId × Value → H} {P : Program} {w : World} {base : Nat} {spare : Nat → Bool} {held : Bool}
mutual
theorem kinds_trod : ∀ (n : Nat) {t : TypeId} {ks : List Kd} {fuel : Nat} {cs : List Value} {x : DataW H × List MemPlace}, kinds P n t = some ks → DataW.trod enc P w base spare held fuel t cs = some x → KdL ks cs
  | 0, _, _, _, _, _, h, _ => by simp [kinds] at h
  | n + 1, t, ks, fuel, cs, x, h, hx => by
    simp only [kinds] at h
    split at h
    · rename_i k hu
      cases h
      obtain ⟨m, rfl, _, hw⟩ := DataW.trod_int hu hx
      exact ⟨_, [], rfl, ⟨m, rfl, hw⟩, rfl⟩
    · rename_i hu
      cases h
      obtain ⟨s, rfl, _, hs⟩ := DataW.trod_string hu hx
      exact ⟨_, [], rfl, ⟨s, rfl, hs⟩, rfl⟩
    · rename_i hu
      cases h
      obtain ⟨b, rfl, _⟩ := DataW.trod_bool hu hx
      exact ⟨_, [], rfl, ⟨b, rfl⟩, rfl⟩
    · rename_i fs hu
      split at h
      · rename_i ks' hks
        split at h
        · rename_i hlen
          cases h
          obtain ⟨xs, m, _, _, hcl, hxl, hf⟩ := DataW.trod_struct hu hx
          have := kindsF_trod n (off := 0) (cs := cs) (i0 := 0) (fs := fs) (m := m) (xs := xs) hks (by simp) hxl hf (by rw [hlen, hcl]; omega)
          simpa using this
        · cases h
      · cases h
    · cases h
theorem kindsF_trod : ∀ (n : Nat) {off i0 : Nat} {l : List Field} {ks : List Kd} {cs : List Value} {fs : Array Field} {m : Nat} {xs : List (DataW H × List MemPlace)},
    kindsF P n off l = some ks → l = fs.toList.drop i0 → xs.length = fs.size →
    (∀ (i : Nat) (f : Field), fs[i]? = some f → DataW.trod enc P w base spare held m f.type ((cs.drop f.offset).take (P.cellsOf f.type)) = xs[i]?) → off + ks.length = cs.length → KdL ks (cs.drop off)
  | 0, _, _, _, _, _, _, _, _, h, _, _, _, _ => by simp [kindsF] at h
  | n + 1, off, i0, [], ks, cs, fs, m, xs, h, hl, hxl, hf, hc => by
    simp only [kindsF] at h
    cases h
    simp only [KdL]
    exact List.drop_eq_nil_of_le (by simp at hc; omega)
  | n + 1, off, i0, f :: l, ks, cs, fs, m, xs, h, hl, hxl, hf, hc => by
    simp only [kindsF] at h
    split at h
    · rename_i k1 k2 h1 h2
      split at h
      · rename_i hcond
        obtain ⟨ho, hk⟩ := hcond
        cases h
        have hi : fs[i0]? = some f := by
          have h0 := congrArg (fun l => l[0]?) hl
          simp at h0
          exact h0.symm
        have hlt : i0 < xs.length := by rw [hxl]; exact (Array.getElem?_eq_some_iff.1 hi).1
        have hx := hf i0 f hi
        rw [List.getElem?_eq_getElem hlt] at hx
        have a1 := kinds_trod n h1 hx
        rw [ho] at a1
        have hl' : l = fs.toList.drop (i0 + 1) := by
          have := congrArg List.tail hl
          simpa using this
        simp only [List.length_append] at hc
        have a2 := kindsF_trod n (i0 := i0 + 1) h2 hl' hxl hf (by omega)
        have e : cs.drop off = (cs.drop off).take (P.cellsOf f.type) ++ cs.drop (off + P.cellsOf f.type) := by
          rw [← List.drop_drop, List.take_append_drop]
        rw [e]
        exact kdL_append a1 a2
      · cases h
    · cases h
end
end
def Kd.sv (kd : Kd) (v : Value) : SV :=
  match kd, v with
  | Kd.i k, Value.int _ n => .int k (.x n)
  | Kd.s, Value.string x => .str x.data.toList
  | Kd.b, Value.bool q => .bool (.x (q = true))
  | _, _ => .any
def Value.toI : Value → Int
  | .int _ n => n
  | _ => 0
def Value.toS : Value → List UInt8
  | .string s => s.data.toList
  | _ => []
def Value.toB : Value → Bool
  | .bool b => b
  | _ => false
def Kd.col (k : Kd) (n : Nat) (f : Nat → Value) : Col :=
  match k with
  | .i k => .ints k ((List.range n).map fun i => Value.toI (f i))
  | .s => .strs ((List.range n).map fun i => Value.toS (f i))
  | .b => .bools ((List.range n).map fun i => Value.toB (f i))
theorem col_at {k : Kd} {n : Nat} {f : Nat → Value} {i : Nat} (hi : i < n) (h : k.ok (f i)) : (k.col n f).at i = f i := by
  cases k with
  | i k =>
    obtain ⟨m, hm, _⟩ := h
    simp [Kd.col, Col.at, List.getD, hi, hm, Value.toI]
  | s =>
    obtain ⟨s, hs, _⟩ := h
    simp [Kd.col, Col.at, List.getD, hi, hs, Value.toS]
  | b =>
    obtain ⟨b, hb⟩ := h
    simp [Kd.col, Col.at, List.getD, hi, hb, Value.toB]
def colsOf (n : Nat) (f : Nat → Nat → Value) : Nat → List Kd → List Col
  | _, [] => []
  | j, k :: ks => k.col n (fun i => f i j) :: colsOf n f (j + 1) ks
theorem colsOf_length (n : Nat) (f : Nat → Nat → Value) : ∀ (j : Nat) (ks : List Kd), (colsOf n f j ks).length = ks.length
  | _, [] => rfl
  | j, k :: ks => by simp [colsOf, colsOf_length n f (j + 1) ks]
theorem colsOf_get (n : Nat) (f : Nat → Nat → Value) : ∀ (j : Nat) (ks : List Kd) (i : Nat) (c : Col), (colsOf n f j ks)[i]? = some c → ∃ k, ks[i]? = some k ∧ c = k.col n (fun m => f m (j + i))
  | j, [], i, c, h => by simp [colsOf] at h
  | j, k :: ks, 0, c, h => by simp [colsOf] at h; exact ⟨k, rfl, h.symm⟩
  | j, k :: ks, i + 1, c, h => by
    simp only [colsOf, List.getElem?_cons_succ] at h
    obtain ⟨k', hk, hc⟩ := colsOf_get n f (j + 1) ks i c h
    exact ⟨k', by simpa using hk, by rw [hc]; congr 1; funext m; congr 1; omega⟩
section
variable {H : Type} {enc : TypeId × Value → H} {P : Program} {W : World}
def lawOut (X : Type) : Out X := { Y := fun _ => Unit, post := fun _ _ => True, R := fun _ _ => .bool (.l true), H' := fun _ _ => [] }
theorem Spec.law {f : FuncId} {S : Spec} (h : @Spec.OK ⟨W⟩ P f S) (x : S.X) (hx : S.pre x) (hH : S.H x = []) (ho : S.outs = [lawOut S.X]) {vs : List Value} (hd : @DenL ⟨W⟩ [] (S.A x) vs) :
    Calls P f vs.toArray W fun e W' => e = .returned (.bool true) ∧ Go.RowKit.Below W.heap.size W W' := by
  letI : CWorld := ⟨W⟩
  refine (Spec.calls0 h x hx hH hd).mono fun e W' he => ?_
  obtain ⟨⟨o, v, y, ρ, hm, rfl, _, hv⟩, hb⟩ := he
  rw [ho] at hm
  obtain rfl := List.mem_singleton.1 hm
  obtain ⟨c, rfl, hc⟩ := hv
  have : c = true := hc.2 rfl
  subst this
  exact ⟨rfl, hb⟩
end
end Go.Eng
/- The executor: a slice argument opened, with what its elements read as. -/
set_option linter.unusedSimpArgs false
set_option linter.unusedVariables false
set_option linter.unusedSectionVars false
namespace Go.Eng
section
variable {H : Type} {enc : TypeId × Value → H} {P : Program} {W : World}
end
end Go.Eng
/- The executor: a struct argument of scalars, opened. -/
set_option linter.unusedSimpArgs false
set_option linter.unusedVariables false
set_option linter.unusedSectionVars false
namespace Go.Eng
section
variable {H : Type} {enc : TypeId × Value → H} {P : Program} {W : World}
end
end Go.Eng
/- The executor: an argument of scalars, slices of flat elements, and structs of these, opened. -/
set_option linter.unusedSimpArgs false
set_option linter.unusedVariables false
set_option linter.unusedSectionVars false
namespace Go.Eng
inductive Kd3 where
  | f (k : Kd)
  | sl (ks : List Kd) (by_ : Nat)
mutual
def kinds3 (P : Program) : Nat → TypeId → Option (List Kd3)
  | 0, _ => none
  | n + 1, t =>
    match P.underlying t with
    | some (.int k) => some [.f (.i k)]
    | some .string => some [.f .s]
    | some .bool => some [.f .b]
    | some (.slice e) =>
      match kinds P n e with
      | some ks => if P.cellsOf e = ks.length ∧ 0 < ks.length then some [.sl ks (P.bytesOf e)] else none
      | none => none
    | some (.struct fs) =>
      match fields3 P n 0 fs.toList with
      | some ks => if ks.length = P.cellsOf t then some ks else none
      | none => none
    | _ => none
def fields3 (P : Program) : Nat → Nat → List Field → Option (List Kd3)
  | 0, _, _ => none
  | _ + 1, _, [] => some []
  | n + 1, off, f :: fs =>
    match kinds3 P n f.type, fields3 P n (off + P.cellsOf f.type) fs with
    | some ks, some ks' => if f.offset = off ∧ ks.length = P.cellsOf f.type then some (ks ++ ks') else none
    | _, _ => none
end
def Kd3.good : Kd3 → SV → Prop
  | .f (.i k), sv => ∃ n, sv = .int k (.x n) ∧ (Lit.int k n).wf = true
  | .f .s, sv => ∃ s, sv = .str s ∧ s.length ≤ reachBytes
  | .f .b, sv => ∃ b : Bool, sv = .bool (.x (b = true))
  | .sl ks by_, sv => ∃ (f : Nat → Nat → Value) (len cap : Nat), sv = .cs (colsOf len f 0 ks) (.x (len : Int)) (.x (cap : Int)) ∧ len ≤ cap ∧ cap * by_ ≤ reachBytes ∧
      ∀ (i j : Nat) (k : Kd), i < len → ks[j]? = some k → k.ok (f i j)
def Good3 : List Kd3 → List SV → Prop
  | [], svs => svs = []
  | k :: ks, svs => ∃ sv rest, svs = sv :: rest ∧ k.good sv ∧ Good3 ks rest
theorem good3_append : ∀ {ks ks' : List Kd3} {a b : List SV}, Good3 ks a → Good3 ks' b → Good3 (ks ++ ks') (a ++ b)
  | [], ks', a, b, h, h' => by simp only [Good3] at h; subst h; simpa using h'
  | k :: ks, ks', a, b, h, h' => by
    simp only [Good3] at h
    obtain ⟨sv, r, rfl, h1, h2⟩ := h
    exact ⟨sv, r ++ b, rfl, h1, good3_append h2 h'⟩
section
variable {H : Type} {enc : TypeId × Value → H} {P : Program} {W : World}
theorem open_cs3 {e t : TypeId} {ks : List Kd} {n fuel : Nat} {cs : List Value} {d : DataW H} {ps : List MemPlace} (ht : P.underlying t = some (.slice e)) (hk : kinds P n e = some ks) (hc : P.cellsOf e = ks.length) (hpos : 0 < ks.length)
    (hf : DataW.trod enc P W 0 (fun _ => true) true fuel t cs = some (d, ps)) (hw : ∀ m ∈ d.weights P t, m ≤ reachBytes) :
    ∃ sv, @DenL ⟨W⟩ [] [sv] cs ∧ (Kd3.sl ks (P.bytesOf e)).good sv := by
  letI : CWorld := ⟨W⟩
  rcases Go.Deep.open_slice ht hf with ⟨h1, h2⟩ | ⟨a, len, cap, m, n', D, Pl, h1, _, hlc, hcm, hm, hx, hel⟩
  · subst h1
    refine ⟨.cs (colsOf 0 (fun _ _ => undef) 0 ks) (.x (0 : Nat)) (.x (0 : Nat)), ⟨_, [], rfl, ⟨none, rfl, Int.le_refl 0, Int.le_refl 0, fun h => absurd rfl h⟩, rfl⟩, fun _ _ => undef, 0, 0, rfl, Nat.le_refl _, by simp, fun i j k hi => by omega⟩
  · simp only [if_true] at hm
    subst hm
    subst h1
    simp only [Prod.mk.injEq] at hx
    have hsize : m * P.bytesOf e ≤ reachBytes := by
      refine hw _ ?_
      rw [hx.1]
      unfold DataW.weights
      simp only [ht]
      refine List.mem_cons.2 (.inl ?_)
      simp only [List.length_map, List.length_range]
      congr 1
      omega
    obtain ⟨cells, hcells⟩ := Go.Deep.choose_lt hel
    have ok : ∀ (i j : Nat) (k : Kd), i < m → ks[j]? = some k → (cells i)[j]? = some ((cells i).getD j undef) ∧ k.ok ((cells i).getD j undef) := fun i j k hi hj => by
      obtain ⟨_, h2⟩ := hcells i hi
      obtain ⟨u, hu, ho⟩ := kdL_get (kinds_trod n hk h2) hj
      simp only [List.getD, hu, Option.getD_some]
      exact ⟨trivial, ho⟩
    have at_ : ∀ (i j : Nat) (k : Kd), i < m → ks[j]? = some k → W.cell? ((a.add (i * ks.length)).add j) = some ((cells i).getD j undef) := fun i j k hi hj => by
      obtain ⟨hce, _⟩ := hcells i hi
      obtain ⟨_, hlen, hcell⟩ := World.cells?_some hce
      rw [← hc, hcell j (by rw [hc]; exact (List.getElem?_eq_some_iff.1 hj).1)]
      exact (ok i j k hi hj).1
    have hspot : m ≠ 0 → a.spot = none := fun hne => by
      have := World.cell?_spot (at_ 0 0 _ (by omega) (List.getElem?_eq_getElem hpos))
      simpa [Addr.add] using this
    refine ⟨.cs (colsOf len (fun i j => (cells i).getD j undef) 0 ks) (.x (len : Int)) (.x (m : Int)), ⟨_, [], rfl, ?_, rfl⟩, fun i j => (cells i).getD j undef, len, m, rfl, hlc, hsize, fun i j k hi hj => (ok i j k (by omega) hj).2⟩
    refine ⟨some a, by simp [Z.val], by simp [Z.val], by simp [Z.val]; omega, fun hne => ?_⟩
    have hs : a.spot = none := hspot (by simpa [Z.val] using hne)
    obtain ⟨b, off, spot⟩ := a
    simp only at hs
    subst hs
    refine ⟨b, off, rfl, fun i j c hi hj => ?_⟩
    have hi' : i < len := by simpa [Z.val] using hi
    obtain ⟨k, hk', rfl⟩ := colsOf_get _ _ _ _ _ _ hj
    rw [col_at hi' (by rw [Nat.zero_add]; exact (ok i j k (by omega) hk').2), Nat.zero_add]
    have h1 := at_ i j k (by omega) hk'
    rw [addr_add, addr_add] at h1
    rw [colsOf_length]
    exact cell_now h1
mutual
theorem open3 : ∀ (n : Nat) {t : TypeId} {ks : List Kd3} {fuel : Nat} {cs : List Value} {d : DataW H} {ps : List MemPlace}, kinds3 P n t = some ks →
    DataW.trod enc P W 0 (fun _ => true) true fuel t cs = some (d, ps) → (∀ m ∈ d.weights P t, m ≤ reachBytes) → ∃ svs, @DenL ⟨W⟩ [] svs cs ∧ Good3 ks svs
  | 0, _, _, _, _, _, _, h, _, _ => by simp [kinds3] at h
  | n + 1, t, ks, fuel, cs, d, ps, h, hx, hw => by
    letI : CWorld := ⟨W⟩
    simp only [kinds3] at h
    split at h
    · rename_i k hu
      cases h
      obtain ⟨m, rfl, _, hwf⟩ := DataW.trod_int hu hx
      exact ⟨[.int k (.x m)], ⟨_, [], rfl, rfl, rfl⟩, _, [], rfl, ⟨m, rfl, hwf⟩, rfl⟩
    · rename_i hu
      cases h
      obtain ⟨s, rfl, hd, hs⟩ := DataW.trod_string hu hx
      simp only [Prod.mk.injEq] at hd
      refine ⟨[.str s.data.toList], ⟨_, [], rfl, by simp [Den], rfl⟩, _, [], rfl, ⟨_, rfl, ?_⟩, rfl⟩
      refine hw _ ?_
      rw [hd.1]
      simp [DataW.weights]
    · rename_i hu
      cases h
      obtain ⟨b, rfl, _⟩ := DataW.trod_bool hu hx
      exact ⟨[.bool (.x (b = true))], ⟨_, [], rfl, ⟨b, rfl, Iff.rfl⟩, rfl⟩, _, [], rfl, ⟨b, rfl⟩, rfl⟩
    · rename_i e hu
      split at h
      · rename_i ks' hk
        split at h
        · rename_i hc
          cases h
          obtain ⟨sv, h1, h2⟩ := open_cs3 hu hk hc.1 hc.2 hx hw
          exact ⟨[sv], h1, sv, [], rfl, h2, rfl⟩
        · cases h
      · cases h
    · rename_i fs hu
      split at h
      · rename_i ks' hks
        split at h
        · rename_i hlen
          cases h
          obtain ⟨xs, m, _, hd, hcl, hxl, hf⟩ := DataW.trod_struct hu hx
          simp only [Prod.mk.injEq] at hd
          have := open3F n (off := 0) (cs := cs) (i0 := 0) (fs := fs) (m := m) (xs := xs) hks (by simp) hxl hf (by rw [hlen, hcl]; omega) (fun w hwm => hw w (by
            rw [hd.1]
            unfold DataW.weights
            simp only [hu]
            simpa using hwm))
          simpa using this
        · cases h
      · cases h
    · cases h
theorem open3F : ∀ (n : Nat) {off i0 : Nat} {l : List Field} {ks : List Kd3} {cs : List Value} {fs : Array Field} {m : Nat} {xs : List (DataW H × List MemPlace)},
    fields3 P n off l = some ks → l = fs.toList.drop i0 → xs.length = fs.size →
    (∀ (i : Nat) (f : Field), fs[i]? = some f → DataW.trod enc P W 0 (fun _ => true) true m f.type ((cs.drop f.offset).take (P.cellsOf f.type)) = xs[i]?) → off + ks.length = cs.length →
    (∀ w ∈ DataW.weightsEach P (l.map (·.type)) ((xs.drop i0).map (·.1)), w ≤ reachBytes) → ∃ svs, @DenL ⟨W⟩ [] svs (cs.drop off) ∧ Good3 ks svs
  | 0, _, _, _, _, _, _, _, _, h, _, _, _, _, _ => by simp [fields3] at h
  | n + 1, off, i0, [], ks, cs, fs, m, xs, h, hl, hxl, hf, hc, hw => by
    simp only [fields3] at h
    cases h
    refine ⟨[], ?_, rfl⟩
    rw [List.drop_eq_nil_of_le (by simp at hc; omega)]
    rfl
  | n + 1, off, i0, f :: l, ks, cs, fs, m, xs, h, hl, hxl, hf, hc, hw => by
    letI : CWorld := ⟨W⟩
    simp only [fields3] at h
    split at h
    · rename_i k1 k2 h1 h2
      split at h
      · rename_i hcond
        obtain ⟨ho, hk⟩ := hcond
        cases h
        have hi : fs[i0]? = some f := by
          have h0 := congrArg (fun l => l[0]?) hl
          simp at h0
          exact h0.symm
        have hlt : i0 < xs.length := by rw [hxl]; exact (Array.getElem?_eq_some_iff.1 hi).1
        have hx := hf i0 f hi
        rw [List.getElem?_eq_getElem hlt] at hx
        have hdrop : xs.drop i0 = xs[i0] :: xs.drop (i0 + 1) := List.drop_eq_getElem_cons hlt
        rw [hdrop] at hw
        simp only [List.map_cons, DataW.weightsEach, List.mem_append] at hw
        obtain ⟨s1, a1, g1⟩ := open3 n h1 hx (fun w hwm => hw w (.inl hwm))
        rw [ho] at a1
        have hl' : l = fs.toList.drop (i0 + 1) := by
          have := congrArg List.tail hl
          simpa using this
        simp only [List.length_append] at hc
        obtain ⟨s2, a2, g2⟩ := open3F n (i0 := i0 + 1) h2 hl' hxl hf (by omega) (fun w hwm => hw w (.inr hwm))
        have e : cs.drop off = (cs.drop off).take (P.cellsOf f.type) ++ cs.drop (off + P.cellsOf f.type) := by
          rw [← List.drop_drop, List.take_append_drop]
        rw [e]
        exact ⟨s1 ++ s2, denL_append a1 a2, good3_append g1 g2⟩
      · cases h
    · cases h
end
theorem open_agg3 {ts : List TypeId} {ds : List (DataW H)} {t : TypeId} {fs : Array Field} {v : Value} {d : DataW H} {ps : List MemPlace} {r : Reach} {b0 j : Nat} {n : Nat} {ks : List Kd3} (ht : P.underlying t = some (.struct fs)) (hk : kinds3 P n t = some ks)
    (hval : Value.okWide P W r b0 t v) (h : DataW.Trod enc P W 0 (fun _ => true) true t v d ps) (hsz : (DataW.weightsEach P ts ds).all (· ≤ reachBytes) = true) (hj : ts[j]? = some t) (hd : ds[j]? = some d) :
    ∃ svs, @Den ⟨W⟩ [] (.agg svs) v ∧ Good3 ks svs := by
  letI : CWorld := ⟨W⟩
  obtain ⟨cs, rfl, _⟩ := Go.WideShapes.okWide_struct ht hval
  obtain ⟨fuel, hf⟩ := h
  have hw : ∀ m ∈ d.weights P t, m ≤ reachBytes := fun m hm => by
    have := List.all_eq_true.1 hsz _ (DataW.weights_mem_each hj hd m hm)
    simpa using this
  obtain ⟨svs, h1, h2⟩ := open3 n hk hf hw
  exact ⟨svs, ⟨cs.toList, by simp, h1⟩, h2⟩
theorem open_slice3 {ts : List TypeId} {ds : List (DataW H)} {t e : TypeId} {v : Value} {d : DataW H} {ps : List MemPlace} {r : Reach} {b0 j : Nat} {n : Nat} {ks : List Kd3} (ht : P.underlying t = some (.slice e)) (hk : kinds3 P n t = some ks)
    (hval : Value.okWide P W r b0 t v) (h : DataW.Trod enc P W 0 (fun _ => true) true t v d ps) (hsz : (DataW.weightsEach P ts ds).all (· ≤ reachBytes) = true) (hj : ts[j]? = some t) (hd : ds[j]? = some d) :
    ∃ sv, @Den ⟨W⟩ [] sv v ∧ Good3 ks [sv] := by
  letI : CWorld := ⟨W⟩
  obtain ⟨a0, len0, cap0, rfl⟩ := Go.WideShapes.okWide_slice ht hval
  obtain ⟨fuel, hf⟩ := h
  have hw : ∀ m ∈ d.weights P t, m ≤ reachBytes := fun m hm => by
    have := List.all_eq_true.1 hsz _ (DataW.weights_mem_each hj hd m hm)
    simpa using this
  obtain ⟨svs, h1, h2⟩ := open3 n hk hf hw
  simp only [Value.cells] at h1
  have hl := denL_length h1
  match svs, hl, h1, h2 with
  | [sv], _, h1, h2 =>
    obtain ⟨u, _, e, hd, _⟩ := h1
    cases e
    exact ⟨sv, hd, h2⟩
  | [], hl, _, _ => simp at hl
  | _ :: _ :: _, hl, _, _ => simp at hl
end
end Go.Eng
set_option linter.unusedSimpArgs false
set_option linter.unusedVariables false
set_option linter.unusedSectionVars false
namespace Go.Eng
open Go.RowKit
variable [CW : CWorld]
theorem Since.grown {ρ0 : List Nat} {hp0 : List Blk} {w0 : World} {ρ : List Nat} {hp : List Blk} {w w' : World} {row : Option Nat} (S : Since ρ0 hp0 w0 ρ hp w) (g : w.grownBy w' row)
    (hr : ∀ r, row = some r → w0.heap.size ≤ r ∧ CW.w.heap.size ≤ r ∧ ∃ o : Obj, w.heap[r]? = some o ∧ o.isCells = false) : Since ρ0 hp0 w0 ρ hp w' := by
  have same : ∀ (n : Nat) (cs : Array Value) (t : TypeId) (fz : Nat × Nat), w.heap[n]? = some (.cells cs t fz) → w'.heap[n]? = w.heap[n]? := fun n cs t fz h => by
    refine g.block n (Array.getElem?_eq_some_iff.1 h).1 (fun e => ?_)
    obtain ⟨_, _, o, ho, hc⟩ := hr n e.symm
    rw [h] at ho
    cases ho
    cases hc
  exact {
    hok := {
      len := S.hok.len
      inj := S.hok.inj
      ok := fun i n b hi hn => by
        have h := S.hok.ok i n b hi hn
        cases b with
        | gone => trivial
        | mk t s =>
          obtain ⟨cs, fz, h1, h2⟩ := h
          exact ⟨cs, fz, fun hne => by obtain ⟨e1, e2⟩ := h1 hne; exact ⟨by rw [same n cs t fz e1]; exact e1, e2⟩, h2⟩
      cst := fun b hb => by
        rw [← S.hok.cst b hb]
        refine g.block b (Nat.lt_of_lt_of_le hb S.hok.cst.le) (fun e => ?_)
        have := (hr b e.symm).2.1
        omega
      above := S.hok.above }
    old := S.old
    new := S.new
    frame := fun b hb hno => by
      rw [← S.frame b hb hno]
      refine g.block b (Nat.lt_of_lt_of_le hb S.size) (fun e => ?_)
      have := (hr b e.symm).1
      omega
    size := Nat.le_trans S.size g.size
    tape := g.tape.trans S.tape
    os := g.os.trans S.os
    out := g.output.trans S.out }
theorem upon_in {P : Program} {n l : Nat} {o : Oper} {a : Act} {next : Act → World → Prop} {Q : Exit → Act → World → Prop} {r : Result Next} (h : o.upon P a next Q r) :
    o.uponIn (Fence.wide.inRound l) n P a next Q r := by
  cases r with
  | ok x w =>
    cases x with
    | value v => exact h
    | skip => exact h
    | defer d => exact h
    | enter f args => exact ⟨fun hd => (by simp [Fence.wide, Fence.inRound] at hd), CallsIn.inRound (F := Fence.wide) l (callsIn_wide.2 h)⟩
    | row row args => exact ⟨fun hd => (by simp [Fence.wide, Fence.inRound] at hd), fun c cs _ => let ⟨v, w', r, s⟩ := h c cs; ⟨v, w', r, stepsIn_wide.2 s⟩⟩
    | _ => exact h.elim
  | halt x w =>
    cases x with
    | panic v => exact h
    | _ => exact h.elim
theorem upon_mono {P : Program} {o : Oper} {a : Act} {next next' : Act → World → Prop} {Q : Exit → Act → World → Prop} (hn : ∀ a w, next a w → next' a w) {r : Result Next} (h : o.upon P a next Q r) : o.upon P a next' Q r := by
  cases r with
  | ok x w =>
    cases x with
    | value v => exact hn _ _ h
    | skip => exact hn _ _ h
    | defer d => exact hn _ _ h
    | enter f args =>
      refine Calls.mono (h : Calls P f args w _) fun e w2 hr => ?_
      cases e with
      | returned v => exact hn _ _ hr
      | panicked c => exact hr
      | outgrown => exact hr
    | row row args => exact Rows.mono (h : Rows P row args w _) fun v w2 hr => hn _ _ hr
    | _ => exact h.elim
  | halt x w =>
    cases x with
    | panic v => exact h
    | _ => exact h.elim
theorem wpListIn_of {P : Program} {n l : Nat} {ops : Array Oper} {Q : Exit → Act → World → Prop} (hQ : ¬ LetsOut Q) : ∀ (os : List Oper), (∀ o ∈ os, ∀ c, o.op ≠ .defer c) → ∀ (a : Act) (w : World), wpList P ops Q os a w → wpListIn (Fence.wide.inRound l) n P ops Q os a w
  | [], _, a, w, h => h
  | o :: os, hd, a, w, h => by
    have ih : ∀ (a : Act) (w : World), wpList P ops Q os a w → wpListIn (Fence.wide.inRound l) n P ops Q os a w := wpListIn_of hQ os (fun o ho => hd o (List.mem_cons_of_mem _ ho))
    unfold wpList at h
    unfold wpListIn
    split
    · rename_i hw
      rw [if_pos hw] at h
      rcases h with h | ⟨_, hl⟩
      · refine ⟨fun _ _ => trivial, ?_⟩
        unfold Oper.wp at h
        have hs : o.semAt (Fence.wide.inRound l).round a.eval = execOp a.eval o := Oper.semAt_some l _ o (hd o (by simp))
        rw [hs]
        exact upon_in (upon_mono ih h)
      · exact absurd hl hQ
    · rename_i hw
      rw [if_neg hw] at h
      exact ⟨fun _ _ => trivial, ih _ _ h⟩
theorem round_region {P : Program} {specs : Specs} (hsp : SpecsOK P specs) {n l id : Nat} {ops : Array Oper} {Q : Exit → Act → World → Prop} (hQ : ¬ LetsOut Q) (hd : ∀ o ∈ ops.toList, ∀ c, o.op ≠ .defer c)
    {ρ0 : List Nat} {hp0 : List Blk} {w0 : World} {K : List SV → List Blk → Prop} {ρ : List Nat} {w : World} {fr : List SV} {hp : List Blk} {a : Act} [DM : DMarks]
    (hK : ∀ (ρ : List Nat) (w : World) (fr : List SV) (hp : List Blk) (a : Act), Since ρ0 hp0 w0 ρ hp w → FrOK ρ fr a → K fr hp → Q .normal a w)
    (S : Since ρ0 hp0 w0 ρ hp w) (F : FrOK ρ fr a) (h : runList ar0 P specs (fun _ _ _ _ => False) ops.toList ops.toList fr hp K) :
    (Code.region id ops false).wpIn (Fence.wide.inRound l) n P Q a w := by
  refine wpIn_region_list (wpListIn_of hQ _ hd _ _ ?_)
  have := runList_sound hsp (inl := fun _ _ _ _ => False) (fun _ _ _ _ h => h.elim) (ops := ops.toList) (Q := Q) hK ops.toList ρ w fr hp a S F h
  simpa using this
def parts : Nat → Code → Code × Code
  | 0, .seq (.seq _ t1) t2 => (t1, t2)
  | n + 1, .seq _ b => parts n b
  | _, _ => (.skip, .skip)
noncomputable def runTo (ar : AR) (P : Program) (specs : Specs) (inv : Invs) (n : Nat) (f : FuncId) (m : Nat) (Kt : List SV → List Blk → Prop) (K : Exit → List SV → List Blk → Prop) : Nat → Code → List SV → List Blk → Prop
  | 0, c, fr, hp =>
    match c with
    | .seq (.seq r _) _ => run ar P specs inv n f m r fr hp fun e fr hp => match e with
      | .normal => Kt fr hp
      | e => K e fr hp
    | _ => False
  | k + 1, c, fr, hp =>
    match c with
    | .seq a b => run ar P specs inv n f m a fr hp fun e fr hp => match e with
      | .normal => runTo ar P specs inv n f m Kt K k b fr hp
      | e => K e fr hp
    | _ => False
theorem runTo_sound {P : Program} {specs : Specs} (hsp : SpecsOK P specs) {inv : Invs} [DM : DMarks] {f : FuncId} {ρ0 : List Nat} {hp0 : List Blk} {w0 : World} {Q : Exit → Act → World → Prop} {Kt : List SV → List Blk → Prop} {K : Exit → List SV → List Blk → Prop}
    (hpan : ∀ c a w, ¬ Q (.panic c) a w) {t1 t2 : Code}
    (hK : ∀ (e : Exit) (ρ : List Nat) (w : World) (fr : List SV) (hp : List Blk) (a : Act), e ≠ .normal → Since ρ0 hp0 w0 ρ hp w → FrOK ρ fr a → K e fr hp → Q e a w)
    (hKt : ∀ (ρ : List Nat) (w : World) (fr : List SV) (hp : List Blk) (a : Act), Since ρ0 hp0 w0 ρ hp w → FrOK ρ fr a → Kt fr hp → t1.wp P (Exit.then (t2.wp P Q) Q) a w) (n : Nat) : ∀ (k : Nat) (c : Code), parts k c = (t1, t2) →
    ∀ (ρ : List Nat) (w : World) (fr : List SV) (hp : List Blk) (a : Act), Since ρ0 hp0 w0 ρ hp w → FrOK ρ fr a → runTo ar0 P specs inv n f ρ0.length Kt K k c fr hp → c.wp P Q a w
  | 0, c, hp_, ρ, w, fr, hp, a, S, F, h => by
    unfold runTo at h
    split at h
    · rename_i r t1' t2'
      obtain ⟨rfl, rfl⟩ : t1' = t1 ∧ t2' = t2 := by simpa [parts] using hp_
      refine wp_seq (wp_seq (run_sound hsp n DM f ρ0 hp0 w0 r (Exit.then (t1'.wp P (Exit.then (t2'.wp P Q) Q)) (Exit.then (t2'.wp P Q) Q)) _ (fun c a w h => hpan c a w h) (fun e ρ w fr hp a S F h => ?_) ρ w fr hp a S F h))
      cases e with
      | normal => exact hKt ρ w fr hp a S F h
      | _ => exact hK _ ρ w fr hp a (by simp) S F h
    · exact h.elim
  | k + 1, c, hp_, ρ, w, fr, hp, a, S, F, h => by
    unfold runTo at h
    split at h
    · rename_i x y
      refine wp_seq (run_sound hsp n DM f ρ0 hp0 w0 x (Exit.then (y.wp P Q) Q) _ (fun c a w h => hpan c a w h) (fun e ρ w fr hp a S F h => ?_) ρ w fr hp a S F h)
      cases e with
      | normal => exact runTo_sound hsp hpan hK hKt n k y (by simpa [parts] using hp_) ρ w fr hp a S F h
      | _ => exact hK _ ρ w fr hp a (by simp) S F h
    · exact h.elim
theorem fin_results {P : Program} {S : Spec} {x : S.X} {fn : Func} [DM : DMarks] {ρ0 ρ : List Nat} {w0 w : World} {fr : List SV} {hp : List Blk} {a : Act} (hl : ρ0.length = (S.H x).length) (Sn : Since ρ0 (S.H x) w0 ρ hp w) (F : FrOK ρ fr a) {l : List SV} {vc : List Prop}
    (hr : resVals ar0 P hp fr fn.results.toList = some (l, vc)) (h : vcs vc (S.fin x (retSV l) hp)) :
    ∃ v, (results fn a.tmps).run P w = .ok v w ∧ ∃ (o : Out S.X) (y : o.Y x) (ρ' : List Nat), o ∈ S.outs ∧ o.post x y ∧ Den ρ' (o.R x y) v ∧ Since ρ0 (S.H x) w0 ρ' (o.H' x y) w := by
  obtain ⟨hv, hfin⟩ := vcs_iff.1 h
  obtain ⟨v, hrun, hdv⟩ := results_sound Sn.hok F hr hv
  obtain ⟨o, ho, y, hpost, hent⟩ := anyOuts_mem hfin
  unfold entails at hent
  split at hent
  · rename_i p hm
    rw [← hl] at hm
    obtain ⟨ρt, h1, h2⟩ := Sn.seen hm (vcs_iff.1 hent).1 (vs := [v]) ⟨v, [], rfl, hdv, rfl⟩
    simp only [DenL] at h2
    obtain ⟨u, _, hu, hd', rfl⟩ := h2
    cases hu
    exact ⟨v, hrun, o, y, ρt, ho, hpost, hd', h1⟩
  · exact hent.elim
end Go.Eng

