/- The executor: all that changes memory. -/
import Derived.Test.YtfcjboomlfjanaaDoorEngA
import Derived.Laws.Append
import Derived.Lib.ConvBytes
set_option linter.unusedVariables false
set_option linter.unusedSimpArgs false
/- The executor: rows of elements: as columns. -/
set_option linter.unusedSimpArgs false
set_option linter.unusedSectionVars false
namespace Go.Eng
variable [CW : CWorld]
variable (ar : AR)
def Col.sub (c : Col) (a n : Int) : Option (Col × List Prop) :=
  match c with
  | .ints k l => some (.ints k (ar.isub l a n), [ar.le (ar.add a n) (ar.ilen l)])
  | .strs l => some (.strs (ar.tsub l a n), [ar.le (ar.add a n) (ar.tlen l)])
  | .bools _ => none
def colsSub : List Col → Int → Int → Option (List Col × List Prop)
  | [], _, _ => some ([], [])
  | c :: cs, a, n =>
    match c.sub ar a n, colsSub cs a n with
    | some (c', p), some (cs', q) => some (c' :: cs', p ++ q)
    | _, _ => none
def Col.app (c d : Col) : Option Col :=
  match c, d with
  | .ints k l, .ints k' m => if k = k' then some (.ints k (ar.iapp l m)) else none
  | .strs l, .strs m => some (.strs (ar.tapp l m))
  | _, _ => none
def colsApp : List Col → List Col → Option (List Col)
  | [], [] => some []
  | c :: cs, d :: ds =>
    match c.app ar d, colsApp cs ds with
    | some e, some es => some (e :: es)
    | _, _ => none
  | _, _ => none
structure RowOK (n : Nat) (cols : List Col) (cs : List Value) : Prop where
  size : cs.length = n * cols.length
  len : ∀ c ∈ cols, c.len = n
  cell : ∀ (i j : Nat) (c : Col), cols[j]? = some c → i < n → cs[i * cols.length + j]? = some (c.at i)
theorem Col.at_flat (c : Col) (i : Nat) : (∀ l, c.at i ≠ .agg l) ∧ (∀ l, c.at i ≠ .tuple l) ∧ (c.at i).oneCell' = true := by
  cases c <;> exact ⟨(fun l h => by cases h), (fun l h => by cases h), rfl⟩
theorem RowOK.flat {n : Nat} {cols : List Col} {cs : List Value} (h : RowOK n cols cs) : ∀ v ∈ cs, (∀ l, v ≠ .agg l) ∧ (∀ l, v ≠ .tuple l) ∧ v.oneCell' = true := fun v hv => by
  obtain ⟨k, hk⟩ := List.getElem?_of_mem hv
  have hlt := (List.getElem?_eq_some_iff.1 hk).1
  have hpos : 0 < cols.length := by
    rcases Nat.eq_zero_or_pos cols.length with h0 | h0
    · rw [h.size, h0, Nat.mul_zero] at hlt; omega
    · exact h0
  have hj : k % cols.length < cols.length := Nat.mod_lt _ hpos
  have hi : k / cols.length < n := by rw [h.size] at hlt; exact (Nat.div_lt_iff_lt_mul hpos).2 hlt
  have := h.cell (k / cols.length) (k % cols.length) _ (List.getElem?_eq_getElem hj) hi
  have e : k / cols.length * cols.length + k % cols.length = k := by have := Nat.div_add_mod k cols.length; rw [Nat.mul_comm] at this; exact this
  rw [e, hk] at this
  cases this
  exact Col.at_flat _ _
theorem colsSub_sound {a n : Int} (ha : 0 ≤ a) (hn : 0 ≤ n) : ∀ {cols cols' : List Col} {vc : List Prop}, colsSub ar0 cols a n = some (cols', vc) → AllP vc →
    cols'.length = cols.length ∧ (∀ c ∈ cols', c.len = n.toNat) ∧ ∀ (j : Nat) (c : Col), cols'[j]? = some c → ∃ d, cols[j]? = some d ∧ a.toNat + n.toNat ≤ d.len ∧ ∀ i, i < n.toNat → c.at i = d.at (a.toNat + i)
  | [], cols', vc, h, hv => by
    simp only [colsSub, Option.some.injEq, Prod.mk.injEq] at h
    obtain ⟨rfl, rfl⟩ := h
    exact ⟨rfl, by simp, by simp⟩
  | c :: cs, cols', vc, h, hv => by
    simp only [colsSub] at h
    split at h
    · rename_i c' p cs' q h1 h2
      cases h
      obtain ⟨v1, v2⟩ := allP_append.1 hv
      obtain ⟨i1, i2, i3⟩ := colsSub_sound ha hn h2 v2
      have hc : c'.len = n.toNat ∧ a.toNat + n.toNat ≤ c.len ∧ ∀ i, i < n.toNat → c'.at i = c.at (a.toNat + i) := by
        unfold Col.sub at h1
        split at h1
        · rename_i k l
          cases h1
          simp only [AllP, ar0, and_true] at v1
          refine ⟨by simp only [Col.len, ar0, List.length_take, List.length_drop]; omega, by simp only [Col.len]; omega, fun i hi => ?_⟩
          simp only [Col.at, ar0, List.getD, List.getElem?_take, List.getElem?_drop, hi, if_true]
        · rename_i l
          cases h1
          simp only [AllP, ar0, and_true] at v1
          refine ⟨by simp only [Col.len, ar0, List.length_take, List.length_drop]; omega, by simp only [Col.len]; omega, fun i hi => ?_⟩
          simp only [Col.at, ar0, List.getD, List.getElem?_take, List.getElem?_drop, hi, if_true]
        · cases h1
      refine ⟨by simp [i1], ?_, ?_⟩
      · intro d hd
        rcases List.mem_cons.1 hd with e | e
        · subst e; exact hc.1
        · exact i2 d e
      · intro j d hd
        cases j with
        | zero => simp at hd; subst hd; exact ⟨c, rfl, hc.2⟩
        | succ j =>
          obtain ⟨e, he, h3⟩ := i3 j d (by simpa using hd)
          exact ⟨e, by simpa using he, h3⟩
    · cases h
theorem colsApp_sound : ∀ {a b c : List Col}, colsApp ar0 a b = some c → a.length = b.length ∧ c.length = a.length ∧
    ∀ (j : Nat) (z : Col), c[j]? = some z → ∃ x y, a[j]? = some x ∧ b[j]? = some y ∧ z.len = x.len + y.len ∧ (∀ i, i < x.len → z.at i = x.at i) ∧ ∀ i, z.at (x.len + i) = y.at i
  | [], [], c, h => by
    simp only [colsApp, Option.some.injEq] at h
    subst h
    exact ⟨rfl, rfl, by simp⟩
  | x :: a, y :: b, c, h => by
    simp only [colsApp] at h
    split at h
    · rename_i z zs h1 h2
      cases h
      obtain ⟨i1, i2, i3⟩ := colsApp_sound h2
      have hz : z.len = x.len + y.len ∧ (∀ i, i < x.len → z.at i = x.at i) ∧ ∀ i, z.at (x.len + i) = y.at i := by
        unfold Col.app at h1
        split at h1
        · split at h1
          · rename_i hk
            subst hk
            cases h1
            refine ⟨by simp [Col.len, ar0], fun i hi => ?_, fun i => ?_⟩
            · simp only [Col.len] at hi
              simp only [Col.at, ar0, List.getD, List.getElem?_append_left hi]
            · simp only [Col.len, Col.at, ar0, List.getD, List.getElem?_append_right (Nat.le_add_right _ _), Nat.add_sub_cancel_left]
          · cases h1
        · cases h1
          refine ⟨by simp [Col.len, ar0], fun i hi => ?_, fun i => ?_⟩
          · simp only [Col.len] at hi
            simp only [Col.at, ar0, List.getD, List.getElem?_append_left hi]
          · simp only [Col.len, Col.at, ar0, List.getD, List.getElem?_append_right (Nat.le_add_right _ _), Nat.add_sub_cancel_left]
        · cases h1
      refine ⟨by simp [i1], by simp [i2], ?_⟩
      intro j d hd
      cases j with
      | zero => simp at hd; subst hd; exact ⟨x, y, rfl, rfl, hz⟩
      | succ j => simpa using i3 j d (by simpa using hd)
    · cases h
  | [], _ :: _, c, h => by simp [colsApp] at h
  | _ :: _, [], c, h => by simp [colsApp] at h
theorem arr_append {a b n : Nat} {ca cb cc : List Col} {A B R : List Value} (hA : RowOK a ca A) (hB : RowOK b cb B) (hc : colsApp ar0 ca cb = some cc)
    (hn : (A ++ B ++ R).length = n * ca.length) (hle : a + b ≤ n) (hR : ∀ v ∈ R, (∀ l, v ≠ .agg l) ∧ (∀ l, v ≠ .tuple l)) : ArrOK n cc (A ++ B ++ R) := by
  obtain ⟨h1, h2, h3⟩ := colsApp_sound hc
  refine { size := by rw [hn, h2], le := ?_, cell := ?_, flat := ?_ }
  · intro z hz
    obtain ⟨j, hj⟩ := List.getElem?_of_mem hz
    obtain ⟨x, y, hx, hy, hlen, _⟩ := h3 j z hj
    rw [hlen, hA.len x (List.mem_of_getElem? hx), hB.len y (List.mem_of_getElem? hy)]
    exact hle
  · intro i j z hj hi
    obtain ⟨x, y, hx, hy, hlen, hz1, hz2⟩ := h3 j z hj
    have hxl := hA.len x (List.mem_of_getElem? hx)
    have hyl := hB.len y (List.mem_of_getElem? hy)
    have hj' := (List.getElem?_eq_some_iff.1 hx).1
    rw [h2, List.append_assoc]
    by_cases hia : i < a
    · have := hA.cell i j x hx hia
      rw [List.getElem?_append_left (List.getElem?_eq_some_iff.1 this).1, this, hz1 i (by omega)]
    · have hs : A.length = a * ca.length := hA.size
      have hge : A.length ≤ i * ca.length + j := by rw [hs]; have := Nat.mul_le_mul_right ca.length (Nat.le_of_not_lt hia); omega
      have e1 : i * ca.length + j - A.length = (i - a) * cb.length + j := by rw [hs, ← h1, Nat.sub_mul]; have := Nat.mul_le_mul_right ca.length (Nat.le_of_not_lt hia); omega
      rw [List.getElem?_append_right hge, e1]
      have := hB.cell (i - a) j y hy (by omega)
      rw [List.getElem?_append_left (List.getElem?_eq_some_iff.1 this).1, this]
      have := hz2 (i - a)
      rw [hxl, show a + (i - a) = i by omega] at this
      rw [this]
  · intro v hv
    rcases List.mem_append.1 hv with h | h
    · rcases List.mem_append.1 h with h | h
      · exact ⟨(hA.flat v h).1, (hA.flat v h).2.1⟩
      · exact ⟨(hB.flat v h).1, (hB.flat v h).2.1⟩
    · exact hR v h
theorem row_of_arr {n : Nat} {cols cols' : List Col} {cs : List Value} {a k : Int} {vc : List Prop} (h : ArrOK n cols cs) (ha : 0 ≤ a) (hk : 0 ≤ k) (hs : colsSub ar0 cols a k = some (cols', vc)) (hv : AllP vc)
    (hne : cols ≠ []) : a.toNat * cols.length + k.toNat * cols.length ≤ cs.length ∧ RowOK k.toNat cols' ((cs.drop (a.toNat * cols.length)).take (k.toNat * cols.length)) := by
  obtain ⟨h1, h2, h3⟩ := colsSub_sound ha hk hs hv
  have hle : a.toNat + k.toNat ≤ n := by
    cases hc : cols' with
    | nil => rw [hc] at h1; simp at h1; exact absurd (List.length_eq_zero_iff.1 (by omega)) hne
    | cons c r =>
      obtain ⟨d, hd, hd1, _⟩ := h3 0 c (by simp [hc])
      exact Nat.le_trans hd1 (h.le d (List.mem_of_getElem? hd))
  have hlen : a.toNat * cols.length + k.toNat * cols.length ≤ cs.length := by
    rw [h.size, ← Nat.add_mul]
    exact Nat.mul_le_mul_right _ hle
  refine ⟨hlen, { size := by rw [h1]; simp; omega, len := h2, cell := ?_ }⟩
  intro i j c hj hi
  obtain ⟨d, hd, hd1, hd2⟩ := h3 j c hj
  have hj' := (List.getElem?_eq_some_iff.1 hd).1
  rw [h1, List.getElem?_take, if_pos (by
    calc i * cols.length + j < i * cols.length + cols.length := by omega
      _ = (i + 1) * cols.length := by rw [Nat.add_mul, Nat.one_mul]
      _ ≤ k.toNat * cols.length := Nat.mul_le_mul_right _ hi), List.getElem?_drop]
  have := h.cell (a.toNat + i) j d hd (by omega)
  rw [Nat.add_mul] at this
  rw [show a.toNat * cols.length + (i * cols.length + j) = a.toNat * cols.length + i * cols.length + j by omega, this, hd2 i hi]
end Go.Eng
/- The executor: where the elements of a slice or a string come from. -/
set_option linter.unusedSimpArgs false
set_option linter.unusedSectionVars false
namespace Go.Eng
variable [CW : CWorld]
variable (ar : AR)
def segArr : List Seg → Off → Option (List Col × Int)
  | .one _ :: s, .l (b + 1) => segArr s (.l b)
  | .one _ :: s, .x (b + 1) sz e sub => segArr s (.x b sz e sub)
  | .arr n cols :: s, .l b =>
    match cols.length with
    | 0 => none
    | c + 1 =>
      match n with
      | .l k => if b ≤ k.toNat * (c + 1) then (if b % (c + 1) = 0 then some (cols, ((b / (c + 1) : Nat) : Int)) else none) else segArr s (.l (b - k.toNat * (c + 1)))
      | .x _ => if b % (c + 1) = 0 then some (cols, ((b / (c + 1) : Nat) : Int)) else none
  | .arr _ cols :: _, .x 0 sz e 0 => if sz = cols.length ∧ sz ≠ 0 then some (cols, e) else none
  | _, _ => none
theorem segArr_sound {ρ : List Nat} : ∀ {segs : List Seg} {cs : List Value} {o : Off} {cols : List Col} {e : Int}, SegsOK ρ segs cs → segArr segs o = some (cols, e) →
    ∃ (n d : Nat) (a : List Value), ArrOK n cols a ∧ cols ≠ [] ∧ o.val = d + e.toNat * cols.length ∧ ∀ i, i < a.length → cs[d + i]? = a[i]?
  | [], cs, o, cols, e, hs, h => by simp [segArr] at h
  | .one v :: s, cs, o, cols, e, hs, h => by
    simp only [SegsOK] at hs
    obtain ⟨c, cs', rfl, hc, hs⟩ := hs
    match o, h with
    | .l 0, h => simp [segArr] at h
    | .l (b + 1), h =>
      obtain ⟨n, d, a, h1, h2, h3, h4⟩ := segArr_sound hs (by simpa only [segArr] using h)
      refine ⟨n, d + 1, a, h1, h2, by simp only [Off.val] at h3 ⊢; omega, fun i hi => ?_⟩
      rw [show d + 1 + i = (d + i) + 1 by omega]
      simpa using h4 i hi
    | .x 0 _ _ _, h => simp [segArr] at h
    | .x (b + 1) sz e' sub, h =>
      obtain ⟨n, d, a, h1, h2, h3, h4⟩ := segArr_sound hs (by simpa only [segArr] using h)
      refine ⟨n, d + 1, a, h1, h2, by simp only [Off.val] at h3 ⊢; omega, fun i hi => ?_⟩
      rw [show d + 1 + i = (d + i) + 1 by omega]
      simpa using h4 i hi
  | .arr n cols' :: s, cs, o, cols, e, hs, h => by
    simp only [SegsOK] at hs
    obtain ⟨a, b', rfl, ha, hs⟩ := hs
    have here : cols = cols' → cols' ≠ [] → o.val = e.toNat * cols'.length →
        ∃ (n d : Nat) (a1 : List Value), ArrOK n cols a1 ∧ cols ≠ [] ∧ o.val = d + e.toNat * cols.length ∧ ∀ i, i < a1.length → (a ++ b')[d + i]? = a1[i]? := fun hc hne ho => by
      subst hc
      exact ⟨_, 0, a, ha, hne, by omega, fun i hi => by rw [Nat.zero_add, List.getElem?_append_left hi]⟩
    match o, h with
    | .l b, h =>
      simp only [segArr] at h
      split at h
      · cases h
      · rename_i c hc
        have hne : cols' ≠ [] := fun e => by rw [e] at hc; cases hc
        have hdiv : b / (c + 1) * (c + 1) + b % (c + 1) = b := by have := Nat.div_add_mod b (c + 1); rw [Nat.mul_comm] at this; exact this
        cases n with
        | l k =>
          simp only at h
          split at h
          · split at h
            · rename_i hm
              cases h
              exact here rfl hne (by rw [Int.toNat_natCast, hc]; simp only [Off.val]; rw [hm, Nat.add_zero] at hdiv; exact hdiv.symm)
            · cases h
          · rename_i hge
            obtain ⟨n, d, a1, h1, h2, h3, h4⟩ := segArr_sound hs h
            have hz : a.length = k.toNat * (c + 1) := by rw [ha.size, hc]; rfl
            refine ⟨n, a.length + d, a1, h1, h2, ?_, fun i hi => ?_⟩
            · simp only [Off.val] at h3 ⊢
              have := Nat.add_sub_cancel' (Nat.le_of_not_le hge)
              omega
            · rw [List.getElem?_append_right (by omega), show a.length + d + i - a.length = d + i by omega]
              exact h4 i hi
        | x k =>
          simp only at h
          split at h
          · rename_i hm
            cases h
            exact here rfl hne (by rw [Int.toNat_natCast, hc]; simp only [Off.val]; rw [hm, Nat.add_zero] at hdiv; exact hdiv.symm)
          · cases h
    | .x 0 sz e' 0, h =>
      simp only [segArr] at h
      split at h
      · rename_i hc
        cases h
        obtain ⟨rfl, h0⟩ := hc
        exact here rfl (fun e => h0 (by rw [e]; rfl)) (by simp [Off.val])
      · cases h
    | .x (b + 1) _ _ _, h => simp [segArr] at h
    | .x 0 _ _ (sub + 1), h => simp [segArr] at h
def consCol : SV → Col → Option Col
  | .int k z, .ints k' l => if k = k' then some (.ints k (z.val :: l)) else none
  | .str s, .strs l => some (.strs (s :: l))
  | _, _ => none
def consCols : List SV → List Col → Option (List Col)
  | [], [] => some []
  | v :: vs, c :: cs =>
    match consCol v c, consCols vs cs with
    | some d, some ds => some (d :: ds)
    | _, _ => none
  | _, _ => none
def rowsOf (zc : List Col) : Nat → List SV → Option (List Col)
  | 0, [] => some zc
  | 0, _ :: _ => none
  | n + 1, vs =>
    match rowsOf zc n (vs.drop zc.length) with
    | some cols => consCols (vs.take zc.length) cols
    | none => none
def emptyC : List Col → Bool
  | [] => true
  | c :: l => c.len == 0 && emptyC l
theorem emptyC_sound : ∀ {l : List Col}, emptyC l = true → ∀ c ∈ l, c.len = 0
  | [], h, c, hc => by cases hc
  | d :: l, h, c, hc => by
    simp only [emptyC, Bool.and_eq_true, beq_iff_eq] at h
    rcases List.mem_cons.1 hc with e | e
    · subst e; exact h.1
    · exact emptyC_sound h.2 c e
theorem consCols_sound {ρ : List Nat} : ∀ {vs : List SV} {us : List Value} {cols ds : List Col}, DenL ρ vs us → consCols vs cols = some ds →
    ds.length = cols.length ∧ us.length = cols.length ∧ ∀ (j : Nat) (d : Col), ds[j]? = some d → ∃ c, cols[j]? = some c ∧ d.len = c.len + 1 ∧ us[j]? = some (d.at 0) ∧ ∀ i, d.at (i + 1) = c.at i
  | [], us, [], ds, hd, h => by
    simp only [consCols, Option.some.injEq] at h
    simp only [DenL] at hd
    subst h hd
    exact ⟨rfl, rfl, by simp⟩
  | v :: vs, us, c :: cols, ds, hd, h => by
    simp only [consCols] at h
    split at h
    · rename_i d ds' h1 h2
      cases h
      simp only [DenL] at hd
      obtain ⟨u, us', rfl, hu, hd'⟩ := hd
      obtain ⟨i1, i2, i3⟩ := consCols_sound hd' h2
      refine ⟨by simp [i1], by simp [i2], ?_⟩
      intro j e he
      cases j with
      | zero =>
        simp at he
        subst he
        unfold consCol at h1
        split at h1
        · split at h1
          · rename_i hk
            subst hk
            cases h1
            simp only [Den] at hu
            subst hu
            exact ⟨_, rfl, by simp [Col.len], by simp [Col.at], fun i => by simp [Col.at]⟩
          · cases h1
        · cases h1
          simp only [Den] at hu
          subst hu
          exact ⟨_, rfl, by simp [Col.len], by simp [Col.at], fun i => by simp [Col.at]⟩
        · cases h1
      | succ j => simpa using i3 j e (by simpa using he)
    · cases h
  | [], us, _ :: _, ds, hd, h => by simp [consCols] at h
  | _ :: _, us, [], ds, hd, h => by simp [consCols] at h
theorem rowsOf_sound {ρ : List Nat} {zc : List Col} (hz : emptyC zc = true) : ∀ {n : Nat} {vs : List SV} {us : List Value} {cols : List Col}, DenL ρ vs us → rowsOf zc n vs = some cols →
    cols.length = zc.length ∧ RowOK n cols us
  | 0, [], us, cols, hd, h => by
    simp only [rowsOf, Option.some.injEq] at h
    simp only [DenL] at hd
    subst h hd
    exact ⟨rfl, { size := by simp, len := emptyC_sound hz, cell := fun i j c hj hi => by omega }⟩
  | 0, _ :: _, us, cols, hd, h => by simp [rowsOf] at h
  | n + 1, vs, us, cols, hd, h => by
    simp only [rowsOf] at h
    split at h
    · rename_i cols' h1
      obtain ⟨i1, i2⟩ := rowsOf_sound hz (denL_drop zc.length hd) h1
      obtain ⟨j1, j2, j3⟩ := consCols_sound (denL_take zc.length hd) h
      have hl1 := i2.size
      rw [i1] at j2 hl1
      simp only [List.length_take, List.length_drop] at j2 hl1
      have hlen : us.length = (n + 1) * zc.length := by rw [Nat.add_mul, Nat.one_mul]; omega
      refine ⟨by rw [j1, i1], { size := by rw [j1, i1, hlen], len := ?_, cell := ?_ }⟩
      · intro d hdm
        obtain ⟨j, hj⟩ := List.getElem?_of_mem hdm
        obtain ⟨c, hc, hlen', _⟩ := j3 j d hj
        rw [hlen', i2.len c (List.mem_of_getElem? hc)]
      · intro i j d hj hi
        obtain ⟨c, hc, _, h0, hs⟩ := j3 j d hj
        have hjz : j < zc.length := by rw [← i1]; exact (List.getElem?_eq_some_iff.1 hc).1
        rw [j1, i1]
        cases i with
        | zero =>
          rw [Nat.zero_mul, Nat.zero_add]
          rw [List.getElem?_take, if_pos hjz] at h0
          exact h0
        | succ i =>
          have := i2.cell i j c hc (by omega)
          rw [i1, List.getElem?_drop] at this
          rw [Nat.add_mul, Nat.one_mul, show i * zc.length + zc.length + j = zc.length + (i * zc.length + j) by omega, this, hs i]
    · cases h
def zeroCols : List SV → Option (List Col)
  | [] => some []
  | .int k _ :: l => (zeroCols l).map fun r => .ints k [] :: r
  | .str _ :: l => (zeroCols l).map fun r => .strs [] :: r
  | _ => none
def elemCols (P : Program) (elem : TypeId) : Option (List Col) :=
  match zeroCs P elem with
  | some z => zeroCols z
  | none => none
theorem zeroCols_empty : ∀ {l : List SV} {r : List Col}, zeroCols l = some r → emptyC r = true ∧ r.length = l.length
  | [], r, h => by simp only [zeroCols, Option.some.injEq] at h; subst h; exact ⟨rfl, rfl⟩
  | a :: l, r, h => by
    unfold zeroCols at h
    split at h
    · rename_i he; cases he
    · rename_i he
      cases he
      simp only [Option.map_eq_some_iff] at h
      obtain ⟨r', hr, rfl⟩ := h
      obtain ⟨h1, h2⟩ := zeroCols_empty hr
      exact ⟨by simp [emptyC, Col.len, h1], by simp [h2]⟩
    · rename_i he
      cases he
      simp only [Option.map_eq_some_iff] at h
      obtain ⟨r', hr, rfl⟩ := h
      obtain ⟨h1, h2⟩ := zeroCols_empty hr
      exact ⟨by simp [emptyC, Col.len, h1], by simp [h2]⟩
    · cases h
def rowAt (zc : List Col) (segs : List Seg) (o : Off) (n : Z) : Option (List Col × List Prop) :=
  match segArr segs o with
  | some (cols, e) =>
    if cols.length = zc.length then
      match colsSub ar cols e n.val with
      | some (c, vc) => some (c, nonneg ar (.x e) ++ vc)
      | none => none
    else none
  | none =>
    match n with
    | .l k =>
      match segGetN ar segs o (k.toNat * zc.length) with
      | some (vs, vc) => match rowsOf zc k.toNat vs with
        | some c => some (c, vc)
        | none => none
      | none => none
    | .x _ => none
theorem rowAt_sound {ρ : List Nat} {zc : List Col} (hz : emptyC zc = true) {segs : List Seg} {cs : List Value} {o : Off} {n : Z} {cols : List Col} {vc : List Prop} (hs : SegsOK ρ segs cs)
    (h : rowAt ar0 zc segs o n = some (cols, vc)) (hn : 0 ≤ n.val) (hv : AllP vc) :
    ∃ r, RowOK n.val.toNat cols r ∧ cols.length = zc.length ∧ ∀ j v, r[j]? = some v → cs[o.val + j]? = some v := by
  unfold rowAt at h
  split at h
  · rename_i cols' e ha
    split at h
    · rename_i hlen
      split at h
      · rename_i c vc' hsub
        cases h
        obtain ⟨v1, v2⟩ := allP_append.1 hv
        have he := nonneg_sound v1
        simp only [zx] at he
        obtain ⟨m, d, a, h1, h2, h3, h4⟩ := segArr_sound hs ha
        obtain ⟨h5, h6⟩ := row_of_arr h1 he hn hsub v2 h2
        obtain ⟨h7, _, _⟩ := colsSub_sound he hn hsub v2
        refine ⟨_, h6, by rw [h7, hlen], fun j v hj => ?_⟩
        rw [List.getElem?_take] at hj
        split at hj
        · rename_i hjl
          rw [List.getElem?_drop] at hj
          rw [h3, Nat.add_assoc, h4 _ (List.getElem?_eq_some_iff.1 hj).1, hj]
        · cases hj
      · cases h
    · cases h
  · split at h
    · rename_i k
      split at h
      · rename_i vs vc' hg
        split at h
        · rename_i c hr
          cases h
          obtain ⟨us, hus, hlen, hcell⟩ := segGetN_sound hs hg hv
          obtain ⟨h1, h2⟩ := rowsOf_sound hz hus hr
          exact ⟨us, h2, h1, hcell⟩
        · cases h
      · cases h
    · cases h
def srcRow (hp : List Blk) (zc : List Col) (x : SV) (n : Z) : Option (List Col × List Prop) :=
  match n with
  | .l 0 => some (zc, [])
  | n =>
    match x with
    | .slc m o _ _ =>
      match hp[m]? with
      | some (.mk _ segs) => rowAt ar zc segs o n
      | _ => none
    | .cs cols _ _ => if cols.length = zc.length then colsSub ar cols 0 n.val else none
    | .str s =>
      match zc with
      | [.ints .u8 []] => some ([.ints .u8 (ar.isub (ar.ints s) 0 n.val)], [])
      | _ => none
    | _ => none
def lenSV : SV → Option Z
  | .slc _ _ len _ => some len
  | .nslc => some (.l 0)
  | .cs _ len _ => some len
  | .str s => some (.x (ar.slen s))
  | _ => none
theorem lenSV_sound {ρ : List Nat} {x : SV} {v : Value} {n : Z} (h : lenSV ar0 x = some n) (hd : Den ρ x v) (P : Program) (w : World) :
    (Builtin.lenOf v).run P w = .ok n.val.toNat w ∧ 0 ≤ n.val := by
  unfold lenSV at h
  split at h
  · cases h
    simp only [Den] at hd
    obtain ⟨off, b, _, rfl, h0, _⟩ := hd
    exact ⟨rfl, h0⟩
  · cases h
    simp only [Den] at hd
    subst hd
    exact ⟨rfl, by simp [zl]⟩
  · cases h
    simp only [Den] at hd
    obtain ⟨a, rfl, h0, _⟩ := hd
    exact ⟨rfl, h0⟩
  · cases h
    simp only [Den] at hd
    subst hd
    refine ⟨?_, by simp [zx, ar0]⟩
    simp [Builtin.lenOf, zx, ar0, ByteArray.size]
  · cases h
theorem srcRow_sound {P : Program} {ρ : List Nat} {hp : List Blk} {w : World} (H : HOK ρ hp w) {zc : List Col} (hz : emptyC zc = true) {x : SV} {v : Value} (hd : Den ρ x v) {m n : Z}
    (hm : lenSV ar0 x = some m) (hnm : n.val ≤ m.val) {cols : List Col} {vc : List Prop} (h : srcRow ar0 hp zc x n = some (cols, vc)) (hn : 0 ≤ n.val) (hv : AllP vc) :
    ∃ r, RowOK n.val.toNat cols r ∧ cols.length = zc.length ∧ (Builtin.firstCells zc.length n.val.toNat v).run P w = .ok r.toArray w := by
  have zero : n.val.toNat = 0 → (∃ l, lenSV ar0 x = some l) → (Builtin.firstCells zc.length 0 v).run P w = .ok #[] w := fun _ _ => by
    unfold lenSV at hm
    split at hm
    · simp only [Den] at hd
      obtain ⟨off, b, _, rfl, _⟩ := hd
      cases off <;> simp [Builtin.firstCells, loadCells, loadCellsFrom]
    · simp only [Den] at hd
      subst hd
      simp [Builtin.firstCells]
    · simp only [Den] at hd
      obtain ⟨a, rfl, _⟩ := hd
      cases a <;> simp [Builtin.firstCells, loadCells, loadCellsFrom]
    · simp only [Den] at hd
      subst hd
      simp [Builtin.firstCells]
    · cases hm
  unfold srcRow at h
  split at h
  · cases h
    refine ⟨[], { size := by simp [zl], len := fun c hc => by rw [emptyC_sound hz c hc]; simp [zl], cell := fun i j c hj hi => by simp [zl] at hi }, rfl, ?_⟩
    have := zero (by simp [zl]) ⟨_, hm⟩
    simpa [zl] using this
  · split at h
    · rename_i k o len cap
      split at h
      · rename_i t segs hb
        simp only [lenSV, Option.some.injEq] at hm
        subst hm
        simp only [Den] at hd
        obtain ⟨off, b, hbn, rfl, h0, h1, hoff⟩ := hd
        obtain ⟨cs, hs, cellw⟩ := blk_read H hb hbn
        obtain ⟨r, h2, h3, h4⟩ := rowAt_sound hz hs h hn hv
        refine ⟨r, h2, h3, ?_⟩
        have hrl := h2.size
        rw [h3] at hrl
        by_cases hc : cap.val = 0
        · have hr0 : r = [] := List.length_eq_zero_iff.1 (by rw [hrl, show n.val.toNat = 0 by omega, Nat.zero_mul])
          subst hr0
          rw [show n.val.toNat = 0 by omega]
          cases off <;> simp [Builtin.firstCells, loadCells, loadCellsFrom]
        · have ho := hoff hc
          subst ho
          have hrun := run_loadCells_list (P := P) w ⟨b, o.val, none⟩ r (fun j v hj => by
            rw [addr_add]; exact cellw w ⟨fun _ _ _ _ _ _ _ => rfl, H.cst⟩ _ _ (h4 j v hj))
          rw [hrl] at hrun
          simpa [Builtin.firstCells] using hrun
      · cases h
    · rename_i cs0 len cap
      split at h
      · rename_i hlz
        simp only [lenSV, Option.some.injEq] at hm
        subst hm
        simp only [Den] at hd
        obtain ⟨a, rfl, h0, h1, hpres⟩ := hd
        obtain ⟨h5, h6, h7⟩ := colsSub_sound (Int.le_refl 0) hn h hv
        let q := cs0.length
        refine ⟨(List.range (n.val.toNat * q)).map (fun x => (cols.getD (x % q) (.ints .u8 [])).at (x / q)), ?_, by rw [h5, hlz], ?_⟩
        · refine { size := by simp [h5, q], len := h6, cell := fun i j c hj hi => ?_ }
          have hjl : j < q := by have := (List.getElem?_eq_some_iff.1 hj).1; rw [h5] at this; exact this
          have hq : 0 < q := by omega
          have hlt : i * q + j < n.val.toNat * q := by
            have : (i + 1) * q ≤ n.val.toNat * q := Nat.mul_le_mul_right _ hi
            rw [Nat.add_mul, Nat.one_mul] at this
            omega
          rw [h5, List.getElem?_map, List.getElem?_range hlt]
          have e1 : (i * q + j) % q = j := by rw [Nat.add_comm, Nat.add_mul_mod_self_right]; exact Nat.mod_eq_of_lt hjl
          have e2 : (i * q + j) / q = i := by rw [Nat.add_comm, Nat.add_mul_div_right _ _ hq, Nat.div_eq_of_lt hjl, Nat.zero_add]
          simp only [Option.map_some, e1, e2, List.getD, hj, Option.getD_some]
        · by_cases hn0 : n.val.toNat = 0
          · rw [hn0]
            cases a <;> simp [Builtin.firstCells, loadCells, loadCellsFrom]
          · obtain ⟨ab, ao, rfl, hcell⟩ := hpres (by omega)
            have hrun := run_loadCells_list (P := P) w ⟨ab, ao, none⟩ ((List.range (n.val.toNat * q)).map (fun x => (cols.getD (x % q) (.ints .u8 [])).at (x / q))) (fun x v hj => by
              rw [List.getElem?_map] at hj
              have hx : x < n.val.toNat * q := by
                rcases Nat.lt_or_ge x (n.val.toNat * q) with h | h
                · exact h
                · rw [List.getElem?_eq_none (by simpa using h)] at hj; cases hj
              rw [List.getElem?_range hx] at hj
              simp only [Option.map_some, Option.some.injEq] at hj
              subst hj
              have hq : 0 < q := by rcases Nat.eq_zero_or_pos q with h | h; · rw [h] at hx; omega
                                    · exact h
              have hm1 : x % q < cols.length := by rw [h5]; exact Nat.mod_lt _ hq
              have hd1 : x / q < n.val.toNat := Nat.div_lt_of_lt_mul (by rw [Nat.mul_comm]; exact hx)
              obtain ⟨d, hd, _, hat⟩ := h7 (x % q) (cols[x % q]'hm1) (List.getElem?_eq_getElem hm1)
              have hc := ccell_cell H.cst (hcell (x / q) (x % q) d (by omega) hd)
              have hxe : x / q * q + x % q = x := by have := Nat.div_add_mod x q; rw [Nat.mul_comm] at this; exact this
              rw [addr_add]
              simp only [List.getD, List.getElem?_eq_getElem hm1, Option.getD_some]
              rw [hat _ hd1, Int.toNat_zero, Nat.zero_add, ← hc]
              congr 2
              show ao + x = ao + x / q * q + x % q
              omega)
            rw [List.length_map, List.length_range] at hrun
            simpa [Builtin.firstCells, q, hlz] using hrun
      · cases h
    · rename_i s
      split at h
      · cases h
        simp only [lenSV, Option.some.injEq] at hm
        subst hm
        simp only [Den] at hd
        subst hd
        simp only [zx, ar0] at hnm
        have hle : n.val.toNat ≤ s.length := by omega
        have hlen : ((s.map fun b : UInt8 => (b.toNat : Int)).take n.val.toNat).length = n.val.toNat := by simp; omega
        refine ⟨(s.take n.val.toNat).map fun b => .int .u8 b.toNat, { size := by simp; omega, len := fun c hc => ?_, cell := fun i j c hj hi => ?_ }, rfl, ?_⟩
        · simp at hc
          subst hc
          simpa [Col.len, ar0] using hlen
        · cases j with
          | zero =>
            simp at hj
            subst hj
            simp only [List.length_cons, List.length_nil, Nat.zero_add, Nat.mul_one, Nat.add_zero]
            simp only [Col.at, ar0, List.getElem?_map, List.getElem?_take, hi, if_true, List.getD, List.drop_zero, Int.toNat_zero]
            rw [List.getElem?_eq_getElem (show i < s.length by omega)]
            rfl
          | succ j => simp at hj
        · simp only [Builtin.firstCells, Sem.run_pure]
          congr 1
          apply Array.ext'
          rw [ByteArray.extract_mk]
          simp
      · cases h
    · cases h
end Go.Eng
/- The executor: copy, clear, make, literals of slices, bytes of a string. -/
set_option linter.unusedSimpArgs false
set_option linter.unusedSectionVars false
namespace Go.Eng
variable [CW : CWorld]
variable (ar : AR)
theorem Touch.of_heap {ρ : List Nat} {hp hp' : List Blk} {T : List Nat} {w w1 w' : World} (h : w1.heap = w.heap) (t : Touch ρ hp T w1 hp' w') : Touch ρ hp T w hp' w' :=
  ⟨t.keep, fun n b x h1 h2 h3 h4 => by rw [← h]; exact t.heap n b x h1 h2 h3 h4⟩
def putInts (k : IntKind) (new : List Int) (L : Z) : List Seg → Off → Option (List Seg × List Prop)
  | .arr n [.ints k' l] :: s, .l b =>
    match n with
    | .l m =>
      if b ≤ m.toNat then (if k' = k then some (.arr n [.ints k (ar.iover l b new)] :: s, [ar.le b (ar.ilen l), ar.le (ar.add b (ar.ilen new)) n.val]) else none)
      else match putInts k new L s (.l (b - m.toNat)) with
        | some (s', vc) => some (.arr n [.ints k' l] :: s', vc)
        | none => none
    | .x _ => if k' = k then some (.arr n [.ints k (ar.iover l b new)] :: s, [ar.le b (ar.ilen l), ar.le (ar.add b (ar.ilen new)) n.val]) else none
  | .arr n [.ints k' l] :: s, .x 0 1 e 0 =>
    if k' = k then some (.arr n [.ints k (ar.iover l e new)] :: s, [ar.le 0 e, ar.le e (ar.ilen l), ar.le (ar.add e (ar.ilen new)) n.val]) else none
  | .one v :: s, .l 0 =>
    match L with
    | .l m => match onesInts k m.toNat (.one v :: s) with
      | some (l, s') => some (.arr (.l m) [.ints k (ar.iover l 0 new)] :: s', [ar.le (ar.ilen new) m])
      | none => none
    | .x _ => none
  | .one v :: s, .l (b + 1) =>
    match putInts k new L s (.l b) with
    | some (s', vc) => some (.one v :: s', vc)
    | none => none
  | .one v :: s, .x (b + 1) sz e sub =>
    match putInts k new L s (.x b sz e sub) with
    | some (s', vc) => some (.one v :: s', vc)
    | none => none
  | _, _ => none
theorem overL_append_left {α : Type} : ∀ (vs a b : List α) (o : Nat), o + vs.length ≤ a.length → overL (a ++ b) o vs = overL a o vs ++ b
  | [], a, b, o, h => rfl
  | v :: vs, a, b, o, h => by
    simp only [List.length_cons] at h
    rw [overL, overL, List.set_append_left _ _ (by omega), overL_append_left vs _ b (o + 1) (by simp; omega)]
theorem overL_append_right {α : Type} : ∀ (vs a b : List α) (o : Nat), overL (a ++ b) (a.length + o) vs = a ++ overL b o vs
  | [], a, b, o => rfl
  | v :: vs, a, b, o => by
    rw [overL, overL, List.set_append_right _ _ (by omega), show a.length + o - a.length = o by omega]
    exact overL_append_right vs a (b.set o v) (o + 1)
theorem overL_get {α : Type} : ∀ (vs l : List α) (o i : Nat), o + vs.length ≤ l.length → (overL l o vs)[i]? = if o ≤ i ∧ i < o + vs.length then vs[i - o]? else l[i]?
  | [], l, o, i, h => by simp only [overL, List.length_nil, Nat.add_zero]; rw [if_neg (by omega)]
  | v :: vs, l, o, i, h => by
    simp only [List.length_cons] at h ⊢
    rw [overL, overL_get vs _ (o + 1) i (by simp; omega)]
    by_cases h1 : o + 1 ≤ i ∧ i < o + 1 + vs.length
    · rw [if_pos h1, if_pos (by omega), show i - o = (i - (o + 1)) + 1 by omega]; simp
    · rw [if_neg h1]
      by_cases h2 : i = o
      · subst h2; rw [if_pos (by omega), List.getElem?_set_self (by omega)]; simp
      · rw [if_neg (by omega), List.getElem?_set_ne (by omega)]
theorem arr_over {n : Nat} {k : IntKind} {l new : List Int} {a : List Value} {e : Int} (h : ArrOK n [.ints k l] a) (he : 0 ≤ e) (h1 : e.toNat ≤ l.length) (h2 : e.toNat + new.length ≤ n) :
    ArrOK n [.ints k (ar0.iover l e new)] (overL a e.toNat (new.map (Value.int k))) := by
  have hlen : a.length = n := by simpa using h.size
  have hover : (ar0.iover l e new).length = max l.length (e.toNat + new.length) := by simp [ar0]; omega
  refine { size := by rw [length_overL]; exact h.size, le := ?_, cell := ?_, flat := ?_ }
  · intro c hc
    simp at hc
    subst hc
    have := h.le _ (List.mem_singleton.2 rfl)
    simp only [Col.len] at this ⊢
    rw [hover]
    omega
  · intro i j c hj hi
    cases j with
    | succ j => simp at hj
    | zero =>
      simp at hj
      subst hj
      simp only [Col.len] at hi
      rw [hover] at hi
      simp only [List.length_cons, List.length_nil, Nat.zero_add, Nat.mul_one, Nat.add_zero]
      rw [overL_get _ _ _ _ (by simp; omega)]
      simp only [List.length_map]
      by_cases hc : e.toNat ≤ i ∧ i < e.toNat + new.length
      · rw [if_pos hc]
        simp only [Col.at, ar0, List.getD, List.getElem?_map]
        rw [List.getElem?_append_left (by simp; omega), List.getElem?_append_right (by simp; omega)]
        simp only [List.length_take, Nat.min_eq_left h1]
        rw [List.getElem?_eq_getElem (show i - e.toNat < new.length by omega)]
        rfl
      · rw [if_neg hc]
        have hil : i < l.length := by omega
        have := h.cell i 0 (.ints k l) rfl (by simpa [Col.len] using hil)
        simp only [List.length_cons, List.length_nil, Nat.zero_add, Nat.mul_one, Nat.add_zero] at this
        rw [this]
        simp only [Col.at, ar0, List.getD]
        congr 2
        by_cases hlt : i < e.toNat
        · rw [List.getElem?_append_left (by simp; omega), List.getElem?_append_left (by simp; omega), List.getElem?_take, if_pos hlt]
        · rw [List.getElem?_append_right (by simp; omega), List.getElem?_drop]
          congr 2
          simp
          omega
  · intro v hv
    obtain ⟨i, hi⟩ := List.getElem?_of_mem hv
    rw [overL_get _ _ _ _ (by simp; omega)] at hi
    split at hi
    · have := List.mem_of_getElem? hi
      obtain ⟨x, _, rfl⟩ := List.mem_map.1 this
      exact ⟨(fun l h => by cases h), (fun l h => by cases h)⟩
    · exact h.flat v (List.mem_of_getElem? hi)
theorem arr_of_ints {k : IntKind} (l : List Int) : ArrOK l.length [.ints k l] (l.map (Value.int k)) where
  size := by simp
  le := fun c hc => by simp at hc; subst hc; simp [Col.len]
  cell := fun i j c hj hi => by
    cases j with
    | zero =>
      simp at hj
      subst hj
      simp only [Col.len] at hi
      simp [Col.at, List.getD, List.getElem?_eq_getElem hi]
    | succ j => simp at hj
  flat := fun v hv => by
    obtain ⟨n, _, rfl⟩ := List.mem_map.1 hv
    exact ⟨(fun l h => by cases h), (fun l h => by cases h)⟩
theorem putInts_sound {ρ : List Nat} {k : IntKind} {new : List Int} {L : Z} : ∀ {segs segs' : List Seg} {cs : List Value} {o : Off} {vc : List Prop},
    SegsOK ρ segs cs → putInts ar0 k new L segs o = some (segs', vc) → AllP vc → o.val + new.length ≤ cs.length ∧ SegsOK ρ segs' (overL cs o.val (new.map (Value.int k)))
  | [], segs', cs, o, vc, hs, h, hv => by simp [putInts] at h
  | .one u :: s, segs', cs, o, vc, hs, h, hv => by
    have hs0 := hs
    simp only [SegsOK] at hs
    obtain ⟨c, cs', rfl, hc, hs⟩ := hs
    match o, h with
    | .l 0, h =>
      simp only [putInts] at h
      split at h
      · rename_i m
        split at h
        · rename_i l s' h1
          cases h
          obtain ⟨hl, cs2, hcs2, hs2⟩ := onesInts_sound h1 hs0
          simp only [AllP, ar0, and_true] at hv
          have hle : new.length ≤ l.length := by omega
          rw [hcs2]
          simp only [Off.val]
          refine ⟨by simp; omega, ?_⟩
          rw [overL_append_left _ _ _ _ (by simp; omega)]
          simp only [SegsOK]
          have := arr_over (arr_of_ints (k := k) l) (Int.le_refl 0) (Nat.zero_le _) (new := new) (by simpa using hle)
          rw [hl] at this
          exact ⟨_, cs2, rfl, by simpa [zl] using this, hs2⟩
        · cases h
      · cases h
    | .l (b + 1), h =>
      simp only [putInts] at h
      split at h
      · rename_i s' vc' hp
        cases h
        obtain ⟨h1, h2⟩ := putInts_sound hs hp hv
        simp only [Off.val] at h1 h2 ⊢
        refine ⟨by simp; omega, ?_⟩
        rw [show c :: cs' = [c] ++ cs' from rfl, show b + 1 = [c].length + b by simp; omega, overL_append_right]
        exact ⟨c, _, rfl, hc, h2⟩
      · cases h
    | .x 0 _ _ _, h => simp [putInts] at h
    | .x (b + 1) sz e sub, h =>
      simp only [putInts] at h
      split at h
      · rename_i s' vc' hp
        cases h
        obtain ⟨h1, h2⟩ := putInts_sound hs hp hv
        simp only [Off.val] at h1 h2 ⊢
        refine ⟨by simp; omega, ?_⟩
        rw [show c :: cs' = [c] ++ cs' from rfl, show b + 1 + e.toNat * sz + sub = [c].length + (b + e.toNat * sz + sub) by simp; omega, overL_append_right]
        exact ⟨c, _, rfl, hc, h2⟩
      · cases h
  | .arr n cols :: s, segs', cs, o, vc, hs, h, hv => by
    simp only [SegsOK] at hs
    obtain ⟨a, b', rfl, ha, hs⟩ := hs
    match cols, o, h with
    | [.ints k' l], .l b, h =>
      have hlen : a.length = n.val.toNat := by simpa using ha.size
      have fin : ∀ {vc' : List Prop}, AllP [ar0.le b (ar0.ilen l), ar0.le (ar0.add b (ar0.ilen new)) n.val] → k' = k →
          b + new.length ≤ (a ++ b').length ∧ SegsOK ρ (.arr n [.ints k (ar0.iover l b new)] :: s) (overL (a ++ b') b (new.map (Value.int k))) := fun {_} hv hk => by
        subst hk
        simp only [AllP, ar0, and_true] at hv
        obtain ⟨v1, v2⟩ := hv
        have h2 : b + new.length ≤ n.val.toNat := by omega
        refine ⟨by simp; omega, ?_⟩
        rw [overL_append_left _ _ _ _ (by simp; omega)]
        simp only [SegsOK]
        have := arr_over ha (e := (b : Int)) (Int.natCast_nonneg b) (by rw [Int.toNat_natCast]; omega) (new := new) (by rw [Int.toNat_natCast]; exact h2)
        rw [Int.toNat_natCast] at this
        exact ⟨_, b', rfl, this, hs⟩
      simp only [putInts] at h
      cases n with
      | l m =>
        simp only at h
        split at h
        · split at h
          · rename_i hk
            cases h
            exact fin (vc' := []) hv hk
          · cases h
        · rename_i hge
          split at h
          · rename_i s' vc' hp
            cases h
            obtain ⟨h1, h2⟩ := putInts_sound hs hp hv
            simp only [Off.val] at h1 h2 ⊢
            rw [zl] at hlen
            refine ⟨by simp; omega, ?_⟩
            rw [show b = a.length + (b - m.toNat) by omega, overL_append_right]
            exact ⟨a, _, rfl, ha, h2⟩
          · cases h
      | x m =>
        simp only at h
        split at h
        · rename_i hk
          cases h
          exact fin (vc' := []) hv hk
        · cases h
    | [.ints k' l], .x 0 1 e 0, h =>
      have hlen : a.length = n.val.toNat := by simpa using ha.size
      simp only [putInts] at h
      split at h
      · rename_i hk
        subst hk
        cases h
        simp only [AllP, ar0, and_true] at hv
        obtain ⟨v0, v1, v2⟩ := hv
        have h2 : e.toNat + new.length ≤ n.val.toNat := by omega
        simp only [Off.val, Nat.mul_one, Nat.zero_add, Nat.add_zero]
        refine ⟨by simp; omega, ?_⟩
        rw [overL_append_left _ _ _ _ (by simp; omega)]
        simp only [SegsOK]
        exact ⟨_, b', rfl, arr_over ha v0 (by omega) h2, hs⟩
      · cases h
def zmin : Z → Z → Z
  | .l a, .l b => .l (if b < a then b else a)
  | a, b => .x (ar.mn a.val b.val)
theorem zmin_val (a b : Z) : (zmin ar0 a b).val = if b.val < a.val then b.val else a.val := by
  cases a <;> cases b <;> rfl
def eCopy (P : Program) (hp : List Blk) (dT : TypeId) (dst src : SV) (K : SV → List Blk → List Nat → Prop) : Prop :=
  match P.underlying dT, dst, lenSV ar src with
  | some (.slice elem), .slc n o len _, some m =>
    match hp[n]?, elemCols P elem, szOf P elem with
    | some (.mk bt segs), some zc, some sz =>
      match decide (zc.length = sz), srcRow ar hp zc src (zmin ar m len) with
      | true, some ([.ints k new], vc) =>
        match putInts ar k new len segs o with
        | some (segs', vc') => vcs (vc ++ vc') (K (.int .i64 (zmin ar m len)) (hp.set n (.mk bt segs')) [n])
        | none => False
      | _, _ => False
    | _, _, _ => False
  | some (.slice elem), .nslc, some _ => match szOf P elem with
    | some _ => K (.int .i64 (.l 0)) hp []
    | none => False
  | _, _, _ => False
theorem elemCols_sound {P : Program} {elem : TypeId} {zc : List Col} (h : elemCols P elem = some zc) : emptyC zc = true ∧ ∃ z, zeroCs P elem = some z ∧ zc.length = z.length := by
  unfold elemCols at h
  split at h
  · rename_i z hz
    obtain ⟨h1, h2⟩ := zeroCols_empty h
    exact ⟨h1, z, hz, h2⟩
  · cases h
theorem copy_sem {P : Program} {w w' : World} {dT elem : TypeId} {ts : Array TypeId} {t : TypeId} {base : Option Addr} {dl cap m sz : Nat} {v : Value} {cells : Array Value}
    (hts : ts[0]? = some dT) (hu : P.underlying dT = some (.slice elem)) (hsz : szOf P elem = some sz) (hl : (Builtin.lenOf v).run P w = .ok m w)
    (hc : (Builtin.firstCells sz (Nat.min m dl) v).run P w = .ok cells w)
    (hs : (match base with | some a => storeCells a cells.toList | none => pure ()).run P w = .ok () w') :
    (Builtin.copy_ ts t #[.slice base dl cap, v]).run P w = .ok (goInt (Nat.min m dl)) w' := by
  unfold Builtin.copy_
  simp only [hts, List.getElem?_toArray, List.getElem?_cons_zero, List.getElem?_cons_succ, Sem.run_bind, run_underlying hu, Result.andThen_ok, hl, run_sizeOf hsz, hc]
  cases base with
  | none =>
    simp only [Sem.run_pure, Result.ok.injEq, true_and] at hs
    subst hs
    rfl
  | some a =>
    simp only at hs ⊢
    rw [Sem.run_bind, hs]
    rfl
theorem eCopy_sound {P : Program} {ρ : List Nat} {hp : List Blk} {w : World} (H : HOK ρ hp w) {o : Oper} {e : Operand → Value} {oa ox : Operand} {ts : Array TypeId} {dT : TypeId}
    (ho : o.op = .call { callee := .builtin .copy, args := #[oa, ox], argTypes := ts }) (hts : ts[0]? = some dT)
    {a x : SV} (ha : Den ρ a (e oa)) (hx : Den ρ x (e ox)) {K : SV → List Blk → List Nat → Prop} (h : eCopy ar0 P hp dT a x K) : EffOK P ρ hp w o e K := by
  have exec : ∀ {v : Value} {w' : World}, (Builtin.copy_ ts o.type #[e oa, e ox]).run P w = .ok v w' → (execOp e o).run P w = .ok (.value v) w' := fun {v w'} h => by
    simp only [execOp, ho, resolve, Sem.run_bind, Sem.run_pure, Result.andThen_ok, invoke, builtin]
    have : (#[oa, ox].map e) = #[e oa, e ox] := by simp
    rw [this, h]
    rfl
  unfold eCopy at h
  split at h
  · rename_i elem n off len cap m hu hlen
    split at h
    · rename_i bt segs zc sz hb hzc hsz
      split at h
      · rename_i k new vc hzs hsrc
        split at h
        · rename_i segs' vc' hput
          obtain ⟨hv, hK⟩ := vcs_iff.1 h
          obtain ⟨v1, v2⟩ := allP_append.1 hv
          obtain ⟨hemp, _⟩ := elemCols_sound hzc
          obtain ⟨hlrun, hm0⟩ := lenSV_sound hlen hx P w
          simp only [Den] at ha
          obtain ⟨off', b, hbn, hea, h0, h1, hoff⟩ := ha
          have hmin := zmin_val m len
          have hn0 : 0 ≤ (zmin ar0 m len).val := by rw [hmin]; split <;> omega
          obtain ⟨r, hr1, hr2, hr3⟩ := srcRow_sound (P := P) H hemp hx hlen (by rw [hmin]; split <;> omega) hsrc hn0 v1
          have hzs' : zc.length = sz := of_decide_eq_true hzs
          have hcnt : (zmin ar0 m len).val.toNat = Nat.min m.val.toNat len.val.toNat := by
            rw [hmin]
            show _ = min _ _
            split <;> omega
          have hone : r = new.map (Value.int k) := by
            have hrl := hr1.size
            have hnl := hr1.len _ (List.mem_singleton.2 rfl)
            simp only [List.length_cons, List.length_nil, Nat.zero_add, Nat.mul_one, Col.len] at hrl hnl
            apply List.ext_getElem?
            intro i
            by_cases hi : i < new.length
            · have := hr1.cell i 0 _ rfl (by omega)
              simp only [List.length_cons, List.length_nil, Nat.zero_add, Nat.mul_one, Nat.add_zero, Col.at, List.getD] at this
              rw [this]
              simp [List.getElem?_eq_getElem hi]
            · rw [List.getElem?_eq_none (by omega), List.getElem?_eq_none (by simp; omega)]
          have hnl := hr1.len _ (List.mem_singleton.2 rfl)
          simp only [Col.len] at hnl
          subst hone
          obtain ⟨cs, fz, hpres, hs⟩ := blk_cells H hb hbn
          obtain ⟨p1, p2⟩ := putInts_sound hs hput v2
          rw [hzs', hcnt] at hr3
          have hval : goInt (Nat.min m.val.toNat len.val.toNat) = .int .i64 (zmin ar0 m len).val := by
            unfold goInt
            rw [← hcnt, Int.toNat_of_nonneg hn0]
          by_cases hz : (zmin ar0 m len).val.toNat = 0
          · have hnil : new = [] := List.length_eq_zero_iff.1 (by omega)
            subst hnil
            refine ⟨_, goInt (Nat.min m.val.toNat len.val.toNat), _, ρ, .int .i64 (zmin ar0 m len), _, _, exec (by
              rw [hea]
              exact copy_sem (w' := w) hts hu hsz hlrun hr3 (by cases off' <;> simp [storeCells])), .inl rfl, hval, ?_, ?_, hK⟩
            · have p2' : SegsOK ρ segs' cs.toList := by simpa [overL] using p2
              exact Since.over0 H hb hbn ⟨cs, fz, hpres, p2'⟩ (fun ht => by simp only [Blk.there, ← segsOK_size p2', ← segsOK_size hs] at ht ⊢; exact ht)
            · exact ⟨fun i hi _ => List.getElem?_set_ne (fun e => hi (by simp [e])), fun _ _ _ _ _ _ _ => rfl⟩
          · have ho := hoff (by
              have := hmin
              have : (zmin ar0 m len).val ≤ len.val := by rw [hmin]; split <;> omega
              omega)
            subst ho
            have hne : new.map (Value.int k) ≠ [] := fun e => by
              have : new = [] := List.map_eq_nil_iff.1 e
              rw [this] at hnl
              simp at hnl
              omega
            have hcs : cs.size ≠ 0 := by simp at p1; omega
            obtain ⟨hheap, hfree⟩ := hpres hcs
            have hthere : segsSize segs ≠ 0 := by rw [← segsOK_size hs]; simpa using hcs
            have hrun := run_storeCells (P := P) (off := off.val) (new.map (Value.int k)) 0 w cs hheap hfree (by simp at p1 ⊢; omega) (fun v hv => by
              obtain ⟨x, _, rfl⟩ := List.mem_map.1 hv; rfl)
            rw [if_neg hne, Nat.add_zero] at hrun
            refine ⟨_, goInt (Nat.min m.val.toNat len.val.toNat), _, ρ, .int .i64 (zmin ar0 m len), _, _, exec (by
              rw [hea]
              exact copy_sem hts hu hsz hlrun hr3 (by simpa using hrun)), .inl rfl, hval,
              Since.over H hb hthere hbn (cs' := (overL cs.toList off.val (new.map (Value.int k))).toArray) (fz := fz) ?_ ?_, Touch.over H hb hthere hbn, hK⟩
            · simpa [length_overL] using hfree
            · simpa using p2
        · exact h.elim
      · exact h.elim
    · exact h.elim
  · rename_i elem m hu hlen
    obtain ⟨hlrun, hm0⟩ := lenSV_sound hlen hx P w
    simp only [Den] at ha
    have hmin0 : Nat.min m.val.toNat 0 = 0 := Nat.min_zero _
    have hzero : ∀ sz, (Builtin.firstCells sz 0 (e ox)).run P w = .ok #[] w := fun sz => by
      unfold lenSV at hlen
      split at hlen
      · simp only [Den] at hx
        obtain ⟨o2, b2, _, hx, _⟩ := hx
        rw [hx]
        first | (cases o2 <;> simp [Builtin.firstCells, loadCells, loadCellsFrom]) | simp [Builtin.firstCells, loadCells, loadCellsFrom]
      · simp only [Den] at hx
        rw [hx]
        simp [Builtin.firstCells]
      · simp only [Den] at hx
        obtain ⟨o2, hx, _⟩ := hx
        rw [hx]
        first | (cases o2 <;> simp [Builtin.firstCells, loadCells, loadCellsFrom]) | simp [Builtin.firstCells, loadCells, loadCellsFrom]
      · simp only [Den] at hx
        rw [hx]
        simp [Builtin.firstCells]
      · cases hlen
    obtain ⟨hszz, h⟩ : (∃ sz, szOf P elem = some sz) ∧ K (.int .i64 (.l 0)) hp [] := by
      split at h
      · exact ⟨⟨_, ‹_›⟩, h⟩
      · exact h.elim
    obtain ⟨sz, hsz⟩ := hszz
    refine ⟨_, .int .i64 0, w, ρ, .int .i64 (.l 0), _, _, exec (by
        rw [ha]
        have := copy_sem (w' := w) (t := o.type) (base := none) (dl := 0) (cap := 0) hts hu hsz hlrun (by rw [hmin0]; exact hzero _) (by simp)
        rw [hmin0] at this
        exact this), .inl rfl, rfl, Since.refl H, Touch.refl, h⟩
  · exact h.elim
end Go.Eng
/- The executor: append. -/
set_option linter.unusedSimpArgs false
set_option linter.unusedVariables false
set_option linter.unusedSectionVars false
namespace Go.Eng
variable [CW : CWorld]
variable (ar : AR)
theorem append_place {P : Program} {w w' : World} {sT xT elem : TypeId} {ts : Array TypeId} {t : TypeId} {base : Option Addr} {sLen sCap n sz : Nat} {v : Value} {cells : Array Value} {d : TypeDesc}
    (h0 : ts[0]? = some sT) (h1 : ts[1]? = some xT) (hu : P.underlying sT = some (.slice elem)) (hx : P.underlying xT = some d) (hd : ∀ k, d ≠ .int k) (hsz : szOf P elem = some sz)
    (hl : (Builtin.lenOf v).run P w = .ok n w) (hc : (Builtin.firstCells sz n v).run P w = .ok cells w) (hle : sLen + n ≤ sCap)
    (hs : (match base with | some a => storeCells (a.add (sLen * sz)) cells.toList | none => pure ()).run P w = .ok () w') :
    (Builtin.append_ ts t #[.slice base sLen sCap, v]).run P w = .ok (.slice base (sLen + n) sCap) w' := by
  have hz : (match d with | .int _ => true | _ => false) = false := by cases d <;> first | rfl | exact absurd rfl (hd _)
  unfold Builtin.append_
  simp only [h0, h1, List.getElem?_toArray, List.getElem?_cons_zero, List.getElem?_cons_succ, Sem.run_bind, run_underlying hu, Result.andThen_ok, run_sizeOf hsz, run_underlying hx, Sem.run_pure, hz,
    Bool.false_eq_true, if_false, hl, if_pos hle, Bool.not_false, if_true, hc]
  cases base with
  | none =>
    simp only [Sem.run_pure, Result.ok.injEq, true_and] at hs
    subst hs
    rfl
  | some a =>
    simp only at hs ⊢
    rw [Sem.run_bind, hs]
    rfl
theorem append_grow {P : Program} {w : World} {sT xT elem : TypeId} {ts : Array TypeId} {t : TypeId} {base : Option Addr} {sLen sCap n sz : Nat} {v : Value} {old cells : Array Value} {d : TypeDesc} {i : TypeInfo} {z : Value}
    (h0 : ts[0]? = some sT) (h1 : ts[1]? = some xT) (hu : P.underlying sT = some (.slice elem)) (hx : P.underlying xT = some d) (hd : ∀ k, d ≠ .int k) (hi : P.info? elem = some i) (hsz : i.size = sz) (hby : 0 < i.bytes) (hzero : i.zero = some z)
    (hl : (Builtin.lenOf v).run P w = .ok n w) (hnle : ¬ sLen + n ≤ sCap) (hroom : (sLen + n) * i.bytes ≤ 140737488355328)
    (ho : ∀ w' : World, w'.heap = w.heap → (Builtin.firstCells sz sLen (.slice base sLen sCap)).run P w' = .ok old w')
    (hc : ∀ w' : World, w'.heap = w.heap → (Builtin.firstCells sz n v).run P w' = .ok cells w') :
    ∃ c, sLen + n ≤ c ∧ (Builtin.append_ ts t #[.slice base sLen sCap, v]).run P w =
      .ok (.slice (some ⟨w.heap.size, 0, none⟩) (sLen + n) c)
        { w with drawn := w.drawn + 1, heap := w.heap.push (.cells (old ++ cells ++ Builtin.zeroCells z.cells (c - (sLen + n))) elem) } := by
  have hz : (match d with | .int _ => true | _ => false) = false := by cases d <;> first | rfl | exact absurd rfl (hd _)
  have hinfo : ∀ w' : World, (typeInfo elem).run P w' = .ok i w' := fun w' => by simp [typeInfo, hi]
  have hzv : ∀ w' : World, (zeroValue elem).run P w' = .ok z w' := fun w' => by simp [zeroValue, typeInfo, hi, hzero]
  have hfit := growslice_fits (need := sLen + n) (old := sCap) (bytes := i.bytes) (by omega) hroom
  have hq : (Question.appendCap (sLen + n) sCap elem).forced = false := rfl
  refine ⟨(Question.appendCap (sLen + n) sCap elem).cut (w.tape w.drawn (.appendCap (sLen + n) sCap elem)), Nat.le_add_right _ _, ?_⟩
  unfold Builtin.append_
  have hb0 : ¬ i.bytes = 0 := by omega
  simp only [h0, h1, List.getElem?_toArray, List.getElem?_cons_zero, List.getElem?_cons_succ, Sem.run_bind, run_underlying hu, Result.andThen_ok, run_sizeOf (show szOf P elem = some sz by simp [szOf, hi, hsz]), run_underlying hx, Sem.run_pure, hz,
    Bool.false_eq_true, if_false, hl, if_neg hnle, Bool.not_false, if_true, hinfo, hb0, or_self, and_false]
  rw [if_neg (by omega)]
  simp only [Sem.run_bind, run_choose, hq, Bool.false_eq_true, if_false, Result.andThen_ok, hinfo, run_askRoom]
  rw [ho { w with drawn := w.drawn + 1 } rfl, Result.andThen_ok, hc { w with drawn := w.drawn + 1 } rfl, Result.andThen_ok, hzv, Result.andThen_ok]
  rfl
theorem Since.rename {ρ : List Nat} {hp : List Blk} {w : World} (H : HOK ρ hp w) {i n : Nat} {t : TypeId} {s : List Seg} (hi : hp[i]? = some (.mk t s)) (hne : segsSize s ≠ 0) (hn : ρ[i]? = some n)
    {s' : List Seg} {cs' : Array Value} {fz : Nat × Nat} (hf : Free fz cs'.size) (hs : SegsOK ρ s' cs'.toList) :
    Since ρ hp w (ρ ++ [n]) (hp.set i .gone ++ [.mk t s']) { w with heap := w.heap.setIfInBounds n (.cells cs' t fz) } where
  hok := {
    len := by simp [H.len]
    inj := fun j k m x y hx hy gx gy hj hk => by
      have back : ∀ (j : Nat) (x : Blk), (hp.set i .gone ++ [Blk.mk t s'])[j]? = some x → x.there → (ρ ++ [n])[j]? = some m →
          (j < hp.length ∧ j ≠ i ∧ hp[j]? = some x ∧ ρ[j]? = some m) ∨ (j = hp.length ∧ m = n) := fun j x hx gx hj => by
        by_cases hlt : j < hp.length
        · left
          rw [List.getElem?_append_left (by simpa using hlt)] at hx
          rw [List.getElem?_append_left (by rw [H.len]; exact hlt)] at hj
          have hne : i ≠ j := fun e => by
            subst e
            rw [List.getElem?_set_self hlt] at hx
            cases hx
            exact gx.elim
          rw [List.getElem?_set_ne hne] at hx
          exact ⟨hlt, Ne.symm hne, hx, hj⟩
        · right
          rw [List.getElem?_append_right (by rw [H.len]; omega)] at hj
          have h1 := (List.getElem?_eq_some_iff.1 hj).1
          simp only [List.length_cons, List.length_nil, H.len] at h1
          have : j - ρ.length = 0 := by rw [H.len]; omega
          rw [this] at hj
          simp at hj
          exact ⟨by omega, hj.symm⟩
      rcases back j x hx gx hj with ⟨a1, a2, a3, a4⟩ | ⟨a1, a2⟩ <;> rcases back k y hy gy hk with ⟨b1, b2, b3, b4⟩ | ⟨b1, b2⟩
      · exact H.inj j k m x y a3 b3 gx gy a4 b4
      · subst b2
        exact absurd (H.inj j i m x _ a3 hi gx hne a4 hn) a2
      · subst a2
        exact absurd (H.inj k i m y _ b3 hi gy hne b4 hn) b2
      · omega
    ok := fun j m x hx hj => by
      by_cases hlt : j < hp.length
      · rw [List.getElem?_append_left (by simpa using hlt)] at hx
        rw [List.getElem?_append_left (by rw [H.len]; exact hlt)] at hj
        by_cases e : i = j
        · subst e
          rw [List.getElem?_set_self hlt] at hx
          cases hx
          trivial
        · rw [List.getElem?_set_ne e] at hx
          have h0 := (H.ok j m x hx hj).mono [n]
          cases x with
          | gone => trivial
          | mk t1 s1 =>
            refine h0.same fun ht => ?_
            have hnm : n ≠ m := fun heq => by
              subst heq
              exact e (H.inj i j n _ _ hi hx hne ht hn hj)
            simp [Array.getElem?_setIfInBounds, hnm]
      · rw [List.getElem?_append_right (by simp; omega)] at hx
        rw [List.getElem?_append_right (by rw [H.len]; omega)] at hj
        have h1 := (List.getElem?_eq_some_iff.1 hx).1
        simp only [List.length_cons, List.length_nil, List.length_set] at h1
        have e1 : j - (hp.set i .gone).length = 0 := by simp; omega
        have e2 : j - ρ.length = 0 := by rw [H.len]; omega
        rw [e1] at hx
        rw [e2] at hj
        simp at hx hj
        subst hx hj
        exact ⟨cs', fz, fun _ => ⟨by simp [H.lt hi hne hn], hf⟩, hs.mono [n]⟩
    cst := fun k hk => by
      have hnk : n ≠ k := by
        have := H.above i n _ hi hne hn
        omega
      simp only [Array.getElem?_setIfInBounds_ne hnk]
      exact H.cst k hk
    above := fun j m x hx gx hj => by
      by_cases hlt : j < hp.length
      · rw [List.getElem?_append_left (by simpa using hlt)] at hx
        rw [List.getElem?_append_left (by rw [H.len]; exact hlt)] at hj
        by_cases e : i = j
        · subst e
          rw [List.getElem?_set_self hlt] at hx
          cases hx
          exact gx.elim
        · rw [List.getElem?_set_ne e] at hx
          exact H.above j m x hx gx hj
      · rw [List.getElem?_append_right (by rw [H.len]; omega)] at hj
        have h1 := (List.getElem?_eq_some_iff.1 hj).2
        simp at h1
        have := H.above i n _ hi hne hn
        omega }
  old := ⟨_, rfl⟩
  new := fun m ⟨j, x, hx, gx, hj⟩ => by
    by_cases hlt : j < hp.length
    · rw [List.getElem?_append_left (by simpa using hlt)] at hx
      rw [List.getElem?_append_left (by rw [H.len]; exact hlt)] at hj
      by_cases e : i = j
      · subst e
        rw [List.getElem?_set_self hlt] at hx
        cases hx
        exact gx.elim
      · rw [List.getElem?_set_ne e] at hx
        exact .inr ⟨j, x, hx, gx, hj⟩
    · rw [List.getElem?_append_right (by rw [H.len]; omega)] at hj
      have h1 := (List.getElem?_eq_some_iff.1 hj).2
      simp at h1
      subst h1
      exact .inr ⟨i, _, hi, hne, hn⟩
  frame := fun b _ hnot => by
    have hnb : n ≠ b := fun heq => hnot ⟨i, _, hi, hne, heq ▸ hn⟩
    simp [Array.getElem?_setIfInBounds, hnb]
  size := by simp
  tape := rfl
  os := rfl
  out := rfl
theorem Since.rename0 {ρ : List Nat} {hp : List Blk} {w : World} (H : HOK ρ hp w) {i n : Nat} {b b' : Blk} (hi : hp[i]? = some b) (hn : ρ[i]? = some n)
    (hok : BlkOK ρ w n b') (ht : b'.there → b.there) : Since ρ hp w (ρ ++ [n]) (hp.set i .gone ++ [b']) w := by
  have h1 := Since.over0 H hi hn (b' := .gone) trivial (fun h => h.elim)
  refine Since.name' h1.hok hok (fun j x hx gx hj hb => ?_) (fun hb => H.above i n b hi (ht hb) hn) (fun hb => .inr ⟨i, b, hi, ht hb, hn⟩) (fun m hm => ?_)
  · by_cases e : i = j
    · subst e
      rw [List.getElem?_set_self (List.getElem?_eq_some_iff.1 hi).1] at hx
      cases hx
      exact gx
    rw [List.getElem?_set_ne e] at hx
    exact e (H.inj i j n _ _ hi hx (ht hb) gx hn hj)
  · obtain ⟨j, x, hx, gx, hj⟩ := hm
    by_cases e : i = j
    · subst e
      rw [List.getElem?_set_self (List.getElem?_eq_some_iff.1 hi).1] at hx
      cases hx
      exact gx.elim
    · rw [List.getElem?_set_ne e] at hx
      exact ⟨j, x, hx, gx, hj⟩
theorem Since.drop {ρ : List Nat} {hp : List Blk} {w : World} (H : HOK ρ hp w) (i : Nat) : Since ρ hp w ρ (hp.set i .gone) w := by
  by_cases h : i < hp.length
  · have hn : i < ρ.length := by rw [H.len]; exact h
    exact Since.over0 H (List.getElem?_eq_getElem h) (List.getElem?_eq_getElem hn) trivial (fun h => h.elim)
  · rw [List.set_eq_of_length_le (Nat.le_of_not_lt h)]
    exact Since.refl H
end Go.Eng
/- The executor: append, made whole. -/
set_option linter.unusedSimpArgs false
set_option linter.unusedVariables false
set_option linter.unusedSectionVars false
namespace Go.Eng
variable [CW : CWorld]
variable (ar : AR)
def bytesOf (P : Program) (t : TypeId) : Option Nat := (P.info? t).map (·.bytes)
def roomVC (n : Z) (by_ : Nat) : List Prop :=
  match n with
  | .l k => if k.toNat * by_ ≤ 140737488355328 then [] else [False]
  | .x k => [ar.le (ar.mul k by_) 140737488355328]
theorem roomVC_sound {n : Z} {b : Nat} (h0 : 0 ≤ n.val) (h : AllP (roomVC ar0 n b)) : n.val.toNat * b ≤ 140737488355328 := by
  cases n with
  | l k =>
    simp only [roomVC] at h
    split at h
    · simpa [Z.val]
    · simp [AllP] at h
  | x k =>
    simp only [roomVC, AllP, ar0, and_true] at h
    simp only [Z.val] at h0 ⊢
    have : ((k.toNat * b : Nat) : Int) = k * b := by rw [Int.natCast_mul, Int.toNat_of_nonneg h0]
    omega
def eAppend (P : Program) (hp : List Blk) (sT xT : TypeId) (s x : SV) (K : SV → List Blk → List Nat → Prop) : Prop :=
  match P.underlying sT, P.underlying xT, lenSV ar x with
  | some (.slice elem), some d, some m =>
    match (match d with | .int _ => false | _ => true), elemCols P elem, szOf P elem, bytesOf P elem with
    | true, some zc, some sz, some (by' + 1) =>
      match decide (zc.length = sz), decide (sz = 0), srcRow ar hp zc x m with
      | true, false, some (new, vc) =>
        match s with
        | .nslc =>
          match m with
          | .l 0 => K .nslc hp []
          | .l k => vcs (vc ++ roomVC ar m (by' + 1)) (∀ c : Int, ar.le k c → K (.slc hp.length (.l 0) m (.x c)) (hp ++ [.mk elem [.arr (.x c) new]]) [])
          | .x k => vcs (vc ++ roomVC ar m (by' + 1)) (∀ c : Int, ar.le k c → K (.slc hp.length (.l 0) m (.x c)) (hp ++ [.mk elem [.arr (.x c) new]]) [])
        | .slc n (.l 0) len cap =>
          match m with
          | .l 0 => K s hp []
          | m =>
            match hp[n]? with
            | some (.mk bt [.arr N cols]) =>
              match decide (bt = elem), decide (cols.length = sz), colsSub ar cols 0 len.val with
              | true, true, some (old, vc0) =>
                match colsApp ar old new, eqZ N cap with
                | some cc, some ve =>
                  vcs (vc ++ vc0 ++ ve ++ roomVC ar (addZ ar len m) (by' + 1))
                    (∀ c : Int, ar.le (addZ ar len m).val c → K (.slc hp.length (.l 0) (addZ ar len m) (.x c)) (hp.set n .gone ++ [.mk elem [.arr (.x c) cc]]) [n])
                | _, _ => False
              | _, _, _ => False
            | some (.mk bt segs) =>
              match rowAt ar zc segs (.l 0) len with
              | some (old, vc0) =>
                match colsApp ar old new, cap, addZ ar len m with
                | some cc, .l c0, .l nd =>
                  if c0 < nd then
                    vcs (vc ++ vc0 ++ roomVC ar (.l nd) (by' + 1))
                      (∀ c : Int, ar.le nd c → K (.slc hp.length (.l 0) (.l nd) (.x c)) (hp.set n .gone ++ [.mk elem [.arr (.x c) cc]]) [n])
                  else False
                | _, _, _ => False
              | none => False
            | _ => False
        | .slc n (.x o1 o2 o3 o4) len cap =>
          match srcRow ar hp zc (.slc n (.x o1 o2 o3 o4) len cap) len with
          | some (old, vc0) =>
            match colsApp ar old new with
            | some cc =>
              vcs (vc ++ vc0 ++ [ar.le (addZ ar cap (.l 1)).val (addZ ar len m).val] ++ roomVC ar (addZ ar len m) (by' + 1))
                (∀ c : Int, ar.le (addZ ar len m).val c → K (.slc hp.length (.l 0) (addZ ar len m) (.x c)) (hp ++ [.mk elem [.arr (.x c) cc]]) [])
            | none => False
          | none => False
        | _ => False
      | _, _, _ => False
    | _, _, _, _ => False
  | _, _, _ => False
theorem addZ_val (a b : Z) : (addZ ar0 a b).val = a.val + b.val := zbin_val (by intros; rfl) a b
theorem flat_zeroCells {z : Array Value} (hz : ∀ v ∈ z.toList, (∀ l, v ≠ .agg l) ∧ (∀ l, v ≠ .tuple l)) (hne : 0 < z.size) (n : Nat) :
    ∀ v ∈ (Builtin.zeroCells z n).toList, (∀ l, v ≠ .agg l) ∧ (∀ l, v ≠ .tuple l) := fun v hv => by
  simp only [Builtin.zeroCells, Array.toList_map, List.mem_map] at hv
  obtain ⟨i, _, rfl⟩ := hv
  have hlt : i % z.size < z.size := Nat.mod_lt _ hne
  refine hz _ ?_
  rw [getElem!_pos z _ hlt]
  simp
theorem zeroCols_flat {ρ : List Nat} : ∀ {l : List SV} {r : List Col} {vs : List Value}, zeroCols l = some r → DenL ρ l vs → ∀ v ∈ vs, (∀ l, v ≠ .agg l) ∧ (∀ l, v ≠ .tuple l)
  | [], r, vs, h, hd => by simp only [DenL] at hd; subst hd; simp
  | a :: l, r, vs, h, hd => by
    simp only [DenL] at hd
    obtain ⟨u, us, rfl, hu, hd⟩ := hd
    intro v hv
    unfold zeroCols at h
    split at h
    · rename_i he; cases he
    · rename_i he
      cases he
      simp only [Option.map_eq_some_iff] at h
      obtain ⟨r', hr, rfl⟩ := h
      rcases List.mem_cons.1 hv with e | e
      · subst e
        simp only [Den] at hu
        subst hu
        exact ⟨(fun l h => by cases h), (fun l h => by cases h)⟩
      · exact zeroCols_flat hr hd v e
    · rename_i he
      cases he
      simp only [Option.map_eq_some_iff] at h
      obtain ⟨r', hr, rfl⟩ := h
      rcases List.mem_cons.1 hv with e | e
      · subst e
        simp only [Den] at hu
        subst hu
        exact ⟨(fun l h => by cases h), (fun l h => by cases h)⟩
      · exact zeroCols_flat hr hd v e
    · cases h
structure ElemOK (P : Program) (elem : TypeId) (zc : List Col) (sz b : Nat) : Prop where
  empty : emptyC zc = true
  info : ∃ (i : TypeInfo) (z : Value), P.info? elem = some i ∧ i.size = sz ∧ i.bytes = b ∧ i.zero = some z ∧ z.cells.size = zc.length ∧ ∀ v ∈ z.cells.toList, (∀ l, v ≠ .agg l) ∧ (∀ l, v ≠ .tuple l)
theorem elem_ok {P : Program} {elem : TypeId} {zc : List Col} {sz b : Nat} (h1 : elemCols P elem = some zc) (h2 : szOf P elem = some sz) (h3 : bytesOf P elem = some b) : ElemOK P elem zc sz b := by
  obtain ⟨he, z, hz, hl⟩ := elemCols_sound h1
  refine ⟨he, ?_⟩
  unfold elemCols at h1
  rw [hz] at h1
  unfold zeroCs at hz
  split at hz
  · rename_i i hi
    split at hz
    · rename_i v hv
      cases hz
      simp [szOf, hi] at h2
      simp [bytesOf, hi] at h3
      refine ⟨i, v, hi, h2, h3, hv, by simpa using hl.symm, zeroCols_flat (ρ := []) h1 (denL_svOf0 [] _)⟩
    · cases hz
  · cases hz
theorem den_slc_new {ρ : List Nat} {n k : Nat} (hk : ρ[n]? = some k) {len : Z} {c : Int} (h0 : 0 ≤ len.val) (h1 : len.val ≤ c) :
    Den ρ (.slc n (.l 0) len (.x c)) (.slice (some ⟨k, 0, none⟩) len.val.toNat c.toNat) := by
  simp only [Den]
  exact ⟨_, k, hk, rfl, h0, h1, fun _ => rfl⟩
end Go.Eng
/- The executor: append is sound. -/
set_option linter.unusedSimpArgs false
set_option linter.unusedVariables false
set_option linter.unusedSectionVars false
namespace Go.Eng
variable [CW : CWorld]
theorem row_cells {n : Nat} {zc cols : List Col} {r : List Value} (h : RowOK n cols r) (hz : cols.length = zc.length) : r.length = n * zc.length := by rw [h.size, hz]
theorem eAppend_sound {P : Program} {ρ : List Nat} {hp : List Blk} {w : World} (H : HOK ρ hp w) {o : Oper} {e : Operand → Value} {oa ox : Operand} {ts : Array TypeId} {sT xT : TypeId}
    (ho : o.op = .call { callee := .builtin .append, args := #[oa, ox], argTypes := ts }) (hts : ts[0]? = some sT) (htx : ts[1]? = some xT)
    {a x : SV} (ha : Den ρ a (e oa)) (hx : Den ρ x (e ox)) {K : SV → List Blk → List Nat → Prop} (h : eAppend ar0 P hp sT xT a x K) : EffOK P ρ hp w o e K := by
  have exec : ∀ {v : Value} {w' : World}, (Builtin.append_ ts o.type #[e oa, e ox]).run P w = .ok v w' → (execOp e o).run P w = .ok (.value v) w' := fun {v w'} h => by
    simp only [execOp, ho, resolve, Sem.run_bind, Sem.run_pure, Result.andThen_ok, invoke, builtin]
    have : (#[oa, ox].map e) = #[e oa, e ox] := by simp
    rw [this, h]
    rfl
  unfold eAppend at h
  split at h
  rotate_left
  · exact h.elim
  rename_i elem d m hu hxu hlen
  split at h
  rotate_left
  · exact h.elim
  rename_i zc sz by' hd0 hzc hsz hby
  have hdk : ∀ k, d ≠ .int k := fun k hk => by subst hk; cases hd0
  split at h
  rotate_left
  · exact h.elim
  rename_i new vc hzs hsz0 hsrc
  have hzs : zc.length = sz := of_decide_eq_true hzs
  have hsz0 : sz ≠ 0 := of_decide_eq_false hsz0
  obtain ⟨hemp, i, z, hi, hisz, hiby, hiz, hzl, hzf⟩ := elem_ok hzc hsz hby
  obtain ⟨hlrun, hm0⟩ := lenSV_sound hlen hx P w
  have lenAll : ∀ w' : World, (Builtin.lenOf (e ox)).run P w' = .ok m.val.toNat w' := fun w' => (lenSV_sound hlen hx P w').1
  -- the elements that come in
  have srcG : ∀ {s : SV} {v : Value} {m : Z} {new : List Col} {vc : List Prop}, Den ρ s v → lenSV ar0 s = some m → srcRow ar0 hp zc s m = some (new, vc) → 0 ≤ m.val → AllP vc →
      ∃ r, RowOK m.val.toNat new r ∧ new.length = zc.length ∧ ∀ w' : World, w'.heap = w.heap → (Builtin.firstCells sz m.val.toNat v).run P w' = .ok r.toArray w' := fun {s v m new vc} hx hlen hsrc hm0 hv => by
    obtain ⟨r, h1, h2, _⟩ := srcRow_sound (P := P) H hemp hx hlen (Int.le_refl _) hsrc hm0 hv
    refine ⟨r, h1, h2, fun w' hw' => ?_⟩
    have H' : HOK ρ hp w' := { len := H.len, inj := H.inj, ok := fun i n b h1 h2 => (H.ok i n b h1 h2).same (fun _ => by rw [hw']), cst := fun b hb => by rw [hw']; exact H.cst b hb, above := H.above }
    obtain ⟨r', h1', h2', h3'⟩ := srcRow_sound (P := P) H' hemp hx hlen (Int.le_refl _) hsrc hm0 hv
    have : r' = r := by
      apply List.ext_getElem?
      intro k
      have hl1 := row_cells h1 h2
      have hl2 := row_cells h1' h2'
      by_cases hk : k < r.length
      · have hpos : 0 < new.length := by rw [h2, hzs]; omega
        have hj : k % new.length < new.length := Nat.mod_lt _ hpos
        have hi' : k / new.length < m.val.toNat := by rw [hl1, ← h2] at hk; exact (Nat.div_lt_iff_lt_mul hpos).2 hk
        have e1 : k / new.length * new.length + k % new.length = k := by have := Nat.div_add_mod k new.length; rw [Nat.mul_comm] at this; exact this
        have c1 := h1.cell _ _ _ (List.getElem?_eq_getElem hj) hi'
        have c2 := h1'.cell _ _ _ (List.getElem?_eq_getElem hj) hi'
        rw [e1] at c1 c2
        rw [c1, c2]
      · rw [List.getElem?_eq_none (by omega), List.getElem?_eq_none (by omega)]
    subst this
    rw [hzs] at h3'
    exact h3'
  have src : AllP vc → ∃ r, RowOK m.val.toNat new r ∧ new.length = zc.length ∧ ∀ w' : World, w'.heap = w.heap → (Builtin.firstCells sz m.val.toNat (e ox)).run P w' = .ok r.toArray w' := fun hv => srcG hx hlen hsrc hm0 hv
  have colR : ∀ n : Nat, (Builtin.zeroCells z.cells n).toList.length = n * sz := fun n => by simp [Builtin.zeroCells, hzl, hzs]
  have flatR : ∀ n : Nat, ∀ v ∈ (Builtin.zeroCells z.cells n).toList, (∀ l, v ≠ .agg l) ∧ (∀ l, v ≠ .tuple l) := flat_zeroCells hzf (by rw [hzl, hzs]; omega)
  -- into a new block
  have fresh : AllP vc → ∀ (base : Option Addr) (len cap : Z) (old : List Col) (rold : List Value) (cc : List Col) (hp1 : List Blk) (T : List Nat),
      e oa = .slice base len.val.toNat cap.val.toNat → 0 ≤ len.val → 0 ≤ cap.val → ¬ len.val + m.val ≤ cap.val → AllP (roomVC ar0 (addZ ar0 len m) (by' + 1)) →
      RowOK len.val.toNat old rold → old.length = zc.length → (∀ w' : World, w'.heap = w.heap → (Builtin.firstCells sz len.val.toNat (.slice base len.val.toNat cap.val.toNat)).run P w' = .ok rold.toArray w') →
      colsApp ar0 old new = some cc → Since ρ hp w ρ hp1 w → (∀ n : Nat, n ∉ T → n < hp.length → hp1[n]? = hp[n]?) → hp1.length = hp.length →
      (∀ c : Int, (addZ ar0 len m).val ≤ c → K (.slc hp.length (.l 0) (addZ ar0 len m) (.x c)) (hp1 ++ [.mk elem [.arr (.x c) cc]]) T) → EffOK P ρ hp w o e K :=
    fun hv base len cap old rold cc hp1 T hea h0 hcap0 hnle hroom hr hol horun happ hs hkeep hlen1 hK => by
      obtain ⟨r, r1, r2, r3⟩ := src hv
      have hsum : (addZ ar0 len m).val = len.val + m.val := addZ_val _ _
      have hroom' := roomVC_sound (by rw [hsum]; omega) hroom
      rw [hsum, Int.toNat_add h0 hm0] at hroom'
      have hnle' : ¬ len.val.toNat + m.val.toNat ≤ cap.val.toNat := by omega
      obtain ⟨c, hc, hrun⟩ := append_grow (t := o.type) (v := e ox) (cells := r.toArray) (old := rold.toArray) (base := base) hts htx hu hxu hdk hi hisz (by omega) hiz hlrun hnle' (by rw [hiby]; exact hroom') horun r3
      have hcols : RowOK len.val.toNat old rold := hr
      have hA := r1
      have harr : ArrOK c cc (rold ++ r ++ (Builtin.zeroCells z.cells (c - (len.val.toNat + m.val.toNat))).toList) := by
        refine arr_append hr r1 happ ?_ hc (flatR _)
        rw [List.length_append, List.length_append, row_cells hr hol, row_cells r1 r2, colR, hol, hzs, ← Nat.add_mul, ← Nat.add_mul]
        congr 1
        omega
      refine ⟨_, .slice (some ⟨w.heap.size, 0, none⟩) (len.val.toNat + m.val.toNat) c, _, ρ ++ [w.heap.size], _, _, T, exec (by rw [hea]; exact hrun), .inl rfl, ?_, ?_, ?_, hK (c : Int) (by rw [hsum]; omega)⟩
      · have := den_slc_new (ρ := ρ ++ [w.heap.size]) (n := hp.length) (k := w.heap.size) (by rw [← H.len]; simp) (len := addZ ar0 len m) (c := (c : Int)) (by rw [hsum]; omega) (by rw [hsum]; omega)
        rw [hsum, Int.toNat_add h0 hm0, Int.toNat_natCast] at this
        exact this
      · have s1 : Since ρ hp w ρ hp1 { w with drawn := w.drawn + 1 } := hs.trans (Since.heap hs.hok rfl rfl rfl rfl)
        refine s1.trans (Since.newRow s1.hok elem _ _ ?_)
        simp only [SegsOK]
        refine ⟨rold ++ r ++ (Builtin.zeroCells z.cells (c - (len.val.toNat + m.val.toNat))).toList, [], by simp, ?_, rfl⟩
        rw [zx, Int.toNat_natCast]
        exact harr
      · refine ⟨fun n hn hlt => ?_, fun n b y hn hy gy hb => ?_⟩
        · rw [List.getElem?_append_left (by rw [hlen1]; exact hlt)]
          exact hkeep n hn hlt
        · cases y with
          | gone => exact gy.elim
          | mk t s => simp [Array.getElem?_push, Nat.ne_of_lt (H.lt hy gy hb)]
  have nilCase : AllP vc → AllP (roomVC ar0 m (by' + 1)) → a = .nslc → 0 < m.val →
      (∀ c : Int, m.val ≤ c → K (.slc hp.length (.l 0) m (.x c)) (hp ++ [.mk elem [.arr (.x c) new]]) []) → EffOK P ρ hp w o e K := fun hv hroom ha' hpos hK => by
    subst ha'
    simp only [Den] at ha
    obtain ⟨r, r1, r2, r3⟩ := src hv
    have hroom' := roomVC_sound hm0 hroom
    obtain ⟨c, hc, hrun⟩ := append_grow (t := o.type) (v := e ox) (cells := r.toArray) (old := #[]) (base := none) (sLen := 0) (sCap := 0) hts htx hu hxu hdk hi hisz (by omega) hiz hlrun (by omega)
      (by rw [hiby, Nat.zero_add]; exact hroom') (fun w' _ => by simp [Builtin.firstCells]) r3
    rw [Nat.zero_add] at hc
    have hemptyApp : ArrOK c new (r ++ (Builtin.zeroCells z.cells (c - m.val.toNat)).toList) := by
      refine { size := ?_, le := fun q hq => by rw [r1.len q hq]; exact hc, cell := fun i j q hj hi => ?_, flat := ?_ }
      · rw [List.length_append, row_cells r1 r2, colR, r2, hzs, ← Nat.add_mul]; congr 1; omega
      · rw [r1.len q (List.mem_of_getElem? hj)] at hi
        have := r1.cell i j q hj hi
        rw [List.getElem?_append_left (List.getElem?_eq_some_iff.1 this).1, this]
      · intro v hv
        rcases List.mem_append.1 hv with h | h
        · exact ⟨(r1.flat v h).1, (r1.flat v h).2.1⟩
        · exact flatR _ v h
    refine ⟨_, .slice (some ⟨w.heap.size, 0, none⟩) (0 + m.val.toNat) c, _, ρ ++ [w.heap.size], _, _, [], exec (by rw [ha]; exact hrun), .inl rfl, ?_, ?_, ?_, hK (c : Int) (by omega)⟩
    · have := den_slc_new (ρ := ρ ++ [w.heap.size]) (n := hp.length) (k := w.heap.size) (by rw [← H.len]; simp) (len := m) (c := (c : Int)) hm0 (by omega)
      rw [Int.toNat_natCast] at this
      rw [Nat.zero_add]
      exact this
    · have s1 : Since ρ hp w ρ hp { w with drawn := w.drawn + 1 } := Since.heap H rfl rfl rfl rfl
      refine s1.trans (Since.newRow s1.hok elem _ _ ?_)
      simp only [SegsOK]
      refine ⟨r ++ (Builtin.zeroCells z.cells (c - m.val.toNat)).toList, [], by simp, ?_, rfl⟩
      rw [zx, Int.toNat_natCast]
      exact hemptyApp
    · refine ⟨fun n hn hlt => List.getElem?_append_left hlt, fun n b y hn hy gy hb => ?_⟩
      cases y with
      | gone => exact gy.elim
      | mk t s => simp [Array.getElem?_push, Nat.ne_of_lt (H.lt hy gy hb)]
  have zeroSrc : m.val = 0 → ∀ w' : World, (Builtin.firstCells sz 0 (e ox)).run P w' = .ok #[] w' := fun _ w' => by
    unfold lenSV at hlen
    split at hlen
    · simp only [Den] at hx
      obtain ⟨o2, b2, _, hx, _⟩ := hx
      rw [hx]
      cases o2 <;> simp [Builtin.firstCells, loadCells, loadCellsFrom]
    · simp only [Den] at hx
      rw [hx]
      simp [Builtin.firstCells]
    · simp only [Den] at hx
      obtain ⟨o2, hx, _⟩ := hx
      rw [hx]
      cases o2 <;> simp [Builtin.firstCells, loadCells, loadCellsFrom]
    · simp only [Den] at hx
      rw [hx]
      simp [Builtin.firstCells]
    · cases hlen
  -- nothing comes in
  have idle : m.val = 0 → K a hp [] → (∃ (base : Option Addr) (l c : Nat), e oa = .slice base l c ∧ l ≤ c) → EffOK P ρ hp w o e K := fun hz hK ⟨base, l, c, hea, hle⟩ => by
    have hz' : m.val.toNat = 0 := by omega
    rw [hz'] at hlrun
    have hrun := append_place (t := o.type) (v := e ox) (w := w) (w' := w) (base := base) (cells := #[]) hts htx hu hxu hdk hsz hlrun (zeroSrc hz w) (show l + 0 ≤ c by omega) (by cases base <;> simp [storeCells])
    exact ⟨_, e oa, w, ρ, a, hp, [], exec (by rw [hea]; exact hrun), .inl rfl, ha, Since.refl H, Touch.refl, hK⟩
  split at h
  · -- nil
    split at h
    · refine idle (by simp [zl]) h ⟨none, 0, 0, ha, Nat.le_refl _⟩
    · rename_i k hk
      obtain ⟨hv, hK⟩ := vcs_iff.1 h
      obtain ⟨v1, v2⟩ := allP_append.1 hv
      have hpos : 0 < (Z.l k).val := by
        rcases Int.lt_or_eq_of_le hm0 with h | h
        · exact h
        · exact absurd (by simp only [zl] at h; rw [← h]) hk
      exact nilCase v1 v2 rfl hpos hK
    · rename_i k
      obtain ⟨hv, hK⟩ := vcs_iff.1 h
      obtain ⟨v1, v2⟩ := allP_append.1 hv
      by_cases hpos : 0 < k
      · exact nilCase v1 v2 rfl hpos hK
      · have hk0 : k = 0 := by simp only [zx] at hm0; omega
        subst hk0
        have hz' : (Z.x 0).val.toNat = 0 := rfl
        rw [hz'] at hlrun
        simp only [Den] at ha
        have hrun := append_place (t := o.type) (v := e ox) (w := w) (w' := w) (base := none) (cells := #[]) (sLen := 0) (sCap := 0) hts htx hu hxu hdk hsz hlrun (zeroSrc rfl w) (show 0 + 0 ≤ 0 by omega) (by simp)
        obtain ⟨r, r1, r2, _⟩ := src v1
        have hsz' : segsSize [Seg.arr (.x 0) new] = 0 := by simp [segsSize, Z.val]
        have hnt : ¬ (Blk.mk elem [.arr (.x 0) new]).there := fun h => h hsz'
        refine ⟨_, .slice none 0 0, w, ρ ++ [w.heap.size], .slc hp.length (.l 0) (.x 0) (.x 0), _, [], exec (by rw [ha]; exact hrun), .inl rfl, ?_,
          Since.name H (n := w.heap.size) (b := .mk elem [.arr (.x 0) new]) ⟨#[], (0, 0), fun h => absurd rfl h, ?_⟩ (fun _ _ _ _ _ => hnt) (fun h => absurd h hnt) (fun h => absurd h hnt), ?_, hK 0 (Int.le_refl 0)⟩
        · exact ⟨none, w.heap.size, by rw [← H.len]; simp, rfl, Int.le_refl 0, Int.le_refl 0, fun h => absurd rfl h⟩
        · refine ⟨[], [], rfl, { size := by simp [Z.val], le := fun c hc => by rw [r1.len c hc]; simp [Z.val], cell := fun i j c hj hi => ?_, flat := by simp }, rfl⟩
          rw [r1.len c (List.mem_of_getElem? hj)] at hi
          simp [Z.val] at hi
        · exact ⟨fun n _ hlt => List.getElem?_append_left hlt, fun _ _ _ _ _ _ _ => rfl⟩
  · rename_i n len cap
    have ha0 := ha
    simp only [Den] at ha
    obtain ⟨off, b, hbn, hea, h0, h1, hoff⟩ := ha
    split at h
    · exact idle (by simp [zl]) h ⟨_, _, _, hea, by omega⟩
    · split at h
      · rename_i bt N cols hb
        split at h
        · rename_i old vc0 hbt hcl hsub
          split at h
          · rename_i cc ve happ hve
            obtain ⟨hv, hK⟩ := vcs_iff.1 h
            obtain ⟨v123, v4⟩ := allP_append.1 hv
            obtain ⟨v12, v3⟩ := allP_append.1 v123
            obtain ⟨v1, v2⟩ := allP_append.1 v12
            have hbt : bt = elem := of_decide_eq_true hbt
            have hcl : cols.length = sz := of_decide_eq_true hcl
            subst hbt
            have hN := eqZ_sound hve v3
            have hcne : cols ≠ [] := fun e => hsz0 (by rw [← hcl, e]; rfl)
            obtain ⟨cs, fz, hpres, hs⟩ := blk_cells H hb hbn
            have hsz1 := segsOK_size hs
            simp only [SegsOK] at hs
            obtain ⟨arr, bb, hcs, harr, rfl⟩ := hs
            rw [List.append_nil] at hcs
            obtain ⟨q1, q2⟩ := row_of_arr harr (Int.le_refl 0) h0 hsub v2 hcne
            obtain ⟨q3, _, _⟩ := colsSub_sound (Int.le_refl 0) h0 hsub v2
            simp only [Int.toNat_zero, Nat.zero_mul, Nat.zero_add, List.drop_zero] at q1 q2
            have hol : old.length = zc.length := by rw [q3, hcl, hzs]
            have hsum : (addZ ar0 len m).val = len.val + m.val := addZ_val _ _
            by_cases hfit : len.val + m.val ≤ cap.val
            · -- in place
              obtain ⟨r, r1, r2, r3⟩ := src v1
              have hrl := row_cells r1 r2
              have harrl : arr.length = cap.val.toNat * sz := by rw [harr.size, hN, hcl]
              have hcsz : cs.size = arr.length := by rw [← hcs]; simp
              have hfl : (len.val.toNat + m.val.toNat) * sz ≤ cap.val.toNat * sz := Nat.mul_le_mul_right _ (by omega)
              rw [Nat.add_mul] at hfl
              rw [hzs] at hrl
              have hone : ∀ v ∈ r, v.oneCell' = true := fun v hv => (r1.flat v hv).2.2
              have hover : overL arr (len.val.toNat * sz) r = arr.take (len.val.toNat * sz) ++ r ++ arr.drop (len.val.toNat * sz + r.length) := by
                apply List.ext_getElem?
                intro k
                rw [overL_get _ _ _ _ (by omega)]
                by_cases c1 : k < len.val.toNat * sz
                · rw [if_neg (by omega), List.append_assoc, List.getElem?_append_left (by simp; omega), List.getElem?_take, if_pos c1]
                · by_cases c2 : k < len.val.toNat * sz + r.length
                  · rw [if_pos (by omega), List.append_assoc, List.getElem?_append_right (by simp; omega), List.getElem?_append_left (by simp; omega)]
                    simp only [List.length_take]
                    congr 1
                    omega
                  · rw [if_neg (by omega), List.append_assoc, List.getElem?_append_right (by simp; omega), List.getElem?_append_right (by simp; omega), List.getElem?_drop]
                    simp only [List.length_take]
                    congr 1
                    omega
              have hnewarr : ArrOK cap.val.toNat cc (overL arr (len.val.toNat * sz) r) := by
                rw [hover]
                rw [hcl] at q2
                refine arr_append q2 r1 happ ?_ (by omega) (fun v hv => harr.flat v (List.mem_of_mem_drop hv))
                simp only [List.length_append, List.length_take, List.length_drop, q3, hcl]
                omega
              have hden : ∀ (c : Int), c = cap.val → Den (ρ ++ [b]) (.slc hp.length (.l 0) (addZ ar0 len m) (.x c)) (.slice off (len.val.toNat + m.val.toNat) cap.val.toNat) := fun c hc => by
                subst hc
                simp only [Den, zx]
                refine ⟨off, b, by rw [← H.len]; simp, ?_, by rw [hsum]; omega, by rw [hsum]; omega, hoff⟩
                rw [hsum, Int.toNat_add h0 hm0]
              have hKc := hK cap.val (by rw [hsum]; exact hfit)
              have hkeep : ∀ k : Nat, k ∉ [n] → k < hp.length → (hp.set n .gone ++ [Blk.mk bt [.arr (.x cap.val) cc]])[k]? = hp[k]? := fun k hk hlt => by
                rw [List.getElem?_append_left (by simpa using hlt), List.getElem?_set_ne (fun e => hk (by simp [e]))]
              by_cases hz : r = []
              · subst hz
                simp only [List.length_nil] at hrl
                have hmz : m.val.toNat = 0 := by
                  rcases Nat.eq_zero_or_pos m.val.toNat with h | h
                  · exact h
                  · have := Nat.mul_pos h (Nat.pos_of_ne_zero hsz0); omega
                have hrun := append_place (t := o.type) (v := e ox) (w := w) (w' := w) (base := off) (cells := #[]) (sLen := len.val.toNat) (sCap := cap.val.toNat) hts htx hu hxu hdk hsz hlrun (r3 w rfl) (by omega) (by cases off <;> simp [storeCells])
                refine ⟨_, _, w, ρ ++ [b], _, _, [n], exec (by rw [hea]; exact hrun), .inl rfl, hden _ rfl, ?_, ⟨hkeep, fun _ _ _ _ _ _ _ => rfl⟩, hKc⟩
                have hs' : SegsOK (ρ) [.arr (.x cap.val) cc] cs.toList := by
                  simp only [SegsOK, zx]
                  exact ⟨arr, [], by rw [hcs]; simp, by simpa [overL] using hnewarr, rfl⟩
                exact Since.rename0 H hb hbn ⟨cs, fz, hpres, hs'⟩ (fun ht => by simp only [Blk.there, ← segsOK_size hs'] at ht; simp only [Blk.there, ← hsz1]; exact ht)
              · have hcap : cap.val ≠ 0 := fun h => by
                  have : r.length = 0 := by
                    rw [hrl, show m.val.toNat = 0 by omega, Nat.zero_mul]
                  exact hz (List.length_eq_zero_iff.1 this)
                have ho' := hoff hcap
                simp only [Off.val] at ho'
                subst ho'
                have hcs0 : cs.size ≠ 0 := by
                  have : 0 < r.length := by rcases Nat.eq_zero_or_pos r.length with h | h; · exact absurd (List.length_eq_zero_iff.1 h) hz
                                            · exact h
                  omega
                obtain ⟨hheap, hfree⟩ := hpres hcs0
                have hthere : segsSize [Seg.arr N cols] ≠ 0 := by rw [← hsz1]; simpa using hcs0
                have hst := run_storeCells (P := P) (off := len.val.toNat * sz) r 0 w cs hheap hfree (by omega) hone
                rw [if_neg hz, Nat.add_zero] at hst
                have hrun := append_place (t := o.type) (v := e ox) (w := w) (base := some ⟨b, 0, none⟩) (cells := r.toArray) (sLen := len.val.toNat) (sCap := cap.val.toNat) hts htx hu hxu hdk hsz hlrun (r3 w rfl) (by omega)
                  (by simp only [addr_add, Nat.zero_add]; exact hst)
                refine ⟨_, _, _, ρ ++ [b], _, _, [n], exec (by rw [hea]; exact hrun), .inl rfl, hden _ rfl,
                  Since.rename H hb hthere hbn (cs' := (overL cs.toList (len.val.toNat * sz) r).toArray) (fz := fz) (by simpa [length_overL] using hfree) ?_, ⟨hkeep, fun k c y hk hy gy hc => ?_⟩, hKc⟩
                · simp only [SegsOK, zx]
                  refine ⟨_, [], by simp; rfl, ?_, rfl⟩
                  rw [hcs]
                  exact hnewarr
                · have : b ≠ c := fun e => by
                    subst e
                    exact hk (by simp [H.inj n k b _ _ hb hy hthere gy hbn hc])
                  simp [Array.getElem?_setIfInBounds, this]
            · -- into a new block
              refine fresh v1 off len cap old _ cc (hp.set n .gone) [n] hea h0 (by omega) hfit v4 q2 hol (fun w' hw' => ?_) happ (Since.drop H n) (fun k hk hlt => List.getElem?_set_ne (fun e => hk (by simp [e]))) (by simp) hK
              by_cases hlz : len.val.toNat = 0
              · rw [hlz]; cases off <;> simp [Builtin.firstCells, loadCells, loadCellsFrom]
              · have ho' := hoff (by omega)
                simp only [Off.val] at ho'
                subst ho'
                have hrun := run_loadCells_list (P := P) w' ⟨b, 0, none⟩ (arr.take (len.val.toNat * cols.length)) (fun j v hj => by
                  have hcs0 : cs.size ≠ 0 := by
                    rw [List.getElem?_take] at hj
                    split at hj
                    · rw [← hcs] at hj; exact size_ne hj
                    · cases hj
                  rw [addr_add, cell_of (by rw [hw']; exact (hpres hcs0).1), Nat.zero_add]
                  rw [List.getElem?_take] at hj
                  split at hj
                  · rw [← hcs] at hj; simpa using hj
                  · cases hj)
                have hll : (arr.take (len.val.toNat * cols.length)).length = len.val.toNat * sz := by simp [hcl]; rw [hcl] at q1; omega
                rw [hll] at hrun
                simpa [Builtin.firstCells] using hrun
          · exact h.elim
        · exact h.elim
      · rename_i bt segs hb hbno
        split at h
        · rename_i old vc0 hrow
          split at h
          · rename_i cc c0 nd happ hnd
            split at h
            · rename_i hlt
              obtain ⟨hv, hK⟩ := vcs_iff.1 h
              obtain ⟨v12, v3⟩ := allP_append.1 hv
              obtain ⟨v1, v2⟩ := allP_append.1 v12
              obtain ⟨cs, fz, hpres, hs⟩ := blk_cells H hbno hbn
              obtain ⟨r, r1, r2, r3⟩ := rowAt_sound hemp hs hrow h0 v2
              have hsum : (addZ ar0 len m).val = len.val + m.val := addZ_val _ _
              have hnd' : nd = len.val + m.val := by rw [← hsum, hnd]; rfl
              rw [← hnd] at hK v3
              refine fresh v1 off len (.l c0) old r cc (hp.set n .gone) [n] hea h0 (by omega) (by simp only [zl]; omega) v3 r1 r2 (fun w' hw' => ?_) happ (Since.drop H n) (fun k hk hlt => List.getElem?_set_ne (fun e => hk (by simp [e]))) (by simp) (fun c hc => hK c (by rw [hsum] at hc; simp only [ar0]; omega))
              have hrl := row_cells r1 r2
              rw [hzs] at hrl
              by_cases hlz : len.val.toNat = 0
              · rw [hlz, Nat.zero_mul] at hrl
                have : r = [] := List.length_eq_zero_iff.1 hrl
                subst this
                rw [hlz]; cases off <;> simp [Builtin.firstCells, loadCells, loadCellsFrom]
              · have ho' := hoff (by omega)
                subst ho'
                have hrun := run_loadCells_list (P := P) w' ⟨b, (Off.l 0).val, none⟩ r (fun j v hj => by
                  have hc := r3 j v hj
                  rw [addr_add, cell_of (by rw [hw']; exact (hpres (size_ne hc)).1)]; simpa using hc)
                rw [hrl] at hrun
                simpa [Builtin.firstCells] using hrun
            · exact h.elim
          · exact h.elim
        · exact h.elim
      · exact h.elim
  · rename_i n o1 o2 o3 o4 len cap
    have ha0 := ha
    simp only [Den] at ha
    obtain ⟨off, b, hbn, hea, h0, h1, hoff⟩ := ha
    split at h
    · rename_i old vc0 hrow
      split at h
      · rename_i cc happ
        obtain ⟨hv, hK⟩ := vcs_iff.1 h
        obtain ⟨v123, v4⟩ := allP_append.1 hv
        obtain ⟨v12, v3⟩ := allP_append.1 v123
        obtain ⟨v1, v2⟩ := allP_append.1 v12
        obtain ⟨r, r1, r2, r3⟩ := srcG ha0 rfl hrow h0 v2
        have v3' : (addZ ar0 cap (.l 1)).val ≤ (addZ ar0 len m).val := v3.1
        rw [addZ_val, addZ_val, zl] at v3'
        refine fresh v1 off len cap old r cc hp [] hea h0 (by omega) (by omega) v4 r1 r2 (fun w' hw' => ?_) happ (Since.refl H) (fun k hk hlt => rfl) rfl hK
        have := r3 w' hw'
        rw [hea] at this
        exact this
      · exact h.elim
    · exact h.elim
  · exact h.elim
end Go.Eng
/- The executor: clear, make, literals of slices, the bytes of a string; all that changes memory. -/
set_option linter.unusedSimpArgs false
set_option linter.unusedVariables false
set_option linter.unusedSectionVars false
namespace Go.Eng
variable [CW : CWorld]
variable (ar : AR)
def eClear (P : Program) (hp : List Blk) (t : TypeId) (x : SV) (K : SV → List Blk → List Nat → Prop) : Prop :=
  match P.underlying t, x with
  | some (.slice elem), .slc n o len _ =>
    match hp[n]?, zeroCs P elem with
    | some (.mk bt segs), some [.int k (.l 0)] =>
      match putInts ar k (ar.irep 0 len.val) len segs o with
      | some (segs', vc) => vcs vc (K (.tup []) (hp.set n (.mk bt segs')) [n])
      | none => False
    | _, _ => False
  | some (.slice _), .nslc => K (.tup []) hp []
  | _, _ => False
theorem eClear_sound {P : Program} {ρ : List Nat} {hp : List Blk} {w : World} (H : HOK ρ hp w) {o : Oper} {e : Operand → Value} {oa : Operand} {ts : Array TypeId} {t : TypeId}
    (ho : o.op = .call { callee := .builtin .clear, args := #[oa], argTypes := ts }) (hts : ts[0]? = some t)
    {a : SV} (ha : Den ρ a (e oa)) {K : SV → List Blk → List Nat → Prop} (h : eClear ar0 P hp t a K) : EffOK P ρ hp w o e K := by
  have exec : ∀ {v : Value} {w' : World}, (Builtin.clear_ ts o.type #[e oa]).run P w = .ok v w' → (execOp e o).run P w = .ok (.value v) w' := fun {v w'} h => by
    simp only [execOp, ho, resolve, Sem.run_bind, Sem.run_pure, Result.andThen_ok, invoke, builtin]
    have : (#[oa].map e) = #[e oa] := by simp
    rw [this, h]
    rfl
  unfold eClear at h
  split at h
  · rename_i elem n off len cap hu
    split at h
    · rename_i bt segs k hb hz
      split at h
      · rename_i segs' vc hput
        obtain ⟨hv, hK⟩ := vcs_iff.1 h
        simp only [Den] at ha
        obtain ⟨off', b, hbn, hea, h0, h1, hoff⟩ := ha
        obtain ⟨cs, fz, hpres, hs⟩ := blk_cells H hb hbn
        obtain ⟨p1, p2⟩ := putInts_sound hs hput hv
        obtain ⟨z, hzr, hzd⟩ := zeroCs_sound hz ρ
        simp only [DenL, Den, zl] at hzd
        obtain ⟨_, _, hzc, rfl, rfl⟩ := hzd
        have hzc' : z.cells = #[.int k 0] := by rw [← Array.toArray_toList (xs := z.cells), hzc]
        have hrep : (Builtin.zeroCells z.cells len.val.toNat).toList = (ar0.irep 0 len.val).map (Value.int k) := by
          rw [hzc']
          simp only [Builtin.zeroCells, ar0, List.map_replicate]
          apply List.ext_getElem?
          intro i
          simp [List.getElem?_replicate, Nat.mod_one]
          by_cases hi : i < len.val.toNat
          · have h1 : (i : Int) < len.val := by omega
            simp [hi, h1]
          · have h1 : len.val ≤ (i : Int) := by omega
            simp [hi, h1, Int.not_lt.2 h1]
        have hlen : (ar0.irep 0 len.val).length = len.val.toNat := by simp [ar0]
        by_cases hz0 : len.val.toNat = 0
        · have hnil : ar0.irep 0 len.val = [] := List.length_eq_zero_iff.1 (by rw [hlen, hz0])
          refine ⟨_, .tuple #[], w, ρ, .tup [], _, [n], exec ?_, .inl rfl, ⟨[], rfl, rfl⟩, ?_, ⟨fun i hi _ => List.getElem?_set_ne (fun e => hi (by simp [e])), fun _ _ _ _ _ _ _ => rfl⟩, hK⟩
          · rw [hea, hz0]
            unfold Builtin.clear_
            simp only [hts, List.getElem?_toArray, List.getElem?_cons_zero, Sem.run_bind, run_underlying hu, Result.andThen_ok]
            cases off' <;> rfl
          · rw [hnil] at p2
            have p2' : SegsOK ρ segs' cs.toList := by simpa [overL] using p2
            exact Since.over0 H hb hbn ⟨cs, fz, hpres, p2'⟩ (fun ht => by simp only [Blk.there, ← segsOK_size p2', ← segsOK_size hs] at ht ⊢; exact ht)
        · have ho' := hoff (by omega)
          subst ho'
          have hne : (ar0.irep 0 len.val).map (Value.int k) ≠ [] := fun e => hz0 (by rw [← hlen, List.map_eq_nil_iff.1 e]; rfl)
          have hcs : cs.size ≠ 0 := by simp at p1; omega
          obtain ⟨hheap, hfree⟩ := hpres hcs
          have hthere : segsSize segs ≠ 0 := by rw [← segsOK_size hs]; simpa using hcs
          have hrun := run_storeCells (P := P) (off := off.val) ((ar0.irep 0 len.val).map (Value.int k)) 0 w cs hheap hfree (by simp only [List.length_map]; simpa using p1) (fun v hv => by
            obtain ⟨x, _, rfl⟩ := List.mem_map.1 hv; rfl)
          rw [if_neg hne, Nat.add_zero] at hrun
          refine ⟨_, .tuple #[], _, ρ, .tup [], _, [n], exec ?_, .inl rfl, ⟨[], rfl, rfl⟩,
            Since.over H hb hthere hbn (cs' := (overL cs.toList off.val ((ar0.irep 0 len.val).map (Value.int k))).toArray) (fz := fz) (by simpa [length_overL] using hfree) (by simpa using p2), Touch.over H hb hthere hbn, hK⟩
          rw [hea]
          unfold Builtin.clear_
          obtain ⟨q, hq⟩ : ∃ q, len.val.toNat = q + 1 := ⟨len.val.toNat - 1, by omega⟩
          simp only [hts, List.getElem?_toArray, List.getElem?_cons_zero, Sem.run_bind, run_underlying hu, Result.andThen_ok]
          rw [hq] at hrep ⊢
          simp only [Sem.run_bind, hzr, Result.andThen_ok, hrep, hrun]
          rfl
      · exact h.elim
    · exact h.elim
  · rename_i elem hu
    simp only [Den] at ha
    refine ⟨_, .tuple #[], w, ρ, .tup [], _, [], exec ?_, .inl rfl, ⟨[], rfl, rfl⟩, Since.refl H, Touch.refl, h⟩
    rw [ha]
    unfold Builtin.clear_
    simp only [hts, List.getElem?_toArray, List.getElem?_cons_zero, Sem.run_bind, run_underlying hu, Result.andThen_ok]
    rfl
  · exact h.elim
def zeroFull (n : Int) : List SV → Option (List Col)
  | [] => some []
  | .int k (.l 0) :: l => (zeroFull n l).map fun r => .ints k (ar.irep 0 n) :: r
  | .str [] :: l => (zeroFull n l).map fun r => .strs (ar.trep [] n) :: r
  | _ => none
theorem zeroFull_sound {ρ : List Nat} {n : Int} : ∀ {l : List SV} {r : List Col} {vs : List Value}, zeroFull ar0 n l = some r → DenL ρ l vs →
    r.length = vs.length ∧ (∀ c ∈ r, c.len = n.toNat) ∧ (∀ (j : Nat) (c : Col) (i : Nat), r[j]? = some c → i < n.toNat → vs[j]? = some (c.at i)) ∧ ∀ v ∈ vs, (∀ l, v ≠ .agg l) ∧ (∀ l, v ≠ .tuple l)
  | [], r, vs, h, hd => by
    simp only [zeroFull, Option.some.injEq] at h
    simp only [DenL] at hd
    subst h hd
    exact ⟨rfl, by simp, by simp, by simp⟩
  | a :: l, r, vs, h, hd => by
    simp only [DenL] at hd
    obtain ⟨u, us, rfl, hu, hd⟩ := hd
    unfold zeroFull at h
    split at h
    · rename_i he; cases he
    · rename_i he
      cases he
      simp only [Option.map_eq_some_iff] at h
      obtain ⟨r', hr, rfl⟩ := h
      obtain ⟨i1, i2, i3, i4⟩ := zeroFull_sound hr hd
      simp only [Den, zl] at hu
      subst hu
      refine ⟨by simp [i1], ?_, ?_, ?_⟩
      · intro c hc
        rcases List.mem_cons.1 hc with e | e
        · subst e; simp [Col.len, ar0]
        · exact i2 c e
      · intro j c i hj hi
        cases j with
        | zero => simp at hj; subst hj; simp [Col.at, ar0, List.getD, List.getElem?_replicate, hi]
        | succ j => simpa using i3 j c i (by simpa using hj) hi
      · intro v hv
        rcases List.mem_cons.1 hv with e | e
        · subst e; exact ⟨(fun l h => by cases h), (fun l h => by cases h)⟩
        · exact i4 v e
    · rename_i he
      cases he
      simp only [Option.map_eq_some_iff] at h
      obtain ⟨r', hr, rfl⟩ := h
      obtain ⟨i1, i2, i3, i4⟩ := zeroFull_sound hr hd
      simp only [Den] at hu
      subst hu
      refine ⟨by simp [i1], ?_, ?_, ?_⟩
      · intro c hc
        rcases List.mem_cons.1 hc with e | e
        · subst e; simp [Col.len, ar0]
        · exact i2 c e
      · intro j c i hj hi
        cases j with
        | zero => simp at hj; subst hj; simp [Col.at, ar0, List.getD, List.getElem?_replicate, hi]
        | succ j => simpa using i3 j c i (by simpa using hj) hi
      · intro v hv
        rcases List.mem_cons.1 hv with e | e
        · subst e; exact ⟨(fun l h => by cases h), (fun l h => by cases h)⟩
        · exact i4 v e
    · cases h
def noCells : List Col → List Col
  | [] => []
  | .ints k _ :: l => .ints k [] :: noCells l
  | .strs _ :: l => .strs [] :: noCells l
  | .bools _ :: l => .bools [] :: noCells l
theorem noCells_spec : ∀ (l : List Col), (noCells l).length = l.length ∧ ∀ c ∈ noCells l, c.len = 0
  | [] => ⟨rfl, by simp [noCells]⟩
  | .ints k _ :: l => by
    obtain ⟨h1, h2⟩ := noCells_spec l
    exact ⟨by simp [noCells, h1], fun c hc => by rcases List.mem_cons.1 hc with e | e; · subst e; rfl
                                                 · exact h2 c e⟩
  | .strs _ :: l => by
    obtain ⟨h1, h2⟩ := noCells_spec l
    exact ⟨by simp [noCells, h1], fun c hc => by rcases List.mem_cons.1 hc with e | e; · subst e; rfl
                                                 · exact h2 c e⟩
  | .bools _ :: l => by
    obtain ⟨h1, h2⟩ := noCells_spec l
    exact ⟨by simp [noCells, h1], fun c hc => by rcases List.mem_cons.1 hc with e | e; · subst e; rfl
                                                 · exact h2 c e⟩
theorem ArrOK.noCells {n : Nat} {cols : List Col} {cs : List Value} (h : ArrOK n cols cs) : ArrOK n (noCells cols) cs where
  size := by rw [(noCells_spec cols).1]; exact h.size
  le := fun c hc => by rw [(noCells_spec cols).2 c hc]; exact Nat.zero_le _
  cell := fun i j c hj hi => by rw [(noCells_spec cols).2 c (List.mem_of_getElem? hj)] at hi; omega
  flat := h.flat
def madeCols : Z → List Col → List Col
  | .l 0, cols => noCells cols
  | _, cols => cols
theorem ArrOK.made {n : Nat} {cols : List Col} {cs : List Value} (h : ArrOK n cols cs) (l : Z) : ArrOK n (madeCols l cols) cs := by
  unfold madeCols
  split
  · exact h.noCells
  · exact h
def eMake (P : Program) (hp : List Blk) (t : TypeId) (len cap : SV) (K : SV → List Blk → List Nat → Prop) : Prop :=
  match P.underlying t, len, cap with
  | some (.slice elem), .int _ l, .int _ c =>
    match zeroCs P elem, szOf P elem, bytesOf P elem with
    | some z, some (sz' + 1), some (by' + 1) =>
      match decide (z.length = sz' + 1), zeroFull ar c.val z with
      | true, some cols => vcs (nonneg ar l ++ leVC ar l c ++ roomVC ar c (by' + 1)) (K (.slc hp.length (.l 0) l c) (hp ++ [.mk elem [.arr c (madeCols l cols)]]) [])
      | _, _ => False
    | _, _, _ => False
  | _, _, _ => False
theorem wrap_id {n : Int} (h0 : 0 ≤ n) (h1 : n ≤ 140737488355328) : IntKind.i64.wrap n = n := by
  have e : n % (2 ^ 64 : Int) = n := Int.emod_eq_of_lt h0 (by omega)
  show (if (true && decide (n % (2 ^ 64 : Int) ≥ (2 ^ 63 : Int))) = true then n % (2 ^ 64 : Int) - (2 ^ 64 : Int) else n % (2 ^ 64 : Int)) = n
  rw [e, if_neg (by simp; omega)]
theorem eMake_sound {P : Program} {ρ : List Nat} {hp : List Blk} {w : World} (H : HOK ρ hp w) {o : Oper} {e : Operand → Value} {t : TypeId} {ol oc : Operand} (ho : o.op = .makeSlice t ol oc)
    {l c : SV} (hl : Den ρ l (e ol)) (hc : Den ρ c (e oc)) {K : SV → List Blk → List Nat → Prop} (h : eMake ar0 P hp t l c K) : EffOK P ρ hp w o e K := by
  unfold eMake at h
  split at h
  · rename_i elem k1 l k2 c hu
    split at h
    · rename_i z sz' by' hz hsz hby
      split at h
      · rename_i cols hzs hfull
        obtain ⟨hv, hK⟩ := vcs_iff.1 h
        obtain ⟨v12, v3⟩ := allP_append.1 hv
        obtain ⟨v1, v2⟩ := allP_append.1 v12
        have h0 := nonneg_sound v1
        have h1 := leVC_sound v2
        have hroom := roomVC_sound (by omega) v3
        have hzs : z.length = sz' + 1 := of_decide_eq_true hzs
        simp only [Den] at hl hc
        unfold zeroCs at hz
        split at hz
        · rename_i i hi
          split at hz
          · rename_i zv hzv
            simp only [Option.some.injEq] at hz
            subst hz
            simp [szOf, hi] at hsz
            simp [bytesOf, hi] at hby
            obtain ⟨f1, f2, f3, f4⟩ := zeroFull_sound (ρ := ρ) hfull (denL_svOf0 ρ zv.cells.toList)
            have hzl : zv.cells.size = sz' + 1 := by simpa using hzs
            have hcb : c.val ≤ 140737488355328 := by
              have : c.val.toNat ≤ c.val.toNat * (by' + 1) := Nat.le_mul_of_pos_right _ (by omega)
              omega
            have hcells : ((Array.range (c.val.toNat * (sz' + 1))).map (fun q => zv.cells[q % zv.cells.size]!)).toList = (List.range (c.val.toNat * (sz' + 1))).map (fun q => zv.cells[q % zv.cells.size]!) := by simp
            have harr : ArrOK c.val.toNat cols ((List.range (c.val.toNat * (sz' + 1))).map (fun q => zv.cells[q % zv.cells.size]!)) := by
              have hcl : cols.length = sz' + 1 := by rw [f1]; simpa using hzl
              refine { size := by simp [hcl], le := fun q hq => by rw [f2 q hq]; exact Nat.le_refl _, cell := ?_, flat := ?_ }
              · intro i j q hj hq
                rw [f2 q (List.mem_of_getElem? hj)] at hq
                have hjl := (List.getElem?_eq_some_iff.1 hj).1
                rw [hcl] at hjl ⊢
                have hlt : i * (sz' + 1) + j < c.val.toNat * (sz' + 1) := by
                  calc i * (sz' + 1) + j < i * (sz' + 1) + (sz' + 1) := by omega
                    _ = (i + 1) * (sz' + 1) := by rw [Nat.add_mul i 1, Nat.one_mul]
                    _ ≤ _ := Nat.mul_le_mul_right _ hq
                simp only [List.getElem?_map, List.getElem?_range hlt, Option.map_some, hzl]
                have hmod : (i * (sz' + 1) + j) % (sz' + 1) = j := by rw [Nat.mul_comm, Nat.mul_add_mod, Nat.mod_eq_of_lt hjl]
                rw [hmod, ← f3 j q i hj hq]
                simp only [Array.getElem?_toList]
                rw [getElem!_pos zv.cells j (by omega)]
                simp [show j < zv.cells.size by omega]
              · intro v hv
                obtain ⟨q, _, rfl⟩ := List.mem_map.1 hv
                have hlt : q % zv.cells.size < zv.cells.size := Nat.mod_lt _ (by omega)
                refine f4 _ ?_
                rw [getElem!_pos zv.cells _ hlt]
                simp
            refine ⟨_, .slice (some ⟨w.heap.size, 0, none⟩) l.val.toNat c.val.toNat, _, ρ ++ [w.heap.size], _, _, [], ?_, .inl rfl, ?_,
              Since.newRow H elem ((Array.range (c.val.toNat * (sz' + 1))).map (fun q => zv.cells[q % zv.cells.size]!)) [.arr c (madeCols l cols)] ?_, Touch.push H, hK⟩
            · have hinfo : ∀ w' : World, (typeInfo elem).run P w' = .ok i w' := fun w' => by simp [typeInfo, hi]
              have hzr : ∀ w' : World, (zeroValue elem).run P w' = .ok zv w' := fun w' => by simp [zeroValue, typeInfo, hi, hzv]
              have hbi : ((i.bytes : Nat) : Int) * c.val ≤ 140737488355328 := by
                have h3 : ((c.val.toNat * (by' + 1) : Nat) : Int) = c.val * ((by' + 1 : Nat) : Int) := by rw [Int.natCast_mul, Int.toNat_of_nonneg (by omega)]
                rw [hby, Int.mul_comm, ← h3]
                exact Int.ofNat_le.2 hroom
              simp only [execOp, ho, Instr.makeSlice, hl, hc, asInt, asIntOf, Sem.run_bind, run_underlying hu, Result.andThen_ok, Sem.run_pure, hinfo]
              rw [wrap_id h0 (by omega), wrap_id (by omega) hcb]
              have hcond : ((decide (c.val < 0) || decide ((i.bytes : Int) * c.val > 2 ^ 48)) || decide (l.val < 0) || decide (l.val > c.val)) = false := by
                simp only [Bool.or_eq_false_iff, decide_eq_false_iff_not]
                refine ⟨⟨⟨by omega, ?_⟩, by omega⟩, by omega⟩
                have : (2 : Int) ^ 48 = 281474976710656 := by decide
                omega
              rw [hcond]
              simp only [Bool.false_eq_true, if_false, Sem.run_bind, run_askRoom, Result.andThen_ok, run_sizeOf (show szOf P elem = some (sz' + 1) by simp [szOf, hi, hsz]), Sem.run_ite, Sem.run_pure, hzr]
              by_cases hn0 : c.val.toNat * (sz' + 1) = 0
              · rw [if_pos hn0]
                have hr0 : Array.range 0 = #[] := rfl
                simp [newRow, hn0, hr0]
              · rw [if_neg hn0]
                simp [newRow]
            · simp only [Den]
              exact ⟨_, w.heap.size, by rw [← H.len]; simp, rfl, h0, h1, fun _ => rfl⟩
            · rw [hcells]
              simp only [SegsOK]
              exact ⟨_, [], by simp, harr.made l, rfl⟩
          · cases hz
        · cases hz
      · exact h.elim
    · exact h.elim
  · exact h.elim
def eBuildSlice (P : Program) (hp : List Blk) (t : TypeId) (len : Nat) (parts : List (Nat × SV)) (K : SV → List Blk → List Nat → Prop) : Prop :=
  match P.underlying t with
  | some (.slice elem) =>
    match zeroCs P elem, szOf P elem with
    | some z, some sz =>
      match decide (z.length = sz ∧ sz ≠ 0 ∧ len * sz ≤ 16777216), fillS (fun i => some (i * sz, sz)) ((List.range (len * sz)).map fun q => z.getD (q % sz) .any) parts with
      | true, some cs => K (.slc hp.length (.l 0) (.l len) (.l len)) (hp ++ [.mk elem (cs.map .one)]) []
      | _, _ => False
    | _, _ => False
  | _ => False
theorem denL_range {ρ : List Nat} {f : Nat → SV} {g : Nat → Value} : ∀ (l : List Nat), (∀ q ∈ l, Den ρ (f q) (g q)) → DenL ρ (l.map f) (l.map g)
  | [], _ => rfl
  | q :: l, h => ⟨g q, l.map g, rfl, h q (by simp), denL_range l (fun r hr => h r (by simp [hr]))⟩
theorem eBuildSlice_sound {P : Program} {ρ : List Nat} {hp : List Blk} {w : World} (H : HOK ρ hp w) {o : Oper} {e : Operand → Value} {t : TypeId} {len : Nat} {ps : Array (Nat × Operand)} (ho : o.op = .buildSlice t len ps)
    {parts : List (Nat × SV)} (hq : DenP ρ parts (ps.map fun (i, x) => (i, e x)).toList) {K : SV → List Blk → List Nat → Prop} (h : eBuildSlice P hp t len parts K) : EffOK P ρ hp w o e K := by
  unfold eBuildSlice at h
  split at h
  · rename_i elem hu
    split at h
    · rename_i z sz hz hsz
      split at h
      · rename_i cs hc hf
        obtain ⟨hzl, hs0, hlim⟩ := of_decide_eq_true hc
        obtain ⟨zv, hzr, hzd⟩ := zeroCs_sound hz ρ
        have hzn := denL_length hzd
        simp only [Array.length_toList, hzl] at hzn
        have hd0 : DenL ρ ((List.range (len * sz)).map fun q => z.getD (q % sz) .any) ((Array.range (len * sz)).map (fun q => zv.cells[q % zv.cells.size]!)).toList := by
          have : ((Array.range (len * sz)).map (fun q => zv.cells[q % zv.cells.size]!)).toList = (List.range (len * sz)).map (fun q => zv.cells[q % zv.cells.size]!) := by simp
          rw [this]
          refine denL_range _ (fun q _ => ?_)
          have hlt : q % sz < sz := Nat.mod_lt _ (Nat.pos_of_ne_zero hs0)
          obtain ⟨v, hv, hd⟩ := denL_get hzd (List.getElem?_eq_getElem (show q % sz < z.length by omega))
          rw [hzn, getElem!_pos zv.cells _ (by omega)]
          simp only [Array.getElem?_toList] at hv
          rw [Array.getElem?_eq_getElem (by omega)] at hv
          cases hv
          simpa [List.getD, List.getElem?_eq_getElem (show q % sz < z.length by omega)] using hd
        obtain ⟨r, hr, hrd⟩ := fillS_sound _ hd0 hq hf
        refine ⟨_, .slice (some ⟨w.heap.size, 0, none⟩) len len, _, ρ ++ [w.heap.size], _, _, [], ?_, .inl rfl, ?_, Since.newRow H elem r _ (segsOK_ones hrd), Touch.push H, h⟩
        · simp only [execOp, ho, Instr.buildSlice, Sem.run_bind, run_underlying hu, Result.andThen_ok, run_sizeOf hsz]
          rw [if_neg (by omega)]
          by_cases hn0 : len * sz = 0
          · have hl0 : len = 0 := by
              rcases Nat.mul_eq_zero.1 hn0 with h | h
              · exact h
              · exact absurd h hs0
            simp only [hn0, if_true, Sem.run_bind, Sem.run_pure, Result.andThen_ok] at hr ⊢
            have hr' : Instr.fill (fun i => some (i * sz, sz)) ((Array.range 0).map (fun q => (#[] : Array Value)[q % (#[] : Array Value).size]!)) (ps.map fun (i, x) => (i, e x)).toList = some r := by
              have : ((Array.range 0).map (fun q => (#[] : Array Value)[q % (#[] : Array Value).size]!)) = ((Array.range 0).map (fun q => zv.cells[q % zv.cells.size]!)) := by simp
              rw [this]
              exact hr
            rw [hr']
            simp [newRow]
          · rw [if_neg hn0]
            simp only [Sem.run_bind, hzr, Sem.run_pure, Result.andThen_ok, hr]
            simp [newRow]
        · simp only [Den]
          exact ⟨some ⟨w.heap.size, 0, none⟩, w.heap.size, by rw [← H.len]; simp, by simp [zl], by simp [zl], Int.le_refl _, fun _ => rfl⟩
      · exact h.elim
    · exact h.elim
  · exact h.elim
end Go.Eng
/- The executor: the bytes of a string; all that changes memory. -/
set_option linter.unusedSimpArgs false
set_option linter.unusedVariables false
set_option linter.unusedSectionVars false
namespace Go.Eng
variable [CW : CWorld]
variable (ar : AR)
def eToBytes (P : Program) (hp : List Blk) (src dst : TypeId) (x : SV) (K : SV → List Blk → List Nat → Prop) : Prop :=
  match P.underlying src, P.underlying dst, x with
  | some .string, some (.slice e), .str s =>
    match P.underlying e with
    | some (.int .u8) => ∀ c : Int, ar.slen s ≤ c → K (.slc hp.length (.l 0) (.x (ar.slen s)) (.x c)) (hp ++ [.mk e [.arr (.x c) [.ints .u8 (ar.ints s)]]]) []
    | _ => False
  | _, _, _ => False
theorem bytesWorld_heap (w : World) (e : TypeId) (s : ByteArray) :
    (Lib.bytesWorld w e s).heap = w.heap.push (.cells (Lib.bytesCells w e s) e ((Lib.bytesCells w e s).size, (Lib.bytesCells w e s).size + 1)) := by
  apply Array.ext (by simp [Lib.bytesWorld_size])
  intro i h1 h2
  rw [← Option.some_inj, ← Array.getElem?_eq_getElem, ← Array.getElem?_eq_getElem]
  rw [Lib.bytesWorld_size] at h1
  by_cases hi : i < w.heap.size
  · rw [Lib.bytesWorld_at_old _ _ _ _ hi, Array.getElem?_push, if_neg (by omega)]
  · have : i = w.heap.size := by omega
    subst this
    rw [Lib.bytesWorld_at_new]
    simp
theorem arr_pad {n : Nat} {k : IntKind} {l : List Int} {r : List Value} (h : l.length + r.length = n) (hr : ∀ v ∈ r, (∀ l, v ≠ .agg l) ∧ (∀ l, v ≠ .tuple l)) :
    ArrOK n [.ints k l] (l.map (Value.int k) ++ r) where
  size := by simp [← h]
  le := fun c hc => by simp at hc; subst hc; simp [Col.len]; omega
  cell := fun i j c hj hi => by
    cases j with
    | zero =>
      simp at hj
      subst hj
      simp only [Col.len] at hi
      simp [Col.at, List.getD, List.getElem?_eq_getElem hi, List.getElem?_append, hi]
    | succ j => simp at hj
  flat := fun v hv => by
    rcases List.mem_append.1 hv with hv | hv
    · obtain ⟨n, _, rfl⟩ := List.mem_map.1 hv
      exact ⟨(fun l h => by cases h), (fun l h => by cases h)⟩
    · exact hr v hv
theorem eToBytes_sound {P : Program} {ρ : List Nat} {hp : List Blk} {w : World} (H : HOK ρ hp w) {o : Oper} {e : Operand → Value} {src dst : TypeId} {ox : Operand} (ho : o.op = .convert src dst ox)
    {x : SV} (hx : Den ρ x (e ox)) {K : SV → List Blk → List Nat → Prop} (h : eToBytes ar0 P hp src dst x K) : EffOK P ρ hp w o e K := by
  unfold eToBytes at h
  split at h
  · rename_i el s hu hd
    split at h
    · rename_i he
      simp only [Den] at hx
      have hrun := Lib.run_convert_string_bytes (P := P) w src dst el ⟨s.toArray⟩ hu hd he
      have hge : s.length ≤ grownCap w s.length 0 el := Nat.le_add_right _ _
      have hss : (⟨s.toArray⟩ : ByteArray).size = s.length := by simp [ByteArray.size]
      have hK := h (grownCap w s.length 0 el) (by simp only [ar0]; omega)
      refine ⟨_, .slice (some ⟨w.heap.size, 0, none⟩) s.length (grownCap w s.length 0 el), Lib.bytesWorld w el ⟨s.toArray⟩, ρ ++ [w.heap.size], _, _, [], ?_, .inl rfl, ?_, ?_, ?_, hK⟩
      · simp only [execOp, ho, hx, Sem.run_bind, hrun, Result.andThen_ok, hss]
        rfl
      · simp only [Den]
        refine ⟨some ⟨w.heap.size, 0, none⟩, w.heap.size, by rw [← H.len]; simp, ?_, by simp [zx, ar0], by simp only [zx, ar0]; omega, fun _ => rfl⟩
        simp [zx, ar0]
      · have s1 := Since.push H (.cells (Lib.bytesCells w el ⟨s.toArray⟩) el ((Lib.bytesCells w el ⟨s.toArray⟩).size, (Lib.bytesCells w el ⟨s.toArray⟩).size + 1))
          (.mk el [.arr (.x (grownCap w s.length 0 el : Int)) [.ints .u8 (ar0.ints s)]]) (fun w' hw => ⟨_, _, fun _ => ⟨hw, fun i hi hh => by omega⟩, by
            simp only [SegsOK]
            refine ⟨(Lib.bytesCells w el ⟨s.toArray⟩).toList, [], (List.append_nil _).symm, ?_, rfl⟩
            simp only [zx, Int.toNat_natCast, Lib.bytesCells, Array.toList_append, hss]
            have := arr_pad (n := grownCap w s.length 0 el) (k := .u8) (l := ar0.ints s) (r := (Array.replicate (grownCap w s.length 0 el - s.length) (Value.int .u8 0)).toList) (by simp [ar0]; omega)
              (fun v hv => by
                simp at hv
                rw [hv.2]
                exact ⟨(fun l h => by cases h), (fun l h => by cases h)⟩)
            simpa [ar0, Function.comp_def] using this⟩)
        exact s1.trans (Since.heap s1.hok (bytesWorld_heap w el _) rfl rfl rfl)
      · refine ⟨fun n hn hlt => List.getElem?_append_left hlt, fun n b y hn hy gy hb => ?_⟩
        cases y with
        | gone => exact gy.elim
        | mk t s' => rw [bytesWorld_heap, Array.getElem?_push, if_neg (Nat.ne_of_lt (H.lt hy gy hb))]
    · exact h.elim
  · exact h.elim
end Go.Eng
/- The executor: single cells seen as an array, where one writes at a place that is not known. -/
set_option linter.unusedSimpArgs false
set_option linter.unusedVariables false
set_option linter.unusedSectionVars false
namespace Go.Eng
variable [CW : CWorld]
def runLen (k : IntKind) : List Seg → Nat
  | .one (.int k' _) :: s => if k' = k then runLen k s + 1 else 0
  | _ => 0
def regroupAt : List Seg → Nat → List Seg
  | .one (.int k z) :: s, 0 =>
    match onesInts k (runLen k (.one (.int k z) :: s)) (.one (.int k z) :: s) with
    | some (l, s') => .arr (.l (runLen k (.one (.int k z) :: s) : Nat)) [.ints k l] :: s'
    | none => .one (.int k z) :: s
  | .one v :: s, b + 1 => .one v :: regroupAt s b
  | .arr (.l n) cols :: s, b => .arr (.l n) cols :: (if n.toNat * cols.length ≤ b then regroupAt s (b - n.toNat * cols.length) else s)
  | s, _ => s
theorem regroupAt_sound {ρ : List Nat} : ∀ {segs : List Seg} {b : Nat} {cs : List Value}, SegsOK ρ segs cs → SegsOK ρ (regroupAt segs b) cs
  | [], b, cs, h => by simpa [regroupAt] using h
  | .one v :: s, 0, cs, h => by
    cases v
    case int k z =>
      simp only [regroupAt]
      split
      · rename_i l s' ho
        obtain ⟨h1, cs', rfl, h2⟩ := onesInts_sound ho h
        refine ⟨l.map (Value.int k), cs', rfl, ?_, h2⟩
        simp only [zl]
        have := arr_of_ints (k := k) l
        rw [h1] at this
        simpa using this
      · exact h
    all_goals simpa [regroupAt] using h
  | .one v :: s, b + 1, cs, h => by
    have e : regroupAt (.one v :: s) (b + 1) = .one v :: regroupAt s b := by cases v <;> rfl
    rw [e]
    obtain ⟨c, cs', rfl, hc, hs⟩ := h
    exact ⟨c, cs', rfl, hc, regroupAt_sound hs⟩
  | .arr (.l n) cols :: s, b, cs, h => by
    simp only [regroupAt]
    obtain ⟨x, y, rfl, hx, hy⟩ := h
    refine ⟨x, y, rfl, hx, ?_⟩
    split
    · exact regroupAt_sound hy
    · exact hy
  | .arr (.x n) cols :: s, b, cs, h => by simpa [regroupAt] using h
def regroup (segs : List Seg) : Off → List Seg
  | .l _ => segs
  | .x base _ _ _ => regroupAt segs base
theorem regroup_sound {ρ : List Nat} {segs : List Seg} {o : Off} {cs : List Value} (h : SegsOK ρ segs cs) : SegsOK ρ (regroup segs o) cs := by
  cases o with
  | l _ => exact h
  | x => exact regroupAt_sound h
def regrN (hp : List Blk) (n : Nat) (o : Off) : List Blk :=
  match hp[n]? with
  | some (.mk t s) => hp.set n (.mk t (regroup s o))
  | _ => hp
theorem HOK.regr {ρ : List Nat} {hp : List Blk} {w : World} (H : HOK ρ hp w) (n : Nat) (o : Off) : HOK ρ (regrN hp n o) w := by
  unfold regrN
  split
  · rename_i t s hn
    have back : ∀ (i : Nat) (x : Blk), (hp.set n (.mk t (regroup s o)))[i]? = some x → ∃ (m0 : Nat) (y : Blk), hp[i]? = some y ∧ (∀ m, BlkOK ρ w m y → (x.there ↔ y.there)) ∧ ∀ m, BlkOK ρ w m y → BlkOK ρ w m x := fun i x hx => by
      by_cases hi : n = i
      · subst hi
        have hlt := (List.getElem?_eq_some_iff.1 hn).1
        rw [List.getElem?_set_self hlt] at hx
        cases hx
        refine ⟨0, _, hn, fun m ⟨cs, fz, h1, h3⟩ => ?_, fun m ⟨cs, fz, h1, h3⟩ => ⟨cs, fz, h1, regroup_sound h3⟩⟩
        simp only [Blk.there, ← segsOK_size h3, ← segsOK_size (regroup_sound (o := o) h3)]
      · rw [List.getElem?_set_ne hi] at hx
        exact ⟨0, x, hx, fun _ _ => Iff.rfl, fun _ h => h⟩
    exact {
      len := by simp [H.len]
      inj := fun i j m b c hi hj gi gj ri rj => by
        obtain ⟨_, b', hb, gb, _⟩ := back i b hi
        obtain ⟨_, c', hc, gc, _⟩ := back j c hj
        exact H.inj i j m b' c' hb hc ((gb m (H.ok i m b' hb ri)).1 gi) ((gc m (H.ok j m c' hc rj)).1 gj) ri rj
      ok := fun i m b hi hm => by
        obtain ⟨_, b', hb, _, hok⟩ := back i b hi
        exact hok m (H.ok i m b' hb hm)
      cst := H.cst
      above := fun i m b hi gb hm => by
        obtain ⟨_, b', hb, gb', _⟩ := back i b hi
        exact H.above i m b' hb ((gb' m (H.ok i m b' hb hm)).1 gb) hm }
  · exact H
theorem regr_own {ρ : List Nat} {hp : List Blk} {w : World} (H : HOK ρ hp w) (n : Nat) (o : Off) (m : Nat) : Own ρ (regrN hp n o) m ↔ Own ρ hp m := by
  unfold regrN
  split
  · rename_i t s hn
    have hlt := (List.getElem?_eq_some_iff.1 hn).1
    have same : ∀ b, ρ[n]? = some b → ((Blk.mk t (regroup s o)).there ↔ (Blk.mk t s).there) := fun b hb => by
      obtain ⟨cs, fz, h1, h3⟩ := H.ok n b _ hn hb
      simp only [Blk.there, ← segsOK_size h3, ← segsOK_size (regroup_sound (o := o) h3)]
    constructor
    · rintro ⟨i, x, hx, gx, hi⟩
      by_cases e : n = i
      · subst e
        rw [List.getElem?_set_self hlt] at hx
        cases hx
        exact ⟨n, _, hn, (same _ hi).1 gx, hi⟩
      · rw [List.getElem?_set_ne e] at hx
        exact ⟨i, x, hx, gx, hi⟩
    · rintro ⟨i, x, hx, gx, hi⟩
      by_cases e : n = i
      · subst e
        rw [hn] at hx
        cases hx
        exact ⟨n, _, List.getElem?_set_self hlt, (same _ hi).2 gx, hi⟩
      · exact ⟨i, x, by rw [List.getElem?_set_ne e]; exact hx, gx, hi⟩
  · exact Iff.rfl
theorem Since.own_eq {ρ0 : List Nat} {hp0 hp1 : List Blk} {w0 : World} {ρ : List Nat} {hp : List Blk} {w : World} (h : Since ρ0 hp0 w0 ρ hp w) (e : ∀ m, Own ρ0 hp0 m ↔ Own ρ0 hp1 m) : Since ρ0 hp1 w0 ρ hp w :=
  { h with new := fun n hn => (h.new n hn).imp id (e n).1, frame := fun b hb hn => h.frame b hb (fun ho => hn ((e b).1 ho)) }
def regr (hp : List Blk) : SV → List Blk
  | .ptr n (.x a b c d) => regrN hp n (.x a b c d)
  | .slc n (.x a b c d) _ _ => regrN hp n (.x a b c d)
  | _ => hp
def regrT : SV → List Nat
  | .ptr n (.x _ _ _ _) => [n]
  | .slc n (.x _ _ _ _) _ _ => [n]
  | _ => []
theorem EffOK.regr {P : Program} {ρ : List Nat} {hp : List Blk} {w : World} {o : Oper} {e : Operand → Value} {K : SV → List Blk → List Nat → Prop} (H : HOK ρ hp w) (a : SV)
    (h : HOK ρ (Eng.regr hp a) w → EffOK P ρ (Eng.regr hp a) w o e (fun sv hp' T => K sv hp' (regrT a ++ T))) : EffOK P ρ hp w o e K := by
  have aux : ∀ (n : Nat) (of : Off), EffOK P ρ (regrN hp n of) w o e (fun sv hp' T => K sv hp' ([n] ++ T)) → EffOK P ρ hp w o e K := fun n of h => by
    obtain ⟨nx, v, w', ρ', sv, hp', T, hr, hn, hd, hs, ht, hK⟩ := h
    refine ⟨nx, v, w', ρ', sv, hp', [n] ++ T, hr, hn, hd, hs.own_eq (regr_own H n of), ⟨fun m hm hlt => ?_, fun m b x hm hx gx hb => ?_⟩, hK⟩
    · have hmn : n ≠ m := fun e => hm (by simp [e])
      have hset : (regrN hp n of)[m]? = hp[m]? := by
        unfold regrN
        split
        · exact List.getElem?_set_ne hmn
        · rfl
      have hlen : (regrN hp n of).length = hp.length := by
        unfold regrN
        split
        · simp
        · rfl
      rw [ht.keep m (fun h => hm (List.mem_append_right _ h)) (by rw [hlen]; exact hlt), hset]
    · have hmn : n ≠ m := fun e => hm (by simp [e])
      have hset : (regrN hp n of)[m]? = hp[m]? := by
        unfold regrN
        split
        · exact List.getElem?_set_ne hmn
        · rfl
      exact ht.heap m b x (fun h => hm (List.mem_append_right _ h)) (by rw [hset]; exact hx) gx hb
  cases a
  case ptr n of =>
    cases of with
    | l => exact h H
    | x => exact aux _ _ (h (H.regr _ _))
  case slc n of l c =>
    cases of with
    | l => exact h H
    | x => exact aux _ _ (h (H.regr _ _))
  all_goals exact h H
end Go.Eng
/- The executor: append of make (bytes 0). -/
set_option linter.unusedSimpArgs false
set_option linter.unusedVariables false
set_option linter.unusedSectionVars false
namespace Go.Eng
variable [CW : CWorld]
variable (ar : AR)
def zeroB (n : Nat) : ByteArray := ⟨(List.replicate n (0 : UInt8)).toArray⟩
theorem zeroB_size (n : Nat) : (zeroB n).size = n := by simp [zeroB, ByteArray.size]
theorem zeroB_cells (n : Nat) : ((zeroB n).extract 0 n).data.map (fun b => Value.int .u8 b.toNat) = Builtin.zeroCells #[Value.int .u8 0] n := by
  apply Array.ext'
  rw [show (zeroB n).extract 0 n = zeroB n from by
    have := ByteArray.extract_zero_size (b := zeroB n)
    rwa [zeroB_size] at this]
  simp only [zeroB, Builtin.zeroCells, Array.toList_map, List.map_replicate, Array.toList_range]
  apply List.ext_getElem
  · simp
  · intro i h1 h2
    simp [Nat.mod_one]
theorem wrap_nat {n : Nat} (h1 : n < 9223372036854775808) : IntKind.i64.wrap (n : Int) = (n : Int) := by
  show (if (true && decide ((n : Int) % (2 ^ 64 : Int) ≥ (2 ^ 63 : Int))) = true then (n : Int) % (2 ^ 64 : Int) - (2 ^ 64 : Int) else (n : Int) % (2 ^ 64 : Int)) = n
  rw [show (2 : Int) ^ 64 = 18446744073709551616 by decide, show (2 : Int) ^ 63 = 9223372036854775808 by decide]
  rw [if_neg (by simp; omega)]
  omega
theorem append_make {P : Program} {w w' : World} {ts : Array TypeId} {sT xT elem : TypeId} {t : TypeId} {base : Option Addr} {sLen sCap n : Nat} {kx : IntKind} {v : Value} {i : TypeInfo}
    (h0 : ts[0]? = some sT) (h1 : ts[1]? = some xT) (hu : P.underlying sT = some (.slice elem)) (hx : P.underlying xT = some (.int kx)) (hi : P.info? elem = some i) (hsz : i.size = 1) (hby : i.bytes ≤ 8) (hby0 : 0 < i.bytes) (hzero : i.zero = some (.int .u8 0)) (hn : n ≤ 1000000000000)
    (h : (Builtin.append_ #[sT, sT] t #[.slice base sLen sCap, .string (zeroB n)]).run P w = .ok v w') :
    (Builtin.append_ ts t #[.slice base sLen sCap, .int .i64 (n : Int)]).run P w = .ok v w' := by
  have hinfo : ∀ w' : World, (typeInfo elem).run P w' = .ok i w' := fun w' => by simp [typeInfo, hi]
  have hzv : ∀ w' : World, (zeroValue elem).run P w' = .ok (.int .u8 0) w' := fun w' => by simp [zeroValue, typeInfo, hi, hzero]
  have hwr : IntKind.i64.wrap (n : Int) = (n : Int) := wrap_nat (by omega)
  have hbig : ¬ ((n : Int) * (i.bytes : Int) > 2 ^ 48) := by
    have : (n : Int) * (i.bytes : Int) ≤ 1000000000000 * 8 := Int.mul_le_mul (by omega) (by omega) (by omega) (by omega)
    have e : (2 : Int) ^ 48 = 281474976710656 := by decide
    omega
  have hl : ∀ w, (Builtin.lenOf (.string (zeroB n))).run P w = .ok n w := fun w => by simp [Builtin.lenOf, zeroB_size]
  have ha : ∀ w, (asInt (.int .i64 (n : Int))).run P w = .ok (n : Int) w := fun w => by simp [asInt, asIntOf]
  have hf : ∀ w, (Builtin.firstCells 1 n (.string (zeroB n))).run P w = .ok (Builtin.zeroCells #[Value.int .u8 0] n) w := fun w => by simp only [Builtin.firstCells, Sem.run_pure, zeroB_cells]
  have hg : ∀ w, (if n * 1 = 0 then pure #[] else do pure (Builtin.zeroCells (← zeroValue elem).cells n) : Sem (Array Value)).run P w = .ok (Builtin.zeroCells #[Value.int .u8 0] n) w := fun w => by
    by_cases h0 : n = 0
    · subst h0; simp [Builtin.zeroCells]
    · rw [if_neg (by omega)]
      simp only [Sem.run_bind, hzv, Result.andThen_ok, Sem.run_pure]
      rfl
  unfold Builtin.append_ at h ⊢
  simp only [h0, h1, List.getElem?_toArray, List.getElem?_cons_zero, List.getElem?_cons_succ, Sem.run_bind, run_underlying hu, Result.andThen_ok, run_sizeOf (show szOf P elem = some 1 by simp [szOf, hi, hsz]), run_underlying hx, Sem.run_pure,
    Bool.false_eq_true, if_false, Bool.not_false, if_true, hinfo, Bool.not_true, hl, ha, hwr] at h ⊢
  rw [if_neg (by omega)]
  simp only [Sem.run_bind, hinfo, Result.andThen_ok]
  rw [if_neg hbig]
  simp only [Sem.run_bind, Sem.run_pure, Result.andThen_ok, Int.toNat_natCast]
  by_cases hle : sLen + n ≤ sCap
  · rw [if_pos hle] at h ⊢
    simp only [Sem.run_bind] at h ⊢
    rw [hf] at h
    rw [hg]
    exact h
  · rw [if_neg hle] at h ⊢
    have hb0 : ¬ i.bytes = 0 := by omega
    simp only [Sem.run_bind, hinfo, Result.andThen_ok, hb0, or_self, and_false, if_false] at h ⊢
    by_cases hcap : Builtin.nextslicecap (sLen + n) sCap * i.bytes > 2 ^ 48
    · exfalso
      rw [if_pos hcap] at h
      simp only [Sem.run_bind] at h
      cases hm : (Builtin.mayShare 1 sLen n base (.string (zeroB n))).run P w with
      | ok b w1 =>
        rw [hm] at h
        simp only [Result.andThen_ok] at h
        cases b <;> simp [Result.andThen] at h
      | halt a b =>
        rw [hm] at h
        simp [Result.andThen] at h
    · have h1 := le_nextslicecap (need := sLen + n) (old := sCap) (by omega)
      have h2 : (sLen + n) * 1 ≤ Builtin.nextslicecap (sLen + n) sCap * i.bytes := Nat.mul_le_mul h1 hby0
      have hmax : ¬ (((sLen + n : Nat) : Int) > IntKind.i64.max ∧ (True ∨ False)) := by
        have : IntKind.i64.max = 9223372036854775807 := rfl
        intro hh
        omega
      rw [if_neg hcap] at h
      rw [if_neg hmax]
      simp only [Sem.run_bind, hinfo, Result.andThen_ok]
      rw [if_neg hcap]
      simp only [Sem.run_bind, hinfo, Result.andThen_ok, hf] at h
      simp only [Sem.run_bind, hinfo, Result.andThen_ok, hg]
      exact h
def isU8 (P : Program) (elem : TypeId) : Bool :=
  match P.info? elem with
  | some i =>
    match i.size, i.bytes, i.zero with
    | 1, 1, some (.int .u8 n) => n == 0
    | _, _, _ => false
  | none => false
theorem isU8_sound {P : Program} {elem : TypeId} (h : isU8 P elem = true) : ∃ i : TypeInfo, P.info? elem = some i ∧ i.size = 1 ∧ i.bytes = 1 ∧ i.zero = some (.int .u8 0) := by
  unfold isU8 at h
  split at h
  · rename_i i hi
    split at h
    · rename_i n h1 h2 h3
      have : n = 0 := by simpa using h
      subst this
      exact ⟨i, hi, h1, h2, h3⟩
    · cases h
  · cases h
def eAppendMake (P : Program) (hp : List Blk) (sT : TypeId) (s x : SV) (K : SV → List Blk → List Nat → Prop) : Prop :=
  match x, P.underlying sT with
  | .int .i64 n, some (.slice elem) =>
    match isU8 P elem with
    | true => vcs [ar.le 0 n.val, ar.le n.val 1000000000000] (eAppend ar P hp sT sT s (.str ((ar.irep 0 n.val).map fun m => UInt8.ofNat m.toNat)) K)
    | false => False
  | _, _ => False
def evC : Operand → Value
  | .const v => v
  | _ => undef
theorem eAppendMake_sound {P : Program} {ρ : List Nat} {hp : List Blk} {w : World} (H : HOK ρ hp w) {o : Oper} {e : Operand → Value} {oa ox : Operand} {sT xT : TypeId} {l : List TypeId} {kx : IntKind}
    (ho : o.op = .call { callee := .builtin .append, args := #[oa, ox], argTypes := (sT :: xT :: l).toArray }) (hxT : P.underlying xT = some (.int kx))
    {a x : SV} (ha : Den ρ a (e oa)) (hx : Den ρ x (e ox)) {K : SV → List Blk → List Nat → Prop} (h : eAppendMake ar0 P hp sT a x K) : EffOK P ρ hp w o e K := by
  unfold eAppendMake at h
  split at h
  rotate_left
  · exact h.elim
  rename_i n elem hu
  split at h
  rotate_left
  · exact h.elim
  rename_i h8
  obtain ⟨i, hi, hisz, hiby, hiz⟩ := isU8_sound h8
  obtain ⟨hv, h⟩ := vcs_iff.1 h
  simp only [AllP, ar0, and_true] at hv
  simp only [Den] at hx
  have hstr : Den ρ (.str ((ar0.irep 0 n.val).map fun m => UInt8.ofNat m.toNat)) (evC (.const (.string (zeroB n.val.toNat)))) := by
    simp only [Den, evC, zeroB]
    congr 3
    show _ = List.map _ (List.replicate n.val.toNat 0)
    simp
  obtain ⟨nx, v, w', ρ', sv, hp', T, hrun, hcase, h1, h2, h3, h4⟩ := eAppend_sound H (o := { o with op := .call { callee := .builtin .append, args := #[.const (e oa), .const (.string (zeroB n.val.toNat))], argTypes := #[sT, sT] } }) (e := evC) (oa := .const (e oa)) (ox := .const (.string (zeroB n.val.toNat))) rfl rfl rfl (show Den ρ a (evC (.const (e oa))) from ha) hstr h
  refine ⟨nx, v, w', ρ', sv, hp', T, ?_, hcase, h1, h2, h3, h4⟩
  simp only [execOp, resolve, Sem.run_bind, Sem.run_pure, Result.andThen_ok, invoke, builtin] at hrun
  simp only [execOp, ho, resolve, Sem.run_bind, Sem.run_pure, Result.andThen_ok, invoke, builtin]
  have e1 : (#[Operand.const (e oa), Operand.const (.string (zeroB n.val.toNat))].map evC) = #[e oa, .string (zeroB n.val.toNat)] := by simp [evC]
  have e2 : (#[oa, ox].map e) = #[e oa, .int .i64 ((n.val.toNat : Nat) : Int)] := by simp [hx]; omega
  rw [e1] at hrun
  rw [e2]
  cases hm : (Builtin.append_ #[sT, sT] o.type #[e oa, .string (zeroB n.val.toNat)]).run P w with
  | halt b w1 => rw [hm] at hrun; cases hrun
  | ok v0 w1 =>
    have hsl : ∃ base sl sc, e oa = .slice base sl sc := by
      cases hv : e oa <;> first
        | exact ⟨_, _, _, rfl⟩
        | (exfalso
           rw [hv] at hm
           unfold Builtin.append_ at hm
           simp only [List.getElem?_toArray, List.getElem?_cons_zero, List.getElem?_cons_succ, Sem.run_bind, run_underlying hu, Result.andThen_ok] at hm
           cases hm)
    obtain ⟨base, sl, sc, hsl⟩ := hsl
    rw [hsl] at hm hrun ⊢
    rw [hm] at hrun
    rw [append_make (ts := (sT :: xT :: l).toArray) rfl rfl hu hxT hi hisz (by omega) (by omega) hiz (by omega) hm]
    exact hrun
end Go.Eng
set_option linter.unusedSimpArgs false
set_option linter.unusedVariables false
set_option linter.unusedSectionVars false
namespace Go.Eng
variable [CW : CWorld]
variable (ar : AR)
noncomputable def eff (P : Program) (hp : List Blk) (E : Operand → SV) (o : Op) (K : SV → List Blk → List Nat → Prop) : Prop :=
  match o with
  | .store t a x => eStore ar P (regr hp (E a)) t (E a) (E x) fun sv hp' T => K sv hp' (regrT (E a) ++ T)
  | .alloc t => eAlloc P hp t K
  | .box t x => eBox hp t (E x) K
  | .makeSlice t l c => eMake ar P hp t (E l) (E c) K
  | .buildSlice t n ps => eBuildSlice P hp t n (ps.toList.map fun p => (p.1, E p.2)) K
  | .convert s d x => eToBytes ar P hp s d (E x) K
  | .makeMap _ none => eMakeMap hp K
  | .call { callee := .builtin b, args, argTypes } =>
    match b, args.toList, argTypes.toList with
    | .append, [a, x], s :: t :: _ =>
      match P.underlying t with
      | some (.int _) => eAppendMake ar P hp s (E a) (E x) K
      | _ => eAppend ar P hp s t (E a) (E x) K
    | .copy, [a, x], s :: _ => eCopy ar P (regr hp (E a)) s (E a) (E x) fun sv hp' T => K sv hp' (regrT (E a) ++ T)
    | .clear, [a], s :: _ => eClear ar P (regr hp (E a)) s (E a) fun sv hp' T => K sv hp' (regrT (E a) ++ T)
    | _, _, _ => False
  | _ => False
theorem eff_sound {P : Program} {ρ : List Nat} {hp : List Blk} {w : World} (H : HOK ρ hp w) {E : Operand → SV} {e : Operand → Value} (hE : ∀ x, Den ρ (E x) (e x)) {o : Oper}
    {K : SV → List Blk → List Nat → Prop} (h : eff ar0 P hp E o.op K) : EffOK P ρ hp w o e K := by
  obtain ⟨dst, op, type, pos, after, guard⟩ := o
  cases op
  case store t a x => exact EffOK.regr H (E a) fun H' => eStore_sound H' rfl (hE a) (hE x) h
  case alloc t => exact eAlloc_sound H rfl h
  case box t x => exact eBox_sound H rfl (hE x) h
  case makeSlice t l c => exact eMake_sound H rfl (hE l) (hE c) h
  case buildSlice t n ps =>
    have h' : eBuildSlice P hp t n (ps.toList.map fun p => (p.1, E p.2)) K := h
    refine eBuildSlice_sound H (t := t) (len := n) (ps := ps) rfl ?_ h'
    rw [Array.toList_map]
    exact denP_map hE _
  case convert s d x => exact eToBytes_sound H rfl (hE x) h
  case makeMap t r =>
    cases r with
    | none => exact eMakeMap_sound H rfl h
    | some r => exact h.elim
  case call c =>
    obtain ⟨callee, args, argTypes⟩ := c
    cases callee
    case builtin b =>
      unfold eff at h
      simp only at h
      obtain ⟨args⟩ := args
      obtain ⟨argTypes⟩ := argTypes
      simp only at h
      split at h
      · subst_vars
        split at h
        · rename_i hxT
          exact eAppendMake_sound H rfl hxT (hE _) (hE _) h
        · exact eAppend_sound H rfl rfl rfl (hE _) (hE _) h
      · subst_vars
        exact EffOK.regr H _ fun H' => eCopy_sound H' rfl rfl (hE _) (hE _) h
      · subst_vars
        exact EffOK.regr H _ fun H' => eClear_sound H' rfl rfl (hE _) h
      · exact h.elim
    all_goals exact h.elim
  all_goals exact h.elim
end Go.Eng

