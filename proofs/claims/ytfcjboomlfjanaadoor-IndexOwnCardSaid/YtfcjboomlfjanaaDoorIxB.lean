/- Index: which tables fit. -/
import Derived.Test.YtfcjboomlfjanaaDoorIxA
import Derived.WalkKit
import Derived.LoopTactic
set_option linter.unusedVariables false
set_option linter.unusedSimpArgs false
/- Names: path.Name, walked by hand (a range over a text). -/
namespace Go.PL
structure NChr (b : UInt8) : Prop where
  lo : 32 < b.toNat
  hi : b.toNat ≤ 126
  no : b.toNat ≠ 47
structure NameOK (s : List UInt8) : Prop where
  ne : s ≠ []
  len : s.length ≤ 32
  d : s ≠ [46]
  dd : s ≠ [46, 46]
  b : ∀ x ∈ s, NChr x
open Classical in
noncomputable def nameI (s : List UInt8) : Int := if NameOK s then 0 else 111
theorem nameI_no {s : List UInt8} (h : ¬ NameOK s) : nameI s = 111 := if_neg h
theorem nameI_ok {s : List UInt8} (h : NameOK s) : nameI s = 0 := if_pos h
theorem nameI_bad {s : ByteArray} (h : s.toList = [] ∨ 32 < (s.size : Int) ∨ s.toList = [46] ∨ s.toList = [46, 46]) : nameI s.data.toList = 111 := by
  refine nameI_no fun k => ?_
  rw [ByteArray.toList_eq] at h
  rcases h with h | h | h | h
  · exact k.ne h
  · have := k.len
    have e : s.data.toList.length = s.size := Array.length_toList
    omega
  · exact k.d h
  · exact k.dd h
theorem mem_at {s : ByteArray} {pos : Nat} (hp : pos < s.size) : s[pos] ∈ s.data.toList := by
  have : s.data.toList[pos]'(by simpa using hp) = s[pos] := by simp only [Array.getElem_toList]; rfl
  rw [← this]
  exact List.getElem_mem _
theorem nameI_chr {s : ByteArray} {pos : Nat} (hp : pos < s.size) (h : ((Utf8.decode s pos).1 : Int) ≤ 32 ∨ 126 < ((Utf8.decode s pos).1 : Int) ∨ ((Utf8.decode s pos).1 : Int) = 47) : nameI s.data.toList = 111 := by
  refine nameI_no fun k => ?_
  have c := k.b _ (mem_at hp)
  have c1 := c.lo
  have c2 := c.hi
  have c3 := c.no
  rw [decode_ascii s pos hp (by omega)] at h
  simp only at h
  omega
theorem chr_next {s : ByteArray} {pos : Nat} (hp : pos < s.size) (h1 : 32 < ((Utf8.decode s pos).1 : Int)) (h2 : ((Utf8.decode s pos).1 : Int) ≤ 126) (h3 : ¬ ((Utf8.decode s pos).1 : Int) = 47) : NChr s[pos] ∧ (Utf8.decode s pos).2 = 1 := by
  by_cases ha : (s[pos]'hp).toNat < 128
  · rw [decode_ascii s pos hp ha] at h1 h2 h3 ⊢
    simp only at h1 h2 h3
    exact ⟨⟨by omega, by omega, by omega⟩, rfl⟩
  · have := (decode_high s pos hp (by omega)).1
    omega
theorem nameI_end {s : ByteArray} (h1 : ¬ s.toList = []) (h2 : (s.size : Int) ≤ 32) (h3 : ¬ s.toList = [46]) (h4 : ¬ s.toList = [46, 46]) (hc : ∀ i (h : i < s.size), NChr s[i]) : nameI s.data.toList = 0 := by
  rw [ByteArray.toList_eq] at h1 h3 h4
  have e : s.data.toList.length = s.size := Array.length_toList
  refine nameI_ok ⟨h1, by omega, h3, h4, fun x hx => ?_⟩
  obtain ⟨i, hi, rfl⟩ := List.mem_iff_getElem.1 hx
  have := hc i (by omega)
  have e2 : s.data.toList[i] = s[i]'(by omega) := by simp only [Array.getElem_toList]; rfl
  rwa [e2]
end Go.PL
namespace Go.Eng
open Go.Proofs
set_option maxHeartbeats 1600000 in
set_option maxRecDepth 1000000 in
theorem name_walk (s : ByteArray) (w : World) :
    Calls Tryd.prog 85 #[.string s] w fun e w' => e = .returned (.int .i64 (PL.nameI s.data.toList)) ∧ (w' = w ∨ ∃ pos, w' = w.iter s pos) := by
  go_enter Tryd.func85, Tryd.ntmps85
  go_wp2
  all_goals try (go_ret; refine ⟨?_, .inl rfl⟩; first | rw [PL.nameI_bad (.inl ‹_›)] | rw [PL.nameI_bad (.inr (.inl ‹_›))] | rw [PL.nameI_bad (.inr (.inr (.inl ‹_›)))] | (rename_i hx; rw [PL.nameI_bad (by simpa [or_assoc] using hx)]))
  all_goals try rfl
  have hx : ((s.toList.isEmpty = false ∧ (s.size : Int) ≤ 32) ∧ (s.toList == [46]) = false) ∧ (s.toList == [46, 46]) = false := by assumption
  have hdd : ¬ s.toList = [46, 46] := by simpa using hx.2
  obtain ⟨⟨⟨y1, y2⟩, y3⟩, y4⟩ := hx
  simp only [y1, y3, y4, Bool.false_or, Bool.or_false]
  go_loopw [4] (fun _ w' => ∃ pos : Nat, w' = w.iter s pos ∧ ∀ i (h : i < s.size), i < pos → PL.NChr s[i]) (fun _ w' => s.size - w'.iterPos w.heap.size)
  case atStart => exact ⟨0, rfl, fun i h h0 => by omega⟩
  case round =>
    obtain ⟨pos, rfl, hc⟩ := hrel
    by_cases hp : pos < s.size
    · have hnx : ∀ ty, (Instr.next (.pointer (some ⟨w.heap.size, 0, none⟩)) true ty).run Tryd.prog (w.iter s pos) = _ := fun ty => run_next_any w s pos ty hp
      go_wp2
      all_goals try (go_ret; refine ⟨?_, .inr ⟨_, rfl⟩⟩; first | rw [PL.nameI_chr hp (.inl ‹_›)] | rw [PL.nameI_chr hp (.inr (.inl ‹_›))] | rw [PL.nameI_chr hp (.inr (.inr ‹_›))] | (rename_i hx; rw [PL.nameI_chr hp (by simpa [or_assoc] using hx)]))
      all_goals try rfl
      rename_i hx
      obtain ⟨⟨x1, x2⟩, x3⟩ := hx
      obtain ⟨c1, c2⟩ := PL.chr_next hp x1 x2 (by simpa using x3)
      go_roundw
      case rel =>
        refine ⟨pos + 1, by rw [c2], fun i h h0 => ?_⟩
        by_cases hi : i = pos
        · subst hi; exact c1
        · exact hc i h (by omega)
      case measure =>
        rw [c2]
        simp
        omega
    · have hnx : ∀ ty, (Instr.next (.pointer (some ⟨w.heap.size, 0, none⟩)) true ty).run Tryd.prog (w.iter s pos) = _ := fun ty => run_next_end w s pos ty hp
      go_wp2
      go_ret
      refine ⟨?_, .inr ⟨_, rfl⟩⟩
      rw [PL.nameI_end ‹_› ‹_› ‹_› hdd (fun i h => hc i h (by omega))]
      rfl
variable [CW : CWorld]
set_option linter.unusedVariables false in
theorem since_iter {w : World} {s : ByteArray} {pos : Nat} (H : HOK [] [] w) : Since [] [] w [] [] (w.iter s pos) := by
  have hs : w.heap.size ≤ (w.iter s pos).heap.size := by simp [World.iter]
  have hf : ∀ b, b < w.heap.size → (w.iter s pos).heap[b]? = w.heap[b]? := fun b hb => by
    simp only [World.iter, World.alloc]
    exact Array.getElem?_push_lt hb |>.trans (by simp [hb])
  refine { hok := { len := rfl, inj := fun i j n b c hi => by simp at hi, ok := fun i n b hi => by simp at hi, cst := fun b hb => ?_, above := fun i n b hi => by simp at hi }, old := ⟨[], rfl⟩, new := fun n ⟨i, x, hi, _⟩ => by simp at hi, frame := fun b hb _ => hf b hb, size := hs, tape := rfl, os := rfl, out := rfl }
  have hb2 : b < w.heap.size := by
    have := H.cst b hb
    rw [Array.getElem?_eq_getElem hb] at this
    exact (Array.getElem?_eq_some_iff.1 this).1
  rw [hf b hb2]
  exact H.cst b hb
noncomputable def nameSpec : Spec where
  X := List UInt8
  A x := [.str x]
  H _ := []
  pre _ := True
  outs := [{ Y _ := Unit, post _ _ := True, R x _ := .int .i64 (.x (PL.nameI x)), H' _ _ := [] }]
theorem nameSpec_ok : nameSpec.OK PP 85 := by
  refine ⟨⟨Tryd.f85, Tryd.func85, by kernel_rfl, by kernel_rfl⟩, fun x _ ρ w vs hd H => ?_⟩
  have hl : ρ.length = 0 := H.len
  obtain rfl : ρ = [] := List.eq_nil_of_length_eq_zero hl
  have hd1 : DenL [] [.str x] vs := hd
  simp only [DenL, Den] at hd1
  obtain ⟨v, _, rfl, rfl, rfl⟩ := hd1
  refine (name_walk ⟨x.toArray⟩ w).mono fun e w' he => ?_
  refine ⟨_, _, (), [], List.mem_singleton.2 rfl, he.1, trivial, rfl, ?_⟩
  rcases he.2 with h | ⟨pos, h⟩
  · subst h
    exact Since.refl H
  · subst h
    exact since_iter H
end Go.Eng
/- Index: names, nodes; what fits. -/
namespace Go.PL
structure Nod where
  kind : Int
  number : Int
  parent : Int
  name : List UInt8
  size : Int
structure NodeOK (c : Cfg) (n : Nod) : Prop where
  parent : 0 ≤ n.parent ∧ n.parent ≤ c.dirs
  name : NameOK n.name
  rest : (n.kind = 1 ∧ (1 ≤ n.number ∧ n.number ≤ c.dirs) ∧ n.size = 0) ∨ (n.kind = 2 ∧ (0 ≤ n.number ∧ n.number ≤ c.files - 1) ∧ (0 ≤ n.size ∧ n.size ≤ c.most))
structure Behind (n ahead : Nod) : Prop where
  b : n.kind > ahead.kind ∨ n.kind = ahead.kind ∧ n.number > ahead.number
structure NameAt (s : List UInt8) (i : Nat) : Prop where
  le : i ≤ s.length
  all : ∀ j, j < i → NChr (s.getD j 0)
structure NodeIn (x : Cfg × Nod) : Prop where
  cfg : CfgIn x.1
structure NodeAny (x : Nod × Nod) : Prop where
  any : True
theorem nodeOK_iff {c : Cfg} {n : Nod} : NodeOK c n ↔ (0 ≤ n.parent ∧ n.parent ≤ c.dirs) ∧ NameOK n.name ∧ ((n.kind = 1 ∧ (1 ≤ n.number ∧ n.number ≤ c.dirs) ∧ n.size = 0) ∨ (n.kind = 2 ∧ (0 ≤ n.number ∧ n.number ≤ c.files - 1) ∧ (0 ≤ n.size ∧ n.size ≤ c.most))) :=
  ⟨fun h => ⟨h.parent, h.name, h.rest⟩, fun h => ⟨h.1, h.2.1, h.2.2⟩⟩
theorem behind_iff {n m : Nod} : Behind n m ↔ (n.kind > m.kind ∨ n.kind = m.kind ∧ n.number > m.number) := ⟨fun h => h.b, fun h => ⟨h⟩⟩
theorem getD_at {s : List UInt8} {i : Nat} (h : i < s.length) : s.getD i 0 = s[i] := by
  rw [List.getD_eq_getElem?_getD, List.getElem?_eq_getElem h]
  rfl
theorem getD_mem {s : List UInt8} {i : Nat} (h : i < s.length) : s.getD i 0 ∈ s := by
  rw [List.getD_eq_getElem?_getD, List.getElem?_eq_getElem h]
  exact List.getElem_mem h
theorem nameI_zero {s : List UInt8} : nameI s = 0 ↔ NameOK s := by
  constructor
  · intro h
    by_cases k : NameOK s
    · exact k
    · rw [nameI_no k] at h; omega
  · exact nameI_ok
end Go.PL
set_option linter.unusedSectionVars false
set_option linter.unusedSimpArgs false
set_option linter.unusedVariables false
namespace Go.Eng
variable [CW : CWorld]
open Go.Proofs
open Go.PL (Cfg CfgIn CfgOK CfgBad Nod)
set_option maxRecDepth 100000
attribute [local irreducible] run
def nodeL (n : Nod) : List SV := [.int .i64 (.x n.kind), .int .i64 (.x n.number), .int .i64 (.x n.parent), .str n.name, .int .i64 (.x n.size)]
def rnameInv (x : List UInt8) : Code → List SV → List Blk → List Inv := fun b fr hp => [
  { ι := Nat, fr := fun i => only b fr 3 [] [(3, .int .i64 (.x (i : Int)))], hp := fun i => hp, μ := fun i => x.length - i, ok := fun i => PL.NameAt x i }]
def rnameInvs (x : List UInt8) : Invs := fun f n => match f, n with
  | 93, 4 => some (rnameInv x)
  | _, _ => none
def rname_vc (ar : AR) (x : nameSpec.X) : Prop :=
  ((ar.lt (ar.slen x) 1 → False) → ((ar.lt 32 (ar.slen x) → False) → ((ar.seq x [UInt8.ofNat 46] → False) → (ar.seq x [UInt8.ofNat 46, UInt8.ofNat 46] → ∃ (y : Unit), True ∧ 111 =
  PL.nameI x ∧ True) ∧ (¬ar.seq x [UInt8.ofNat 46, UInt8.ofNat 46] → (∃ (i : Nat), PL.NameAt x i ∧ x = x ∧ 0 = (↑i : Int) ∧ True) ∧ ∀ (i : Nat), PL.NameAt x i → (ar.lt (↑i : Int)
  (ar.slen x) → ar.le 0 (↑i : Int) ∧ ar.lt (↑i : Int) (ar.slen x) ∧ ∀ (z : Int), z = ar.sget x (↑i : Int) → ((ar.lt z 33 → False) → ar.le 0 (↑i : Int) ∧ ar.lt (↑i : Int) (ar.slen
  x) ∧ ∀ (z : Int), z = ar.sget x (↑i : Int) → ((ar.lt 126 z → False) → ar.le 0 (↑i : Int) ∧ ar.lt (↑i : Int) (ar.slen x) ∧ ∀ (z : Int), z = ar.sget x (↑i : Int) → (ar.eq z 47 → ∃
  (y : Unit), True ∧ 111 = PL.nameI x ∧ True) ∧ (¬ar.eq z 47 → ∀ (z : Int), z = ar.wrap IntKind.i64 (ar.add (↑i : Int) 1) → ∃ (j : Nat), PL.NameAt x j ∧ ((List.length x).sub j).lt
  ((List.length x).sub i) ∧ x = x ∧ z = (↑j : Int) ∧ True)) ∧ (¬(ar.lt 126 z → False) → ∃ (y : Unit), True ∧ 111 = PL.nameI x ∧ True)) ∧ (¬(ar.lt z 33 → False) → ∃ (y : Unit), True
  ∧ 111 = PL.nameI x ∧ True)) ∧ (¬ar.lt (↑i : Int) (ar.slen x) → ∃ (y : Unit), True ∧ 0 = PL.nameI x ∧ True))) ∧ (¬(ar.seq x [UInt8.ofNat 46] → False) → ∃ (y : Unit), True ∧ 111 =
  PL.nameI x ∧ True)) ∧ (¬(ar.lt 32 (ar.slen x) → False) → ∃ (y : Unit), True ∧ 111 = PL.nameI x ∧ True)) ∧ (¬(ar.lt (ar.slen x) 1 → False) → ∃ (y : Unit), True ∧ 111 = PL.nameI x
  ∧ True)
theorem rname_eq (ar : AR) (x : nameSpec.X) : (run ar PP noSpec (rnameInvs x) 1000 93 (nameSpec.H x).length (Tryd.f93.body.getD .skip) (nameSpec.A x ++ List.replicate (Tryd.f93.ntmps - (nameSpec.A x).length) .any) (nameSpec.H x) (endCall ar PP Tryd.f93.results.toList (nameSpec.fin x))) = rname_vc ar x := by
  kernel_rfl
theorem rname_of (h : ∀ x, nameSpec.pre x → rname_vc ar0 x) : nameSpec.OK PP 93 :=
  Spec.ok_of_run (fn := Tryd.f93) (c := Tryd.f93.body.getD .skip) (by kernel_rfl) (by kernel_rfl) (by kernel_rfl) noSpec_ok rnameInvs 1000 (fun x hx => (rname_eq ar0 x).mpr (h x hx))
theorem rname_ok : nameSpec.OK PP 93 := by
  refine rname_of fun x _ => ?_
  unfold rname_vc
  simp only [ars, ars2, true_and, and_true, exists_const, imp_false, Classical.not_not]
  have bad : ∀ {p : Prop}, (p → ¬ PL.NameOK x) → p → 111 = PL.nameI x := fun h hp => (PL.nameI_no (h hp)).symm
  simp only [ar0]
  have b46 : UInt8.ofNat 46 = 46 := rfl
  simp only [b46, Int.toNat_natCast]
  refine ⟨fun l1 => ⟨fun l2 => ⟨fun d1 => ⟨bad fun h k => k.dd h, fun d2 => ⟨⟨0, ⟨by omega, fun j hj => by omega⟩, rfl⟩, fun i hi => ⟨fun hlt => ⟨by omega, hlt, fun z hz => ⟨fun c1 => ⟨by omega, hlt, fun z2 hz2 => ⟨fun c2 => ⟨by omega, hlt, fun z3 hz3 => ⟨bad fun h k => ?_, fun c3 z4 hz4 => ?_⟩⟩, bad fun h k => ?_⟩⟩, bad fun h k => ?_⟩⟩, fun hge => ?_⟩⟩⟩, bad fun h k => k.d h⟩, bad fun h k => by have := k.len; omega⟩, bad fun h k => k.ne (List.eq_nil_of_length_eq_zero (by omega))⟩
  · have := (k.b _ (PL.getD_mem (by omega : i < List.length x))).no
    omega
  · rw [wrap_i64 (by omega) (by omega)] at hz4
    refine ⟨i + 1, ⟨by omega, fun j hj => ?_⟩, by omega, by omega⟩
    by_cases e : j = i
    · subst e; exact ⟨by omega, by omega, by omega⟩
    · exact hi.all j (by omega)
  · have := (k.b _ (PL.getD_mem (by omega : i < List.length x))).hi
    omega
  · have := (k.b _ (PL.getD_mem (by omega : i < List.length x))).lo
    omega
  · refine (PL.nameI_ok ⟨fun h => by simp [h] at l1, by omega, d1, d2, fun b hb => ?_⟩).symm
    obtain ⟨j, hj, rfl⟩ := List.mem_iff_getElem.1 hb
    have := hi.all j (by omega)
    exact (PL.getD_at (s := x) hj) ▸ this
noncomputable def nSpecs : Specs := fun f a h => match f with
  | 85 => some nameSpec
  | 93 => some nameSpec
  | _ => eSpecs f a h
theorem nSpecs_ok : SpecsOK PP nSpecs := by
  intro CW f xs _ S h
  unfold nSpecs at h
  split at h
  · cases h; exact nameSpec_ok
  · cases h; exact rname_ok
  · exact eSpecs_ok CW _ _ _ _ h
noncomputable def fitSpec : Spec where
  X := Cfg × Nod
  A x := [.agg (cfgL x.1), .agg (nodeL x.2)]
  H _ := []
  pre x := PL.NodeIn x
  outs := [{ Y _ := Unit, post _ _ := True, R x _ := .bool (.x (PL.NodeOK x.1 x.2)), H' _ _ := [] }]
def fits_vc (ar : AR) (x : fitSpec.X) : Prop :=
  ∃ (x_1 : Int × Int × Int), x.snd.parent = x_1.fst ∧ 0 = x_1.2.fst ∧ x.fst.dirs = x_1.2.snd ∧ PL.Ints3 x_1 ∧ ∀ (y : Unit), True → ((¬(x_1.2.fst.le x_1.fst ∧ x_1.fst.le x_1.2.snd)
  → False) → ∃ (x_2 : List UInt8), x.snd.name = x_2 ∧ True ∧ ∀ (y : Unit), True → (¬ar.eq (PL.nameI x_2) 0 → ∃ (y : Unit), True ∧ (false = true ↔ PL.NodeOK x.fst x.snd) ∧ True) ∧
  (¬¬ar.eq (PL.nameI x_2) 0 → (ar.eq x.snd.kind 1 → ∃ (x_3 : Int × Int × Int), x.snd.number = x_3.fst ∧ 1 = x_3.2.fst ∧ x.fst.dirs = x_3.2.snd ∧ PL.Ints3 x_3 ∧ ∀ (y : Unit), True →
  (x_3.2.fst.le x_3.fst ∧ x_3.fst.le x_3.2.snd → ∃ (y : Unit), True ∧ (ar.eq x.snd.size 0 ↔ PL.NodeOK x.fst x.snd) ∧ True) ∧ (¬(x_3.2.fst.le x_3.fst ∧ x_3.fst.le x_3.2.snd) → ∃ (y
  : Unit), True ∧ (false = true ↔ PL.NodeOK x.fst x.snd) ∧ True)) ∧ (¬ar.eq x.snd.kind 1 → (ar.eq x.snd.kind 2 → ∀ (z : Int), z = ar.wrap IntKind.i64 (ar.sub x.fst.files 1) → ∃
  (x_3 : Int × Int × Int), x.snd.number = x_3.fst ∧ 0 = x_3.2.fst ∧ z = x_3.2.snd ∧ PL.Ints3 x_3 ∧ ∀ (y : Unit), True → (x_3.2.fst.le x_3.fst ∧ x_3.fst.le x_3.2.snd → ∃ (x_4 : Int
  × Int × Int), x.snd.size = x_4.fst ∧ 0 = x_4.2.fst ∧ x.fst.most = x_4.2.snd ∧ PL.Ints3 x_4 ∧ ∀ (y : Unit), True → ∃ (y : Unit), True ∧ (x_4.2.fst.le x_4.fst ∧ x_4.fst.le
  x_4.2.snd ↔ PL.NodeOK x.fst x.snd) ∧ True) ∧ (¬(x_3.2.fst.le x_3.fst ∧ x_3.fst.le x_3.2.snd) → ∃ (y : Unit), True ∧ (false = true ↔ PL.NodeOK x.fst x.snd) ∧ True)) ∧ (¬ar.eq
  x.snd.kind 2 → ∃ (y : Unit), True ∧ (false = true ↔ PL.NodeOK x.fst x.snd) ∧ True)))) ∧ (¬(¬(x_1.2.fst.le x_1.fst ∧ x_1.fst.le x_1.2.snd) → False) → ∃ (y : Unit), True ∧ (false =
  true ↔ PL.NodeOK x.fst x.snd) ∧ True)
theorem fits_eq (ar : AR) (x : fitSpec.X) : (run ar PP nSpecs noInv 1000 68 (fitSpec.H x).length (Tryd.f68.body.getD .skip) (fitSpec.A x ++ List.replicate (Tryd.f68.ntmps - (fitSpec.A x).length) .any) (fitSpec.H x) (endCall ar PP Tryd.f68.results.toList (fitSpec.fin x))) = fits_vc ar x := by
  kernel_rfl
theorem fits_of (h : ∀ x, fitSpec.pre x → fits_vc ar0 x) : fitSpec.OK PP 68 :=
  Spec.ok_of_run (fn := Tryd.f68) (c := Tryd.f68.body.getD .skip) (by kernel_rfl) (by kernel_rfl) (by kernel_rfl) nSpecs_ok (fun _ => noInv) 1000 (fun x hx => (fits_eq ar0 x).mpr (h x hx))
theorem fits_ok : fitSpec.OK PP 68 := by
  refine fits_of fun (x : Cfg × Nod) hx => ?_
  obtain ⟨c, n⟩ := x
  obtain ⟨⟨h1, h2, h3, h4, h5, h6⟩⟩ : PL.NodeIn (c, n) := hx
  unfold fits_vc
  have w : IntKind.i64.wrap (c.files - 1) = c.files - 1 := wrap_i64 (by simp only at h2; omega) (by simp only at h2; omega)
  simp only at h1 h2 h3 h4 h5 h6
  simp only [ars, ars2, ex_int3, ints3, true_and, and_true, exists_const, imp_false, Classical.not_not, forall_const, PL.nameI_zero, exists_eq_left', PL.nodeOK_iff, Bool.false_eq_true, forall_eq, w]
  by_cases nm : PL.NameOK n.name
  · simp only [nm, true_and, not_true, false_imp_iff, forall_const]
    repeat' (first | apply And.intro | apply Iff.intro | intro _)
    all_goals (first | contradiction | trivial | omega)
  · simp only [nm, not_false_iff, forall_const, false_and, and_false, false_imp_iff, iff_false, and_true, true_and, not_false_eq_true, implies_true, iff_self]
def sized_vc (ar : AR) (x : fitSpec.X) : Prop :=
  ((ar.lt x.snd.parent 0 → False) → ((ar.lt x.fst.dirs x.snd.parent → False) → ∃ (x_1 : List UInt8), x.snd.name = x_1 ∧ True ∧ ∀ (y : Unit), True → ((¬ar.eq (PL.nameI x_1) 0 →
  False) → (ar.lt x.snd.size 0 → ∃ (y : Unit), True ∧ (false = true ↔ PL.NodeOK x.fst x.snd) ∧ True) ∧ (¬ar.lt x.snd.size 0 → (ar.eq x.snd.kind 1 → (ar.eq x.snd.size 0 → (ar.le 1
  x.snd.number → ∃ (y : Unit), True ∧ (ar.le x.snd.number x.fst.dirs ↔ PL.NodeOK x.fst x.snd) ∧ True) ∧ (¬ar.le 1 x.snd.number → ∃ (y : Unit), True ∧ (false = true ↔ PL.NodeOK
  x.fst x.snd) ∧ True)) ∧ (¬ar.eq x.snd.size 0 → ∃ (y : Unit), True ∧ (false = true ↔ PL.NodeOK x.fst x.snd) ∧ True)) ∧ (¬ar.eq x.snd.kind 1 → (ar.eq x.snd.kind 2 → (ar.le
  x.snd.size x.fst.most → (ar.le 0 x.snd.number → ∃ (y : Unit), True ∧ (ar.lt x.snd.number x.fst.files ↔ PL.NodeOK x.fst x.snd) ∧ True) ∧ (¬ar.le 0 x.snd.number → ∃ (y : Unit),
  True ∧ (false = true ↔ PL.NodeOK x.fst x.snd) ∧ True)) ∧ (¬ar.le x.snd.size x.fst.most → ∃ (y : Unit), True ∧ (false = true ↔ PL.NodeOK x.fst x.snd) ∧ True)) ∧ (¬ar.eq x.snd.kind
  2 → ∃ (y : Unit), True ∧ (false = true ↔ PL.NodeOK x.fst x.snd) ∧ True)))) ∧ (¬(¬ar.eq (PL.nameI x_1) 0 → False) → ∃ (y : Unit), True ∧ (false = true ↔ PL.NodeOK x.fst x.snd) ∧
  True)) ∧ (¬(ar.lt x.fst.dirs x.snd.parent → False) → ∃ (y : Unit), True ∧ (false = true ↔ PL.NodeOK x.fst x.snd) ∧ True)) ∧ (¬(ar.lt x.snd.parent 0 → False) → ∃ (y : Unit), True
  ∧ (false = true ↔ PL.NodeOK x.fst x.snd) ∧ True)
theorem sized_eq (ar : AR) (x : fitSpec.X) : (run ar PP nSpecs noInv 1000 87 (fitSpec.H x).length (Tryd.f87.body.getD .skip) (fitSpec.A x ++ List.replicate (Tryd.f87.ntmps - (fitSpec.A x).length) .any) (fitSpec.H x) (endCall ar PP Tryd.f87.results.toList (fitSpec.fin x))) = sized_vc ar x := by
  kernel_rfl
theorem sized_of (h : ∀ x, fitSpec.pre x → sized_vc ar0 x) : fitSpec.OK PP 87 :=
  Spec.ok_of_run (fn := Tryd.f87) (c := Tryd.f87.body.getD .skip) (by kernel_rfl) (by kernel_rfl) (by kernel_rfl) nSpecs_ok (fun _ => noInv) 1000 (fun x hx => (sized_eq ar0 x).mpr (h x hx))
theorem sized_ok : fitSpec.OK PP 87 := by
  refine sized_of fun (x : Cfg × Nod) hx => ?_
  obtain ⟨c, n⟩ := x
  obtain ⟨⟨h1, h2, h3, h4, h5, h6⟩⟩ : PL.NodeIn (c, n) := hx
  unfold sized_vc
  have w : IntKind.i64.wrap (c.files - 1) = c.files - 1 := wrap_i64 (by simp only at h2; omega) (by simp only at h2; omega)
  simp only at h1 h2 h3 h4 h5 h6
  simp only [ars, ars2, ex_int3, ints3, true_and, and_true, exists_const, imp_false, Classical.not_not, forall_const, PL.nameI_zero, exists_eq_left', PL.nodeOK_iff, Bool.false_eq_true, forall_eq, w]
  by_cases nm : PL.NameOK n.name
  · simp only [nm, true_and, not_true, false_imp_iff, forall_const]
    repeat' (first | apply And.intro | apply Iff.intro | intro _)
    all_goals (first | contradiction | trivial | omega)
  · simp only [nm, not_false_iff, forall_const, false_and, and_false, false_imp_iff, iff_false, and_true, true_and, not_false_eq_true, implies_true, iff_self]
noncomputable def behSpec : Spec where
  X := Nod × Nod
  A x := [.agg (nodeL x.1), .agg (nodeL x.2)]
  H _ := []
  pre x := PL.NodeAny x
  outs := [{ Y _ := Unit, post _ _ := True, R x _ := .bool (.x (PL.Behind x.1 x.2)), H' _ _ := [] }]
def beh_vc (ar : AR) (x : behSpec.X) : Prop :=
  ((ar.lt x.snd.kind x.fst.kind → False) → (ar.eq x.fst.kind x.snd.kind → ∃ (y : Unit), True ∧ (ar.lt x.snd.number x.fst.number ↔ PL.Behind x.fst x.snd) ∧ True) ∧ (¬ar.eq
  x.fst.kind x.snd.kind → ∃ (y : Unit), True ∧ (false = true ↔ PL.Behind x.fst x.snd) ∧ True)) ∧ (¬(ar.lt x.snd.kind x.fst.kind → False) → ∃ (y : Unit), True ∧ (true = true ↔
  PL.Behind x.fst x.snd) ∧ True)
theorem beh_eq (ar : AR) (x : behSpec.X) : (run ar PP noSpec noInv 1000 69 (behSpec.H x).length (Tryd.f69.body.getD .skip) (behSpec.A x ++ List.replicate (Tryd.f69.ntmps - (behSpec.A x).length) .any) (behSpec.H x) (endCall ar PP Tryd.f69.results.toList (behSpec.fin x))) = beh_vc ar x := by
  kernel_rfl
theorem beh_of (h : ∀ x, behSpec.pre x → beh_vc ar0 x) : behSpec.OK PP 69 :=
  Spec.ok_of_run (fn := Tryd.f69) (c := Tryd.f69.body.getD .skip) (by kernel_rfl) (by kernel_rfl) (by kernel_rfl) noSpec_ok (fun _ => noInv) 1000 (fun x hx => (beh_eq ar0 x).mpr (h x hx))
theorem beh_ok : behSpec.OK PP 69 := by
  refine beh_of fun (x : Nod × Nod) hx => ?_
  obtain ⟨n, m⟩ := x
  unfold beh_vc
  simp only [ars, ars2, true_and, and_true, exists_const, imp_false, Classical.not_not]
  simp only [PL.behind_iff, Bool.false_eq_true, gt_iff_lt]
  refine ⟨fun a => ⟨fun b => ⟨fun h => .inr ⟨b, h⟩, fun h => ?_⟩, fun b => ⟨fun h => h.elim, fun h => ?_⟩⟩, fun a => ⟨fun _ => .inl a, fun _ => trivial⟩⟩
  · rcases h with h | h
    · exact absurd h a
    · exact h.2
  · rcases h with h | h
    · exact absurd h a
    · exact absurd h.1 b
end Go.Eng
/- Index: which states fit. -/
namespace Go.PL
structure Nods where
  K : List Int
  N : List Int
  P : List Int
  S : List (List UInt8)
  Z : List Int
  len : Int
  cap : Int
structure Tree where
  files : Int
  dirs : Int
  nods : Nods
def Nods.at (x : Nods) (i : Nat) : Nod := ⟨x.K.getD i 0, x.N.getD i 0, x.P.getD i 0, x.S.getD i [], x.Z.getD i 0⟩
structure NodsOK (x : Nods) : Prop where
  k : (x.K.length : Int) = x.len
  n : (x.N.length : Int) = x.len
  p : (x.P.length : Int) = x.len
  s : (x.S.length : Int) = x.len
  z : (x.Z.length : Int) = x.len
  cap : x.len ≤ 140737488351232
structure TreeIn (x : Cfg × Tree) : Prop where
  cfg : CfgIn x.1
  nods : NodsOK x.2.nods
structure NodsUp (c : Cfg) (x : Nods) (i : Nat) : Prop where
  le : (i : Int) ≤ x.len
  all : ∀ j, j < i → NodeOK c (x.at j)
  up : ∀ j, j + 1 < i → Behind (x.at (j + 1)) (x.at j)
structure TreeOK (c : Cfg) (t : Tree) : Prop where
  files : t.files = c.files
  dirs : t.dirs = c.dirs
  up : NodsUp c t.nods t.nods.len.toNat
theorem up_zero {c : Cfg} {x : Nods} (h : NodsOK x) : NodsUp c x 0 := ⟨by have := h.k; omega, fun j hj => by omega, fun j hj => by omega⟩
theorem up_step {c : Cfg} {x : Nods} {i : Nat} (h : NodsUp c x i) (hl : (i : Int) < x.len) (hk : NodeOK c (x.at i)) (hb : 0 < i → Behind (x.at i) (x.at (i - 1))) : NodsUp c x (i + 1) := by
  refine ⟨by omega, fun j hj => ?_, fun j hj => ?_⟩
  · by_cases e : j = i
    · subst e; exact hk
    · exact h.all j (by omega)
  · by_cases e : j + 1 = i
    · subst e; exact hb (by omega)
    · exact h.up j (by omega)
theorem up_behind {c : Cfg} {x : Nods} {i : Nat} (h : NodsUp c x x.len.toNat) (hl : (i : Int) < x.len) (h0 : 0 < i) : Behind (x.at i) (x.at (i - 1)) := by
  have := h.up (i - 1) (by omega)
  rwa [show i - 1 + 1 = i by omega] at this
structure Objs where
  N : List (List UInt8)
  T : List (List UInt8)
  B : List Int
  O : List Int
  len : Int
  cap : Int
structure Pool where
  objs : Objs
  q : List Int
  qlen : Int
  qcap : Int
structure PoolIn (x : Cfg × Pool) : Prop where
  cfg : CfgIn x.1
  n : (x.2.objs.N.length : Int) = x.2.objs.len
  t : (x.2.objs.T.length : Int) = x.2.objs.len
  b : (x.2.objs.B.length : Int) = x.2.objs.len
  o : (x.2.objs.O.length : Int) = x.2.objs.len
  q : (x.2.q.length : Int) = x.2.qlen
  cap : x.2.objs.len ≤ 140737488351232
  qcap : x.2.qlen ≤ 140737488351232
structure ObjOK (c : Cfg) (x : Objs) (i : Nat) : Prop where
  n : (x.N.getD i []).length = 16
  t : (x.T.getD i []).length = 16
  b : 0 ≤ x.B.getD i 0 ∧ x.B.getD i 0 ≤ 1048576
  o : -1 ≤ x.O.getD i 0 ∧ x.O.getD i 0 ≤ c.files - 1
structure ObjsTo (c : Cfg) (x : Objs) (i : Nat) : Prop where
  le : (i : Int) ≤ x.len
  all : ∀ j, j < i → ObjOK c x j
structure QTo (n : Int) (q : List Int) (i : Nat) : Prop where
  le : i ≤ q.length
  all : ∀ j, j < i → 0 ≤ q.getD j 0 ∧ q.getD j 0 ≤ n - 1
structure PoolOK (c : Cfg) (p : Pool) : Prop where
  len : p.objs.len = c.files + c.slots
  qlen : p.qlen ≤ c.files + c.slots
  objs : ObjsTo c p.objs p.objs.len.toNat
  q : QTo (c.files + c.slots) p.q p.q.length
end Go.PL
set_option linter.unusedSectionVars false
set_option linter.unusedSimpArgs false
set_option linter.unusedVariables false
namespace Go.Eng
variable [CW : CWorld]
open Go.Proofs
open Go.PL (Cfg CfgIn CfgOK CfgBad Nod Nods Tree Objs Pool)
set_option maxRecDepth 100000
attribute [local irreducible] run
theorem ex_node {c : Cfg} {a b d e : Int} {s : List UInt8} {Q : Cfg × Nod → Prop} :
    (∃ y : Cfg × Nod, c.slots = y.1.slots ∧ c.files = y.1.files ∧ c.dirs = y.1.dirs ∧ c.most = y.1.most ∧ c.least = y.1.least ∧ c.page = y.1.page ∧ a = y.2.kind ∧ b = y.2.number ∧ d = y.2.parent ∧ s = y.2.name ∧ e = y.2.size ∧ Q y) ↔ Q (c, ⟨a, b, d, s, e⟩) := by
  constructor
  · rintro ⟨⟨⟨c1, c2, c3, c4, c5, c6⟩, ⟨a1, a2, a3, a4, a5⟩⟩, h1, h2, h3, h4, h5, h6, g1, g2, g3, g4, g5, h⟩
    obtain ⟨d1, d2, d3, d4, d5, d6⟩ := c
    simp only at h1 h2 h3 h4 h5 h6 g1 g2 g3 g4 g5
    subst h1 h2 h3 h4 h5 h6 g1 g2 g3 g4 g5
    exact h
  · exact fun h => ⟨_, rfl, rfl, rfl, rfl, rfl, rfl, rfl, rfl, rfl, rfl, rfl, h⟩
theorem ex_nodes {a b d e a' b' d' e' : Int} {s s' : List UInt8} {Q : Nod × Nod → Prop} :
    (∃ y : Nod × Nod, a = y.1.kind ∧ b = y.1.number ∧ d = y.1.parent ∧ s = y.1.name ∧ e = y.1.size ∧ a' = y.2.kind ∧ b' = y.2.number ∧ d' = y.2.parent ∧ s' = y.2.name ∧ e' = y.2.size ∧ Q y) ↔ Q (⟨a, b, d, s, e⟩, ⟨a', b', d', s', e'⟩) := by
  constructor
  · rintro ⟨⟨⟨a1, a2, a3, a4, a5⟩, ⟨b1, b2, b3, b4, b5⟩⟩, g1, g2, g3, g4, g5, k1, k2, k3, k4, k5, h⟩
    simp only at g1 g2 g3 g4 g5 k1 k2 k3 k4 k5
    subst g1 g2 g3 g4 g5 k1 k2 k3 k4 k5
    exact h
  · exact fun h => ⟨_, rfl, rfl, rfl, rfl, rfl, rfl, rfl, rfl, rfl, rfl, h⟩
theorem nod_fold (x : Nods) (i : Nat) : (⟨x.K.getD i 0, x.N.getD i 0, x.P.getD i 0, x.S.getD i [], x.Z.getD i 0⟩ : Nod) = x.at i := rfl
def nodsS (x : Nods) : SV := .cs [.ints .i64 x.K, .ints .i64 x.N, .ints .i64 x.P, .strs x.S, .ints .i64 x.Z] (.x x.len) (.x x.cap)
def treeL (t : Tree) : List SV := [.int .i64 (.x t.files), .int .i64 (.x t.dirs), nodsS t.nods]
noncomputable def fSpecs : Specs := fun f a h => match f with
  | 68 => some fitSpec
  | 87 => some fitSpec
  | 69 => some behSpec
  | _ => nSpecs f a h
theorem fSpecs_ok : SpecsOK PP fSpecs := by
  intro CW f xs _ S h
  unfold fSpecs at h
  split at h
  · cases h; exact fits_ok
  · cases h; exact sized_ok
  · cases h; exact beh_ok
  · exact nSpecs_ok CW _ _ _ _ h
noncomputable def treeSpec : Spec where
  X := Cfg × Tree
  A x := [.agg (cfgL x.1), .agg (treeL x.2)]
  H _ := []
  pre x := PL.TreeIn x
  outs := [{ Y _ := Unit, post _ _ := True, R x _ := .bool (.x (PL.TreeOK x.1 x.2)), H' _ _ := [] }]
  frz := true
def itreeInv (x : Cfg × Tree) : Code → List SV → List Blk → List Inv := fun b fr hp => [
  { ι := Nat, fr := fun i => only b fr 4 [20, 21] [(22, .int .i64 (.x (i : Int)))], hp := fun i => hp, μ := fun i => x.2.nods.len.toNat - i, ok := fun i => PL.NodsUp x.1 x.2.nods i }]
def itreeInvs (x : Cfg × Tree) : Invs := fun f n => match f, n with
  | 35, 4 => some (itreeInv x)
  | _, _ => none
def itree_vc (ar : AR) (x : treeSpec.X) : Prop :=
  ((¬ar.eq x.snd.files x.fst.files → False) → (¬ar.eq x.snd.dirs x.fst.dirs → ∃ (y : Unit), True ∧ (false = true ↔ PL.TreeOK x.fst x.snd) ∧ True) ∧ (¬¬ar.eq x.snd.dirs x.fst.dirs →
  (∃ (i : Nat), PL.NodsUp x.fst x.snd.nods i ∧ x.fst.slots = x.fst.slots ∧ x.fst.files = x.fst.files ∧ x.fst.dirs = x.fst.dirs ∧ x.fst.most = x.fst.most ∧ x.fst.least = x.fst.least
  ∧ x.fst.page = x.fst.page ∧ x.snd.files = x.snd.files ∧ x.snd.dirs = x.snd.dirs ∧ x.snd.nods.K = x.snd.nods.K ∧ x.snd.nods.N = x.snd.nods.N ∧ x.snd.nods.P = x.snd.nods.P ∧
  x.snd.nods.S = x.snd.nods.S ∧ x.snd.nods.Z = x.snd.nods.Z ∧ x.snd.nods.len = x.snd.nods.len ∧ x.snd.nods.cap = x.snd.nods.cap ∧ x.snd.nods.K = x.snd.nods.K ∧ x.snd.nods.N =
  x.snd.nods.N ∧ x.snd.nods.P = x.snd.nods.P ∧ x.snd.nods.S = x.snd.nods.S ∧ x.snd.nods.Z = x.snd.nods.Z ∧ x.snd.nods.len = x.snd.nods.len ∧ x.snd.nods.cap = x.snd.nods.cap ∧
  x.snd.nods.len = x.snd.nods.len ∧ 0 = (↑i : Int) ∧ x.fst.slots = x.fst.slots ∧ x.fst.files = x.fst.files ∧ x.fst.dirs = x.fst.dirs ∧ x.fst.most = x.fst.most ∧ x.fst.least =
  x.fst.least ∧ x.fst.page = x.fst.page ∧ x.snd.files = x.snd.files ∧ x.snd.dirs = x.snd.dirs ∧ x.snd.nods.K = x.snd.nods.K ∧ x.snd.nods.N = x.snd.nods.N ∧ x.snd.nods.P =
  x.snd.nods.P ∧ x.snd.nods.S = x.snd.nods.S ∧ x.snd.nods.Z = x.snd.nods.Z ∧ x.snd.nods.len = x.snd.nods.len ∧ x.snd.nods.cap = x.snd.nods.cap ∧ True) ∧ ∀ (i : Nat), PL.NodsUp
  x.fst x.snd.nods i → (ar.lt (↑i : Int) x.snd.nods.len → ar.le 0 (↑i : Int) ∧ ar.lt (↑i : Int) x.snd.nods.len ∧ ∃ (x_1 : Cfg × Nod), x.fst.slots = x_1.1.slots ∧ x.fst.files =
  x_1.1.files ∧ x.fst.dirs = x_1.1.dirs ∧ x.fst.most = x_1.1.most ∧ x.fst.least = x_1.1.least ∧ x.fst.page = x_1.1.page ∧ ar.iget x.snd.nods.K (↑i : Int) = x_1.2.kind ∧ ar.iget
  x.snd.nods.N (↑i : Int) = x_1.2.number ∧ ar.iget x.snd.nods.P (↑i : Int) = x_1.2.parent ∧ ar.tget x.snd.nods.S (↑i : Int) = x_1.2.name ∧ ar.iget x.snd.nods.Z (↑i : Int) =
  x_1.2.size ∧ PL.NodeIn x_1 ∧ ∀ (y : Unit), True → ((¬PL.NodeOK x_1.fst x_1.snd → False) → (ar.lt 0 (↑i : Int) → ∀ (z : Int), z = ar.wrap IntKind.i64 (ar.sub (↑i : Int) 1) → ar.le
  0 z ∧ ar.lt z x.snd.nods.len ∧ ∃ (x_2 : Nod × Nod), ar.iget x.snd.nods.K (↑i : Int) = x_2.1.kind ∧ ar.iget x.snd.nods.N (↑i : Int) = x_2.1.number ∧ ar.iget x.snd.nods.P (↑i :
  Int) = x_2.1.parent ∧ ar.tget x.snd.nods.S (↑i : Int) = x_2.1.name ∧ ar.iget x.snd.nods.Z (↑i : Int) = x_2.1.size ∧ ar.iget x.snd.nods.K z = x_2.2.kind ∧ ar.iget x.snd.nods.N z =
  x_2.2.number ∧ ar.iget x.snd.nods.P z = x_2.2.parent ∧ ar.tget x.snd.nods.S z = x_2.2.name ∧ ar.iget x.snd.nods.Z z = x_2.2.size ∧ PL.NodeAny x_2 ∧ ∀ (y : Unit), True →
  (¬PL.Behind x_2.fst x_2.snd → ∃ (y : Unit), True ∧ (false = true ↔ PL.TreeOK x.fst x.snd) ∧ True) ∧ (¬¬PL.Behind x_2.fst x_2.snd → ∀ (z : Int), z = ar.wrap IntKind.i64 (ar.add
  (↑i : Int) 1) → ∃ (j : Nat), PL.NodsUp x.fst x.snd.nods j ∧ (x.snd.nods.len.toNat.sub j).lt (x.snd.nods.len.toNat.sub i) ∧ x.fst.slots = x.fst.slots ∧ x.fst.files = x.fst.files ∧
  x.fst.dirs = x.fst.dirs ∧ x.fst.most = x.fst.most ∧ x.fst.least = x.fst.least ∧ x.fst.page = x.fst.page ∧ x.snd.files = x.snd.files ∧ x.snd.dirs = x.snd.dirs ∧ x.snd.nods.K =
  x.snd.nods.K ∧ x.snd.nods.N = x.snd.nods.N ∧ x.snd.nods.P = x.snd.nods.P ∧ x.snd.nods.S = x.snd.nods.S ∧ x.snd.nods.Z = x.snd.nods.Z ∧ x.snd.nods.len = x.snd.nods.len ∧
  x.snd.nods.cap = x.snd.nods.cap ∧ x.snd.nods.K = x.snd.nods.K ∧ x.snd.nods.N = x.snd.nods.N ∧ x.snd.nods.P = x.snd.nods.P ∧ x.snd.nods.S = x.snd.nods.S ∧ x.snd.nods.Z =
  x.snd.nods.Z ∧ x.snd.nods.len = x.snd.nods.len ∧ x.snd.nods.cap = x.snd.nods.cap ∧ x.snd.nods.len = x.snd.nods.len ∧ z = (↑j : Int) ∧ x.fst.slots = x.fst.slots ∧ x.fst.files =
  x.fst.files ∧ x.fst.dirs = x.fst.dirs ∧ x.fst.most = x.fst.most ∧ x.fst.least = x.fst.least ∧ x.fst.page = x.fst.page ∧ x.snd.files = x.snd.files ∧ x.snd.dirs = x.snd.dirs ∧
  x.snd.nods.K = x.snd.nods.K ∧ x.snd.nods.N = x.snd.nods.N ∧ x.snd.nods.P = x.snd.nods.P ∧ x.snd.nods.S = x.snd.nods.S ∧ x.snd.nods.Z = x.snd.nods.Z ∧ x.snd.nods.len =
  x.snd.nods.len ∧ x.snd.nods.cap = x.snd.nods.cap ∧ True)) ∧ (¬ar.lt 0 (↑i : Int) → ∀ (z : Int), z = ar.wrap IntKind.i64 (ar.add (↑i : Int) 1) → ∃ (j : Nat), PL.NodsUp x.fst
  x.snd.nods j ∧ (x.snd.nods.len.toNat.sub j).lt (x.snd.nods.len.toNat.sub i) ∧ x.fst.slots = x.fst.slots ∧ x.fst.files = x.fst.files ∧ x.fst.dirs = x.fst.dirs ∧ x.fst.most =
  x.fst.most ∧ x.fst.least = x.fst.least ∧ x.fst.page = x.fst.page ∧ x.snd.files = x.snd.files ∧ x.snd.dirs = x.snd.dirs ∧ x.snd.nods.K = x.snd.nods.K ∧ x.snd.nods.N = x.snd.nods.N
  ∧ x.snd.nods.P = x.snd.nods.P ∧ x.snd.nods.S = x.snd.nods.S ∧ x.snd.nods.Z = x.snd.nods.Z ∧ x.snd.nods.len = x.snd.nods.len ∧ x.snd.nods.cap = x.snd.nods.cap ∧ x.snd.nods.K =
  x.snd.nods.K ∧ x.snd.nods.N = x.snd.nods.N ∧ x.snd.nods.P = x.snd.nods.P ∧ x.snd.nods.S = x.snd.nods.S ∧ x.snd.nods.Z = x.snd.nods.Z ∧ x.snd.nods.len = x.snd.nods.len ∧
  x.snd.nods.cap = x.snd.nods.cap ∧ x.snd.nods.len = x.snd.nods.len ∧ z = (↑j : Int) ∧ x.fst.slots = x.fst.slots ∧ x.fst.files = x.fst.files ∧ x.fst.dirs = x.fst.dirs ∧ x.fst.most
  = x.fst.most ∧ x.fst.least = x.fst.least ∧ x.fst.page = x.fst.page ∧ x.snd.files = x.snd.files ∧ x.snd.dirs = x.snd.dirs ∧ x.snd.nods.K = x.snd.nods.K ∧ x.snd.nods.N =
  x.snd.nods.N ∧ x.snd.nods.P = x.snd.nods.P ∧ x.snd.nods.S = x.snd.nods.S ∧ x.snd.nods.Z = x.snd.nods.Z ∧ x.snd.nods.len = x.snd.nods.len ∧ x.snd.nods.cap = x.snd.nods.cap ∧
  True)) ∧ (¬(¬PL.NodeOK x_1.fst x_1.snd → False) → ∃ (y : Unit), True ∧ (false = true ↔ PL.TreeOK x.fst x.snd) ∧ True)) ∧ (¬ar.lt (↑i : Int) x.snd.nods.len → ∃ (y : Unit), True ∧
  (true = true ↔ PL.TreeOK x.fst x.snd) ∧ True))) ∧ (¬(¬ar.eq x.snd.files x.fst.files → False) → ∃ (y : Unit), True ∧ (false = true ↔ PL.TreeOK x.fst x.snd) ∧ True)
theorem itree_eq (ar : AR) (x : treeSpec.X) : (run ar PP fSpecs (itreeInvs x) 1000 35 (treeSpec.H x).length (Tryd.f35.body.getD .skip) (treeSpec.A x ++ List.replicate (Tryd.f35.ntmps - (treeSpec.A x).length) .any) (treeSpec.H x) (endCall ar PP Tryd.f35.results.toList (treeSpec.fin x))) = itree_vc ar x := by
  kernel_rfl
theorem itree_of (h : ∀ x, treeSpec.pre x → itree_vc ar0 x) : treeSpec.OK PP 35 :=
  Spec.ok_of_run (fn := Tryd.f35) (c := Tryd.f35.body.getD .skip) (by kernel_rfl) (by kernel_rfl) (by kernel_rfl) fSpecs_ok itreeInvs 1000 (fun x hx => (itree_eq ar0 x).mpr (h x hx))
theorem itree_ok : treeSpec.OK PP 35 := by
  refine itree_of fun (x : Cfg × Tree) hx => ?_
  obtain ⟨c, t⟩ := x
  obtain ⟨hc, hn⟩ : PL.TreeIn (c, t) := hx
  unfold itree_vc
  simp only [ars, ars2, ex_node, true_and, and_true, exists_const, imp_false, Classical.not_not, ex_nodes, Int.toNat_natCast, nod_fold, Bool.false_eq_true]
  simp only at hc hn
  have no : (PL.TreeOK c t → False) → (False ↔ PL.TreeOK c t) := fun h => ⟨False.elim, h⟩
  have hlen := hn.k
  have hcap := hn.cap
  have next : ∀ {i : Nat}, PL.NodsUp c t.nods i → (i : Int) < t.nods.len → PL.NodeOK c (t.nods.at i) → (0 < i → PL.Behind (t.nods.at i) (t.nods.at (i - 1))) → (hbig : (i : Int) + 1 < 9223372036854775808) → ∀ (z : Int), z = IntKind.i64.wrap ((i : Int) + 1) → ∃ j, PL.NodsUp c t.nods j ∧ t.nods.len.toNat - j < t.nods.len.toNat - i ∧ z = (j : Int) := fun {i} hi hlt hk hb hbig z hz => by
    rw [wrap_i64 (by omega) (by omega)] at hz
    exact ⟨i + 1, PL.up_step hi hlt hk hb, by omega, by omega⟩
  refine ⟨fun hf => ⟨fun hd => no fun h => hd h.dirs, fun hd => ⟨⟨0, PL.up_zero hn, rfl⟩, fun i hi => ⟨fun hlt => ⟨by omega, hlt, ⟨hc⟩, fun _ _ => ⟨fun hk => ⟨fun h0 z hz => ?_, fun h0 => next hi hlt hk (fun h => by omega) (by omega)⟩, fun hk => no fun h => hk (h.up.all i (by omega))⟩⟩, fun hge => ⟨fun _ => ⟨hf, hd, ?_⟩, fun _ => trivial⟩⟩⟩⟩, fun hf => no fun h => hf h.files⟩
  · rw [wrap_i64 (by omega) (by omega)] at hz
    obtain rfl : z = ((i - 1 : Nat) : Int) := by omega
    exact ⟨by omega, by omega, ⟨trivial⟩, fun _ _ => ⟨fun hb => no fun h => hb (PL.up_behind h.up hlt (by omega)), fun hb => next hi hlt hk (fun _ => hb) (by omega)⟩⟩
  · have : t.nods.len.toNat = i := by have := hi.le; omega
    rw [this]; exact hi
end Go.Eng
namespace Go.PL
structure QIn (x : List Int × Int × Int × Int) : Prop where
  len : (x.1.length : Int) = x.2.1
  b : x.2.1 ≤ 140737488351232
  n : 1 ≤ x.2.2.2 ∧ x.2.2.2 ≤ 1000000
structure QOne (x : Int × Int) : Prop where
  n : 1 ≤ x.2 ∧ x.2 ≤ 1000000
structure QIdx (x : List Int × Int × Int × Int) (y : Int) : Prop where
  iff : 0 ≤ y ↔ ¬ QTo x.2.2.2 x.1 x.1.length
theorem q_step {n : Int} {q : List Int} {i : Nat} (h : QTo n q i) (hi : i < q.length) (hk : 0 ≤ q.getD i 0 ∧ q.getD i 0 ≤ n - 1) : QTo n q (i + 1) := by
  refine ⟨by omega, fun j hj => ?_⟩
  by_cases e : j = i
  · subst e; exact hk
  · exact h.all j (by omega)
theorem q_zero {n : Int} {q : List Int} : QTo n q 0 := ⟨by omega, fun j hj => by omega⟩
theorem o_zero {c : Cfg} {x : Objs} (h : 0 ≤ x.len) : ObjsTo c x 0 := ⟨by omega, fun j hj => by omega⟩
theorem o_step {c : Cfg} {x : Objs} {i : Nat} (h : ObjsTo c x i) (hi : (i : Int) < x.len) (hk : ObjOK c x i) : ObjsTo c x (i + 1) := by
  refine ⟨by omega, fun j hj => ?_⟩
  by_cases e : j = i
  · subst e; exact hk
  · exact h.all j (by omega)
end Go.PL
set_option linter.unusedSectionVars false
set_option linter.unusedSimpArgs false
set_option linter.unusedVariables false
namespace Go.Eng
variable [CW : CWorld]
open Go.Proofs
open Go.PL (Cfg CfgIn CfgOK CfgBad Nod Nods Tree Objs Pool)
set_option maxRecDepth 100000
attribute [local irreducible] run
def intB (n : Int) : Blk := .mk 3 [.one (.int .i64 (.x n))]
def qoneSpec : Spec where
  X := Int × Int
  A x := [.int .i64 (.x x.1), .ptr 0 (.l 0)]
  H x := [intB x.2]
  pre x := PL.QOne x
  outs := [{ Y _ := Unit, post _ _ := True, R x _ := .bool (.x (¬ (0 ≤ x.1 ∧ x.1 ≤ x.2 - 1))), H' x _ := [intB x.2] }]
def qone_vc (ar : AR) (x : qoneSpec.X) : Prop :=
  ∀ (z : Int), z = ar.wrap IntKind.i64 (ar.sub x.snd 1) → ∃ (x_1 : Int × Int × Int), x.fst = x_1.fst ∧ 0 = x_1.2.fst ∧ z = x_1.2.snd ∧ PL.Ints3 x_1 ∧ ∀ (y : Unit), True → ∃ (y :
  Unit), True ∧ (x_1.2.fst.le x_1.fst ∧ x_1.fst.le x_1.2.snd → False ↔ Int.le 0 x.fst ∧ x.fst.le (x.snd.sub 1) → False) ∧ x.snd = x.snd ∧ True
theorem qone_eq (ar : AR) (x : qoneSpec.X) : (run ar PP eSpecs noInv 1000 71 (qoneSpec.H x).length (Tryd.f71.body.getD .skip) (qoneSpec.A x ++ List.replicate (Tryd.f71.ntmps - (qoneSpec.A x).length) .any) (qoneSpec.H x) (endCall ar PP Tryd.f71.results.toList (qoneSpec.fin x))) = qone_vc ar x := by
  kernel_rfl
theorem qone_of (h : ∀ x, qoneSpec.pre x → qone_vc ar0 x) : qoneSpec.OK PP 71 :=
  Spec.ok_of_run (fn := Tryd.f71) (c := Tryd.f71.body.getD .skip) (by kernel_rfl) (by kernel_rfl) (by kernel_rfl) eSpecs_ok (fun _ => noInv) 1000 (fun x hx => (qone_eq ar0 x).mpr (h x hx))
theorem qoneSpec_ok : qoneSpec.OK PP 71 := by
  refine qone_of fun (x : Int × Int) hx => ?_
  obtain ⟨i, n⟩ := x
  obtain ⟨hn⟩ : PL.QOne (i, n) := hx
  simp only at hn
  unfold qone_vc
  simp only [ars, ars2, ex_int3, ints3, true_and, and_true, exists_const, forall_const]
  intro z hz
  rw [wrap_i64 (by omega) (by omega)] at hz
  subst hz
  exact Iff.rfl
noncomputable def oSpecs : Specs := fun f xs hp => match f with
  | 71 => some qoneSpec
  | _ => eSpecs f xs hp
theorem oSpecs_ok : SpecsOK PP oSpecs := by
  intro CW f xs hp S h
  unfold oSpecs at h
  split at h
  · cases h; exact qoneSpec_ok
  · exact eSpecs_ok CW f xs hp S h
noncomputable def qidxSpec : Spec where
  X := List Int × Int × Int × Int
  A x := [.cs [.ints .i64 x.1] (.x x.2.1) (.x x.2.2.1), .fn 71 [.ptr 0 (.l 0)]]
  H x := [intB x.2.2.2]
  pre x := PL.QIn x
  outs := [{ Y _ := Int, post x y := PL.QIdx x y, R x y := .int .i64 (.x y), H' x _ := [intB x.2.2.2] }]
def qidxInv (x : List Int × Int × Int × Int) : Code → List SV → List Blk → List Inv := fun b fr hp => [
  { ι := Nat, fr := fun i => only b fr 6 [7] [(8, .int .i64 (.x (i : Int)))], hp := fun i => hp, μ := fun i => x.2.1.toNat - i, ok := fun i => PL.QTo x.2.2.2 x.1 i }]
def qidxInvs (x : List Int × Int × Int × Int) : Invs := fun f n => match f, n with
  | 86, 2 => some (qidxInv x)
  | _, _ => none
def qidx_vc (ar : AR) (x : qidxSpec.X) : Prop :=
  (∃ (i : Nat), PL.QTo x.snd.snd.snd x.fst i ∧ x.fst = x.fst ∧ x.snd.fst = x.snd.fst ∧ x.snd.snd.fst = x.snd.snd.fst ∧ x.snd.fst = x.snd.fst ∧ 0 = (↑i : Int) ∧ x.snd.snd.snd =
  x.snd.snd.snd ∧ True) ∧ ∀ (i : Nat), PL.QTo x.snd.snd.snd x.fst i → (ar.lt (↑i : Int) x.snd.fst → ar.le 0 (↑i : Int) ∧ ar.lt (↑i : Int) x.snd.fst ∧ ∃ (x_1 : Int × Int), ar.iget
  x.fst (↑i : Int) = x_1.fst ∧ x.snd.snd.snd = x_1.snd ∧ PL.QOne x_1 ∧ ∀ (y : Unit), True → (¬(Int.le 0 x_1.fst ∧ x_1.fst.le (x_1.snd.sub 1)) → ∃ (y : Int), PL.QIdx x y ∧ (↑i :
  Int) = y ∧ x_1.snd = x.snd.snd.snd ∧ True) ∧ (¬¬(Int.le 0 x_1.fst ∧ x_1.fst.le (x_1.snd.sub 1)) → ∀ (z : Int), z = ar.wrap IntKind.i64 (ar.add (↑i : Int) 1) → ∃ (j : Nat), PL.QTo
  x.snd.snd.snd x.fst j ∧ (x.snd.fst.toNat.sub j).lt (x.snd.fst.toNat.sub i) ∧ x.fst = x.fst ∧ x.snd.fst = x.snd.fst ∧ x.snd.snd.fst = x.snd.snd.fst ∧ x.snd.fst = x.snd.fst ∧ z =
  (↑j : Int) ∧ x_1.snd = x.snd.snd.snd ∧ True)) ∧ (¬ar.lt (↑i : Int) x.snd.fst → ∃ (y : Int), PL.QIdx x y ∧ -1 = y ∧ x.snd.snd.snd = x.snd.snd.snd ∧ True)
theorem qidx_eq (ar : AR) (x : qidxSpec.X) : (run ar PP oSpecs (qidxInvs x) 1000 86 (qidxSpec.H x).length (Tryd.f86.body.getD .skip) (qidxSpec.A x ++ List.replicate (Tryd.f86.ntmps - (qidxSpec.A x).length) .any) (qidxSpec.H x) (endCall ar PP Tryd.f86.results.toList (qidxSpec.fin x))) = qidx_vc ar x := by
  kernel_rfl
theorem qidx_of (h : ∀ x, qidxSpec.pre x → qidx_vc ar0 x) : qidxSpec.OK PP 86 :=
  Spec.ok_of_run (fn := Tryd.f86) (c := Tryd.f86.body.getD .skip) (by kernel_rfl) (by kernel_rfl) (by kernel_rfl) oSpecs_ok qidxInvs 1000 (fun x hx => (qidx_eq ar0 x).mpr (h x hx))
theorem qidxSpec_ok : qidxSpec.OK PP 86 := by
  refine qidx_of fun (x : List Int × Int × Int × Int) hx => ?_
  obtain ⟨q, len, cap, n⟩ := x
  obtain ⟨hl, hb, hn⟩ : PL.QIn (q, len, cap, n) := hx
  simp only at hl hb hn
  unfold qidx_vc
  simp only [ars, ars2, ex_pair, true_and, and_true, exists_const, forall_const]
  simp only [Int.toNat_natCast, Classical.not_not]
  refine ⟨⟨0, PL.q_zero, rfl⟩, fun i hi => ⟨fun hlt => ⟨by omega, hlt, ⟨hn⟩, fun hb => ⟨i, ⟨⟨fun _ h => hb (h.all i (by simp only; omega)), fun _ => by omega⟩⟩, rfl⟩, fun hk z hz => ?_⟩, fun hge => ⟨-1, ⟨⟨fun h => by omega, fun h => absurd ?_ h⟩⟩, rfl⟩⟩⟩
  · rw [wrap_i64 (by omega) (by omega)] at hz
    exact ⟨i + 1, PL.q_step hi (by omega) hk, by omega, by omega⟩
  · have := hi.le
    simp only
    rwa [show q.length = i by omega]
noncomputable def qSpecs2 : Specs := fun f xs hp => match f with
  | 86 => some qidxSpec
  | _ => noSpec f xs hp
theorem qSpecs2_ok : SpecsOK PP qSpecs2 := by
  intro CW f xs hp S h
  unfold qSpecs2 at h
  split at h
  · cases h; exact qidxSpec_ok
  · exact noSpec_ok CW f xs hp S h
noncomputable def qcontSpec : Spec where
  X := List Int × Int × Int × Int
  A x := [.cs [.ints .i64 x.1] (.x x.2.1) (.x x.2.2.1), .fn 71 [.ptr 0 (.l 0)]]
  H x := [intB x.2.2.2]
  pre x := PL.QIn x
  outs := [{ Y _ := Unit, post x y := True, R x y := .bool (.x (¬ PL.QTo x.2.2.2 x.1 x.1.length)), H' x _ := [intB x.2.2.2] }]
theorem ex_q {a b n : Int} {q : List Int} {Q : List Int × Int × Int × Int → Prop} :
    (∃ x : List Int × Int × Int × Int, q = x.1 ∧ a = x.2.1 ∧ b = x.2.2.1 ∧ n = x.2.2.2 ∧ Q x) ↔ Q (q, a, b, n) := by
  constructor
  · rintro ⟨⟨x1, x2, x3, x4⟩, rfl, rfl, rfl, rfl, h⟩
    exact h
  · exact fun h => ⟨_, rfl, rfl, rfl, rfl, h⟩
def qcont_vc (ar : AR) (x : qcontSpec.X) : Prop :=
  ∃ (x_1 : List Int × Int × Int × Int), x.fst = x_1.fst ∧ x.snd.fst = x_1.2.fst ∧ x.snd.snd.fst = x_1.snd.snd.fst ∧ x.snd.snd.snd = x_1.snd.snd.snd ∧ PL.QIn x_1 ∧ ∀ (y : Int),
  PL.QIdx x_1 y → ∃ (y_1 : Unit), True ∧ (ar.le 0 y ↔ PL.QTo x.snd.snd.snd x.fst x.fst.length → False) ∧ x_1.snd.snd.snd = x.snd.snd.snd ∧ True
theorem qcont_eq (ar : AR) (x : qcontSpec.X) : (run ar PP qSpecs2 noInv 1000 70 (qcontSpec.H x).length (Tryd.f70.body.getD .skip) (qcontSpec.A x ++ List.replicate (Tryd.f70.ntmps - (qcontSpec.A x).length) .any) (qcontSpec.H x) (endCall ar PP Tryd.f70.results.toList (qcontSpec.fin x))) = qcont_vc ar x := by
  kernel_rfl
theorem qcont_of (h : ∀ x, qcontSpec.pre x → qcont_vc ar0 x) : qcontSpec.OK PP 70 :=
  Spec.ok_of_run (fn := Tryd.f70) (c := Tryd.f70.body.getD .skip) (by kernel_rfl) (by kernel_rfl) (by kernel_rfl) qSpecs2_ok (fun _ => noInv) 1000 (fun x hx => (qcont_eq ar0 x).mpr (h x hx))
theorem qcontSpec_ok : qcontSpec.OK PP 70 := by
  refine qcont_of fun (x : List Int × Int × Int × Int) hx => ?_
  unfold qcont_vc
  simp only [ars, ars2, ex_q, true_and, and_true, exists_const]
  exact ⟨hx, fun y hy => hy.iff⟩
noncomputable def plSpecs : Specs := fun f xs hp => match f with
  | 70 => some qcontSpec
  | _ => eSpecs f xs hp
theorem plSpecs_ok : SpecsOK PP plSpecs := by
  intro CW f xs hp S h
  unfold plSpecs at h
  split at h
  · cases h; exact qcontSpec_ok
  · exact eSpecs_ok CW f xs hp S h
def objsS (x : Objs) : SV := .cs [.strs x.N, .strs x.T, .ints .i64 x.B, .ints .i64 x.O] (.x x.len) (.x x.cap)
def poolL (p : Pool) : List SV := [objsS p.objs, .cs [.ints .i64 p.q] (.x p.qlen) (.x p.qcap)]
noncomputable def poolSpec : Spec where
  X := Cfg × Pool
  A x := [.agg (cfgL x.1), .agg (poolL x.2)]
  H _ := []
  pre x := PL.PoolIn x
  outs := [{ Y _ := Unit, post _ _ := True, R x _ := .bool (.x (PL.PoolOK x.1 x.2)), H' _ _ := [] }]
  frz := true
def ipoolInv (x : Cfg × Pool) : Code → List SV → List Blk → List Inv := fun b fr hp => [
  { ι := Nat, fr := fun i => only b fr 6 [26, 27] [(28, .int .i64 (.x (i : Int)))], hp := fun i => hp, μ := fun i => x.2.objs.len.toNat - i, ok := fun i => PL.ObjsTo x.1 x.2.objs i }]
def ipoolInvs (x : Cfg × Pool) : Invs := fun f n => match f, n with
  | 36, 5 => some (ipoolInv x)
  | _, _ => none
def ipool_vc (ar : AR) (x : poolSpec.X) : Prop :=
  ∀ (z : Int), z = ar.wrap IntKind.i64 (ar.add x.fst.files x.fst.slots) → ((¬ar.eq x.snd.objs.len z → False) → (ar.lt z x.snd.qlen → ∃ (y : Unit), True ∧ (false = true ↔ PL.PoolOK
  x.fst x.snd) ∧ True) ∧ (¬ar.lt z x.snd.qlen → (∃ (i : Nat), PL.ObjsTo x.fst x.snd.objs i ∧ x.fst.slots = x.fst.slots ∧ x.fst.files = x.fst.files ∧ x.fst.dirs = x.fst.dirs ∧
  x.fst.most = x.fst.most ∧ x.fst.least = x.fst.least ∧ x.fst.page = x.fst.page ∧ x.snd.objs.N = x.snd.objs.N ∧ x.snd.objs.T = x.snd.objs.T ∧ x.snd.objs.B = x.snd.objs.B ∧
  x.snd.objs.O = x.snd.objs.O ∧ x.snd.objs.len = x.snd.objs.len ∧ x.snd.objs.cap = x.snd.objs.cap ∧ x.snd.q = x.snd.q ∧ x.snd.qlen = x.snd.qlen ∧ x.snd.qcap = x.snd.qcap ∧
  x.snd.objs.N = x.snd.objs.N ∧ x.snd.objs.T = x.snd.objs.T ∧ x.snd.objs.B = x.snd.objs.B ∧ x.snd.objs.O = x.snd.objs.O ∧ x.snd.objs.len = x.snd.objs.len ∧ x.snd.objs.cap =
  x.snd.objs.cap ∧ x.snd.objs.len = x.snd.objs.len ∧ 0 = (↑i : Int) ∧ x.fst.slots = x.fst.slots ∧ x.fst.files = x.fst.files ∧ x.fst.dirs = x.fst.dirs ∧ x.fst.most = x.fst.most ∧
  x.fst.least = x.fst.least ∧ x.fst.page = x.fst.page ∧ x.snd.objs.N = x.snd.objs.N ∧ x.snd.objs.T = x.snd.objs.T ∧ x.snd.objs.B = x.snd.objs.B ∧ x.snd.objs.O = x.snd.objs.O ∧
  x.snd.objs.len = x.snd.objs.len ∧ x.snd.objs.cap = x.snd.objs.cap ∧ x.snd.q = x.snd.q ∧ x.snd.qlen = x.snd.qlen ∧ x.snd.qcap = x.snd.qcap ∧ z = z ∧ True) ∧ ∀ (i : Nat), PL.ObjsTo
  x.fst x.snd.objs i → (ar.lt (↑i : Int) x.snd.objs.len → ar.le 0 (↑i : Int) ∧ ar.lt (↑i : Int) x.snd.objs.len ∧ ((¬ar.eq (ar.slen (ar.tget x.snd.objs.N (↑i : Int))) 16 → False) →
  ((¬ar.eq (ar.slen (ar.tget x.snd.objs.T (↑i : Int))) 16 → False) → ∃ (x_1 : Int × Int × Int), ar.iget x.snd.objs.B (↑i : Int) = x_1.fst ∧ 0 = x_1.2.fst ∧ 1048576 = x_1.2.snd ∧
  PL.Ints3 x_1 ∧ ∀ (y : Unit), True → ((¬(x_1.2.fst.le x_1.fst ∧ x_1.fst.le x_1.2.snd) → False) → ∀ (z_1 : Int), z_1 = ar.wrap IntKind.i64 (ar.sub x.fst.files 1) → ∃ (x_2 : Int ×
  Int × Int), ar.iget x.snd.objs.O (↑i : Int) = x_2.fst ∧ -1 = x_2.2.fst ∧ z_1 = x_2.2.snd ∧ PL.Ints3 x_2 ∧ ∀ (y : Unit), True → (¬(x_2.2.fst.le x_2.fst ∧ x_2.fst.le x_2.2.snd) → ∃
  (y : Unit), True ∧ (false = true ↔ PL.PoolOK x.fst x.snd) ∧ True) ∧ (¬¬(x_2.2.fst.le x_2.fst ∧ x_2.fst.le x_2.2.snd) → ∀ (z_2 : Int), z_2 = ar.wrap IntKind.i64 (ar.add (↑i : Int)
  1) → ∃ (j : Nat), PL.ObjsTo x.fst x.snd.objs j ∧ (x.snd.objs.len.toNat.sub j).lt (x.snd.objs.len.toNat.sub i) ∧ x.fst.slots = x.fst.slots ∧ x.fst.files = x.fst.files ∧ x.fst.dirs
  = x.fst.dirs ∧ x.fst.most = x.fst.most ∧ x.fst.least = x.fst.least ∧ x.fst.page = x.fst.page ∧ x.snd.objs.N = x.snd.objs.N ∧ x.snd.objs.T = x.snd.objs.T ∧ x.snd.objs.B =
  x.snd.objs.B ∧ x.snd.objs.O = x.snd.objs.O ∧ x.snd.objs.len = x.snd.objs.len ∧ x.snd.objs.cap = x.snd.objs.cap ∧ x.snd.q = x.snd.q ∧ x.snd.qlen = x.snd.qlen ∧ x.snd.qcap =
  x.snd.qcap ∧ x.snd.objs.N = x.snd.objs.N ∧ x.snd.objs.T = x.snd.objs.T ∧ x.snd.objs.B = x.snd.objs.B ∧ x.snd.objs.O = x.snd.objs.O ∧ x.snd.objs.len = x.snd.objs.len ∧
  x.snd.objs.cap = x.snd.objs.cap ∧ x.snd.objs.len = x.snd.objs.len ∧ z_2 = (↑j : Int) ∧ x.fst.slots = x.fst.slots ∧ x.fst.files = x.fst.files ∧ x.fst.dirs = x.fst.dirs ∧
  x.fst.most = x.fst.most ∧ x.fst.least = x.fst.least ∧ x.fst.page = x.fst.page ∧ x.snd.objs.N = x.snd.objs.N ∧ x.snd.objs.T = x.snd.objs.T ∧ x.snd.objs.B = x.snd.objs.B ∧
  x.snd.objs.O = x.snd.objs.O ∧ x.snd.objs.len = x.snd.objs.len ∧ x.snd.objs.cap = x.snd.objs.cap ∧ x.snd.q = x.snd.q ∧ x.snd.qlen = x.snd.qlen ∧ x.snd.qcap = x.snd.qcap ∧ z = z ∧
  True)) ∧ (¬(¬(x_1.2.fst.le x_1.fst ∧ x_1.fst.le x_1.2.snd) → False) → ∃ (y : Unit), True ∧ (false = true ↔ PL.PoolOK x.fst x.snd) ∧ True)) ∧ (¬(¬ar.eq (ar.slen (ar.tget
  x.snd.objs.T (↑i : Int))) 16 → False) → ∃ (y : Unit), True ∧ (false = true ↔ PL.PoolOK x.fst x.snd) ∧ True)) ∧ (¬(¬ar.eq (ar.slen (ar.tget x.snd.objs.N (↑i : Int))) 16 → False) →
  ∃ (y : Unit), True ∧ (false = true ↔ PL.PoolOK x.fst x.snd) ∧ True)) ∧ (¬ar.lt (↑i : Int) x.snd.objs.len → ∃ (x_1 : List Int × Int × Int × Int), x.snd.q = x_1.fst ∧ x.snd.qlen =
  x_1.2.fst ∧ x.snd.qcap = x_1.snd.snd.fst ∧ z = x_1.snd.snd.snd ∧ PL.QIn x_1 ∧ ∀ (y : Unit), True → ∃ (y : Unit), True ∧ (¬PL.QTo x_1.snd.snd.snd x_1.fst x_1.fst.length → False ↔
  PL.PoolOK x.fst x.snd) ∧ True))) ∧ (¬(¬ar.eq x.snd.objs.len z → False) → ∃ (y : Unit), True ∧ (false = true ↔ PL.PoolOK x.fst x.snd) ∧ True)
theorem ipool_eq (ar : AR) (x : poolSpec.X) : (run ar PP plSpecs (ipoolInvs x) 1000 36 (poolSpec.H x).length (Tryd.f36.body.getD .skip) (poolSpec.A x ++ List.replicate (Tryd.f36.ntmps - (poolSpec.A x).length) .any) (poolSpec.H x) (endCall ar PP Tryd.f36.results.toList (poolSpec.fin x))) = ipool_vc ar x := by
  kernel_rfl
theorem ipool_of (h : ∀ x, poolSpec.pre x → ipool_vc ar0 x) : poolSpec.OK PP 36 :=
  Spec.ok_of_run (fn := Tryd.f36) (c := Tryd.f36.body.getD .skip) (by kernel_rfl) (by kernel_rfl) (by kernel_rfl) plSpecs_ok ipoolInvs 1000 (fun x hx => (ipool_eq ar0 x).mpr (h x hx))
theorem ipool_ok : poolSpec.OK PP 36 := by
  refine ipool_of fun (x : Cfg × Pool) hx => ?_
  obtain ⟨c, p⟩ := x
  have hp : PL.PoolIn (c, p) := hx
  unfold ipool_vc
  simp only [ars, ars2, ex_int3, ints3, ex_q, true_and, and_true, exists_const, imp_false, Classical.not_not, forall_const, Int.toNat_natCast]
  simp only [Bool.false_eq_true]
  obtain ⟨⟨c1, c2, c3, c4, c5, c6⟩, hn, ht, hb, ho, hq, hcap, hqcap⟩ := hp
  simp only at c1 c2 c3 c4 c5 c6 hn ht hb ho hq hcap hqcap
  have no : (PL.PoolOK c p → False) → (False ↔ PL.PoolOK c p) := fun h => ⟨False.elim, h⟩
  intro z hz
  rw [wrap_i64 (by omega) (by omega)] at hz
  subst hz
  have hw : IntKind.i64.wrap (c.files - 1) = c.files - 1 := wrap_i64 (by omega) (by omega)
  rw [hw]
  refine ⟨fun hl => ⟨fun hql => no fun h => by have := h.qlen; omega, fun hql => ⟨⟨0, PL.o_zero (by omega), rfl⟩, fun i hi => ⟨fun hlt => ⟨by omega, hlt, ?_⟩, fun hge => ⟨⟨hq, hqcap, by simp only; omega⟩, fun h => ⟨hl, by omega, ?_, h⟩, fun h => h.q⟩⟩⟩⟩, fun hl => no fun h => hl h.len⟩
  · have at_ : PL.PoolOK c p → PL.ObjOK c p.objs i := fun h => h.objs.all i (by omega)
    refine ⟨fun k1 => ⟨fun k2 => ⟨fun k3 z hz => ?_, fun k3 => no fun h => k3 (at_ h).b⟩, fun k2 => no fun h => k2 (by have := (at_ h).t; omega)⟩, fun k1 => no fun h => k1 (by have := (at_ h).n; omega)⟩
    subst hz
    refine ⟨fun k4 => no fun h => k4 (at_ h).o, fun k4 z hz => ?_⟩
    rw [wrap_i64 (by omega) (by omega)] at hz
    exact ⟨i + 1, PL.o_step hi hlt ⟨by omega, by omega, k3, k4⟩, by omega, by omega⟩
  · have := hi.le
    rwa [show p.objs.len.toNat = i by omega]
end Go.Eng

