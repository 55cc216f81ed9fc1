/- The executor, thirteenth text: operations that change memory. -/
import Derived.Calls
import Derived.OrdersHeld
import Derived.Laws.Sem
import Derived.Laws.Cells
import Derived.Laws.Rows
import Derived.Laws.Strings2
import Derived.Laws.Slices
import Derived.Laws.StructEq
import Derived.Laws.Small
import Derived.Laws.Concat
import Derived.Laws.Pointers
import Derived.Laws.IdiomElems
import Derived.Laws.BytesString
set_option linter.unusedVariables false
set_option linter.unusedSimpArgs false
/- A verified symbolic executor over the kit's calculus, first text: symbolic values, symbolic memory, what they stand for. -/
set_option linter.unusedSectionVars false
namespace Go.Eng
inductive Z where
  | l (n : Int)
  | x (n : Int)
inductive BB where
  | l (b : Bool)
  | x (p : Prop)
inductive Off where
  | l (n : Nat)
  | x (base sz : Nat) (e : Int) (sub : Nat)
inductive Col where
  | ints (k : IntKind) (l : List Int)
  | strs (l : List (List UInt8))
  | bools (l : List Bool)
class CWorld where
  w : World
inductive SV where
  | any
  | int (k : IntKind) (z : Z)
  | bool (b : BB)
  | str (s : List UInt8)
  | ptr (n : Nat) (o : Off)
  | nptr
  | map (n : Nat)
  | nmap
  | slc (n : Nat) (o : Off) (len cap : Z)
  | nslc
  | fn (f : FuncId) (caps : List SV)
  | nfn
  | ifc (t : TypeId) (v : SV)
  | nifc
  | agg (l : List SV)
  | tup (l : List SV)
  | cs (cols : List Col) (len cap : Z)
  | cp (l : List SV)
inductive Seg where
  | one (v : SV)
  | arr (n : Z) (cols : List Col)
inductive Blk where
  | gone
  | mk (t : TypeId) (segs : List Seg)
def Z.val : Z → Int
  | .l n => n
  | .x n => n
def BB.prop : BB → Prop
  | .l b => b = true
  | .x p => p
def Off.val : Off → Nat
  | .l n => n
  | .x base sz e sub => base + e.toNat * sz + sub
def Col.len : Col → Nat
  | .ints _ l => l.length
  | .strs l => l.length
  | .bools l => l.length
def Col.at : Col → Nat → Value
  | .ints k l, i => .int k (l.getD i 0)
  | .strs l, i => .string ⟨(l.getD i []).toArray⟩
  | .bools l, i => .bool (l.getD i false)
variable [CW : CWorld]
def ccell (b i : Nat) : Option Value := if b < CW.w.heap.size then CW.w.cell? ⟨b, i, none⟩ else none
mutual
def Den (ρ : List Nat) : SV → Value → Prop
  | .any, _ => True
  | .int k z, v => v = .int k z.val
  | .bool b, v => ∃ c : Bool, v = .bool c ∧ (c = true ↔ b.prop)
  | .str s, v => v = .string ⟨s.toArray⟩
  | .ptr n o, v => ∃ b, ρ[n]? = some b ∧ v = .pointer (some ⟨b, o.val, none⟩)
  | .nptr, v => v = .pointer none
  | .map n, v => ∃ b, ρ[n]? = some b ∧ v = .map (some b)
  | .nmap, v => v = .map none
  | .slc n o len cap, v => ∃ (a : Option Addr) (b : Nat), ρ[n]? = some b ∧ v = .slice a len.val.toNat cap.val.toNat ∧ 0 ≤ len.val ∧ len.val ≤ cap.val ∧ (cap.val ≠ 0 → a = some ⟨b, o.val, none⟩)
  | .nslc, v => v = .slice none 0 0
  | .fn f caps, v => ∃ vs, v = .func (.func f) #[] vs.toArray ∧ DenL ρ caps vs
  | .nfn, v => v = .nilFunc
  | .ifc t x, v => ∃ y, v = .iface t y ∧ Den ρ x y
  | .nifc, v => v = .nilIface
  | .agg l, v => ∃ vs, v = .agg vs.toArray ∧ DenL ρ l vs
  | .tup l, v => ∃ vs, v = .tuple vs.toArray ∧ DenL ρ l vs
  | .cs cols len cap, v => ∃ a : Option Addr, v = .slice a len.val.toNat cap.val.toNat ∧ 0 ≤ len.val ∧ len.val ≤ cap.val ∧ (cap.val ≠ 0 → ∃ b off, a = some ⟨b, off, none⟩ ∧
      ∀ (i j : Nat) (c : Col), i < len.val.toNat → cols[j]? = some c → ccell b (off + i * cols.length + j) = some (c.at i))
  | .cp l, v => ∃ b off, v = .pointer (some ⟨b, off, none⟩) ∧ ∃ vs, DenL ρ l vs ∧ ∀ (j : Nat) (x : Value), vs[j]? = some x → ccell b (off + j) = some x
def DenL (ρ : List Nat) : List SV → List Value → Prop
  | [], vs => vs = []
  | a :: l, vs => ∃ v vs', vs = v :: vs' ∧ Den ρ a v ∧ DenL ρ l vs'
end
structure ArrOK (n : Nat) (cols : List Col) (cs : List Value) : Prop where
  size : cs.length = n * cols.length
  le : ∀ c ∈ cols, c.len ≤ n
  cell : ∀ (i j : Nat) (c : Col), cols[j]? = some c → i < c.len → cs[i * cols.length + j]? = some (c.at i)
  flat : ∀ v ∈ cs, (∀ l, v ≠ .agg l) ∧ (∀ l, v ≠ .tuple l)
def SegsOK (ρ : List Nat) : List Seg → List Value → Prop
  | [], cs => cs = []
  | .one v :: s, cs => ∃ c cs', cs = c :: cs' ∧ Den ρ v c ∧ SegsOK ρ s cs'
  | .arr n cols :: s, cs => ∃ a b, cs = a ++ b ∧ ArrOK n.val.toNat cols a ∧ SegsOK ρ s b
def Free (fz : Nat × Nat) (n : Nat) : Prop := ∀ i, i < n → ¬ (fz.1 ≤ i ∧ i < fz.2)
def BlkOK (ρ : List Nat) (w : World) (n : Nat) : Blk → Prop
  | .gone => True
  | .mk t segs => ∃ (cs : Array Value) (fz : Nat × Nat), (cs.size ≠ 0 → w.heap[n]? = some (.cells cs t fz) ∧ Free fz cs.size) ∧ SegsOK ρ segs cs.toList
def segsSize : List Seg → Nat
  | [] => 0
  | .one _ :: s => segsSize s + 1
  | .arr n cols :: s => n.val.toNat * cols.length + segsSize s
def Blk.there : Blk → Prop
  | .gone => False
  | .mk _ segs => segsSize segs ≠ 0
def CSame (w : World) : Prop := ∀ b, b < CW.w.heap.size → w.heap[b]? = CW.w.heap[b]?
structure HOK (ρ : List Nat) (hp : List Blk) (w : World) : Prop where
  len : ρ.length = hp.length
  inj : ∀ (i j n : Nat) (b c : Blk), hp[i]? = some b → hp[j]? = some c → b.there → c.there → ρ[i]? = some n → ρ[j]? = some n → i = j
  ok : ∀ (i n : Nat) (b : Blk), hp[i]? = some b → ρ[i]? = some n → BlkOK ρ w n b
  cst : CSame w
  above : ∀ (i n : Nat) (b : Blk), hp[i]? = some b → b.there → ρ[i]? = some n → CW.w.heap.size ≤ n
def Own (ρ : List Nat) (hp : List Blk) (n : Nat) : Prop := ∃ (i : Nat) (x : Blk), hp[i]? = some x ∧ x.there ∧ ρ[i]? = some n
structure Since (ρ0 : List Nat) (hp0 : List Blk) (w0 : World) (ρ : List Nat) (hp : List Blk) (w : World) : Prop where
  hok : HOK ρ hp w
  old : ∃ l, ρ = ρ0 ++ l
  new : ∀ n, Own ρ hp n → w0.heap.size ≤ n ∨ Own ρ0 hp0 n
  frame : ∀ b, b < w0.heap.size → ¬ Own ρ0 hp0 b → w.heap[b]? = w0.heap[b]?
  size : w0.heap.size ≤ w.heap.size
  tape : w.tape = w0.tape
  os : w.os = w0.os
  out : w.output = w0.output
theorem segsOK_size {ρ : List Nat} : ∀ {s : List Seg} {cs : List Value}, SegsOK ρ s cs → cs.length = segsSize s
  | [], cs, h => by simp only [SegsOK] at h; subst h; rfl
  | .one v :: s, cs, h => by
    simp only [SegsOK] at h
    obtain ⟨c, cs', rfl, _, hs⟩ := h
    simp [segsSize, segsOK_size hs]
  | .arr n cols :: s, cs, h => by
    simp only [SegsOK] at h
    obtain ⟨a, b, rfl, ha, hs⟩ := h
    rw [List.length_append, ha.size, segsOK_size hs]
    rfl
theorem denL_length {ρ : List Nat} : ∀ {l : List SV} {vs : List Value}, DenL ρ l vs → vs.length = l.length
  | [], vs, h => by simp only [DenL] at h; simp [h]
  | a :: l, vs, h => by
    simp only [DenL] at h
    obtain ⟨v, vs', rfl, _, h'⟩ := h
    simp [denL_length h']
theorem denL_get {ρ : List Nat} : ∀ {l : List SV} {vs : List Value} {i : Nat} {a : SV}, DenL ρ l vs → l[i]? = some a → ∃ v, vs[i]? = some v ∧ Den ρ a v
  | [], vs, i, a, h, hi => by simp at hi
  | b :: l, vs, i, a, h, hi => by
    simp only [DenL] at h
    obtain ⟨v, vs', rfl, hv, h'⟩ := h
    cases i with
    | zero => simp at hi; subst hi; exact ⟨v, by simp, hv⟩
    | succ i => simp at hi; obtain ⟨u, hu, hd⟩ := denL_get h' hi; exact ⟨u, by simpa using hu, hd⟩
theorem denL_append {ρ : List Nat} : ∀ {l l' : List SV} {vs vs' : List Value}, DenL ρ l vs → DenL ρ l' vs' → DenL ρ (l ++ l') (vs ++ vs')
  | [], l', vs, vs', h, h' => by simp only [DenL] at h; subst h; simpa using h'
  | a :: l, l', vs, vs', h, h' => by
    simp only [DenL] at h
    obtain ⟨v, ws, rfl, hv, hl⟩ := h
    simp only [List.cons_append, DenL]
    exact ⟨v, ws ++ vs', rfl, hv, denL_append hl h'⟩
end Go.Eng
/- The executor, second text: arithmetic by name; reading symbolic memory. -/
set_option linter.unusedSectionVars false
namespace Go.Eng
variable [CW : CWorld]
structure AR where
  wrap : IntKind → Int → Int
  add : Int → Int → Int
  sub : Int → Int → Int
  mul : Int → Int → Int
  quo : Int → Int → Int
  rem : Int → Int → Int
  band : IntKind → Int → Int → Int
  bor : IntKind → Int → Int → Int
  bxor : IntKind → Int → Int → Int
  bnot : IntKind → Int → Int → Int
  shl : IntKind → Int → Int → Int
  shr : IntKind → Int → Int → Int
  mn : Int → Int → Int
  mx : Int → Int → Int
  lt : Int → Int → Prop
  le : Int → Int → Prop
  eq : Int → Int → Prop
  slen : List UInt8 → Int
  sget : List UInt8 → Int → Int
  sext : List UInt8 → Int → Int → List UInt8
  sapp : List UInt8 → List UInt8 → List UInt8
  seq : List UInt8 → List UInt8 → Prop
  slt : List UInt8 → List UInt8 → Prop
  bytes : List Int → List UInt8
  ints : List UInt8 → List Int
  ilen : List Int → Int
  iget : List Int → Int → Int
  iset : List Int → Int → Int → List Int
  isub : List Int → Int → Int → List Int
  iapp : List Int → List Int → List Int
  iover : List Int → Int → List Int → List Int
  irep : Int → Int → List Int
  tlen : List (List UInt8) → Int
  tget : List (List UInt8) → Int → List UInt8
  tset : List (List UInt8) → Int → List UInt8 → List (List UInt8)
  tsub : List (List UInt8) → Int → Int → List (List UInt8)
  tapp : List (List UInt8) → List (List UInt8) → List (List UInt8)
  trep : List UInt8 → Int → List (List UInt8)
  blen : List Bool → Int
  bget : List Bool → Int → Prop
  bsub : List Bool → Int → Int → List Bool
noncomputable def ar0 : AR where
  wrap k n := k.wrap n
  add x y := x + y
  sub x y := x - y
  mul x y := x * y
  quo x y := x.tdiv y
  rem x y := x.tmod y
  band k x y := k.wrap (BitVec.ofInt k.bits x &&& BitVec.ofInt k.bits y).toNat
  bor k x y := k.wrap (BitVec.ofInt k.bits x ||| BitVec.ofInt k.bits y).toNat
  bxor k x y := k.wrap (BitVec.ofInt k.bits x ^^^ BitVec.ofInt k.bits y).toNat
  bnot k x y := k.wrap (BitVec.ofInt k.bits x &&& ~~~ BitVec.ofInt k.bits y).toNat
  shl k x y := k.wrap (x * 2 ^ (min y.toNat k.bits))
  shr k x y := x.fdiv (2 ^ (min y.toNat k.bits))
  mn x y := if y < x then y else x
  mx x y := if y > x then y else x
  lt x y := x < y
  le x y := x ≤ y
  eq x y := x = y
  slen s := s.length
  sget s i := ((s.getD i.toNat 0).toNat : Int)
  sext s a b := (s.take b.toNat).drop a.toNat
  sapp s t := s ++ t
  seq s t := s = t
  slt s t := Op.bytesLess s t = true
  bytes l := l.map fun n => UInt8.ofNat n.toNat
  ints l := l.map fun b => (b.toNat : Int)
  ilen l := l.length
  iget l i := l.getD i.toNat 0
  iset l i v := l.set i.toNat v
  isub l a n := (l.drop a.toNat).take n.toNat
  iapp l m := l ++ m
  iover l a m := l.take a.toNat ++ m ++ l.drop (a.toNat + m.length)
  irep v n := List.replicate n.toNat v
  tlen l := l.length
  tget l i := l.getD i.toNat []
  tset l i v := l.set i.toNat v
  tsub l a n := (l.drop a.toNat).take n.toNat
  tapp l m := l ++ m
  trep v n := List.replicate n.toNat v
  blen l := l.length
  bget l i := l.getD i.toNat false = true
  bsub l a n := (l.drop a.toNat).take n.toNat
def AllP : List Prop → Prop
  | [] => True
  | p :: l => p ∧ AllP l
theorem allP_append {l m : List Prop} : AllP (l ++ m) ↔ AllP l ∧ AllP m := by
  induction l with
  | nil => simp [AllP]
  | cons p l ih => simp [AllP, ih, and_assoc]
variable (ar : AR)
def Col.get (c : Col) (e : Int) : SV × List Prop :=
  match c with
  | .ints k l => (.int k (.x (ar.iget l e)), [ar.le 0 e, ar.lt e (ar.ilen l)])
  | .strs l => (.str (ar.tget l e), [ar.le 0 e, ar.lt e (ar.tlen l)])
  | .bools l => (.bool (.x (ar.bget l e)), [ar.le 0 e, ar.lt e (ar.blen l)])
def Col.cell (c : Col) (e : Int) : SV :=
  match c with
  | .ints k l => .int k (.x (ar.iget l e))
  | .strs l => .str (ar.tget l e)
  | .bools l => .bool (.x (ar.bget l e))
def Col.part (c : Col) (a n : Int) : Col :=
  match c with
  | .ints k l => .ints k (ar.isub l a n)
  | .strs l => .strs (ar.tsub l a n)
  | .bools l => .bools (ar.bsub l a n)
theorem col_cell_den (ρ : List Nat) (c : Col) (e : Int) : Den ρ (c.cell ar0 e) (c.at e.toNat) := by
  cases c <;> simp [Col.cell, Den, Col.at, Z.val, BB.prop, ar0]
theorem getD_part {α : Type} (l : List α) (a n i : Nat) (d : α) (h : i < n) : ((l.drop a).take n).getD i d = l.getD (a + i) d := by
  simp [List.getD, List.getElem?_take, h]
theorem col_part_at (c : Col) {a n : Int} {i : Nat} (h : i < n.toNat) : (c.part ar0 a n).at i = c.at (a.toNat + i) := by
  cases c <;> simp only [Col.part, Col.at, ar0, getD_part _ _ _ _ _ h]
def colsGet (cols : List Col) (j : Nat) (e : Int) : Option (SV × List Prop) :=
  match cols[j]? with
  | some c => some (c.get ar e)
  | none => none
def segGet : List Seg → Off → Option (SV × List Prop)
  | [], _ => none
  | .one v :: _, .l 0 => some (v, [])
  | .one _ :: s, .l (b + 1) => segGet s (.l b)
  | .one _ :: _, .x 0 _ _ _ => none
  | .one _ :: s, .x (b + 1) sz e sub => segGet s (.x b sz e sub)
  | .arr n cols :: s, .l b =>
    match cols.length with
    | 0 => none
    | c + 1 =>
      match n with
      | .l k => if b < k.toNat * (c + 1) then colsGet ar cols (b % (c + 1)) (b / (c + 1) : Nat) else segGet s (.l (b - k.toNat * (c + 1)))
      | .x _ => colsGet ar cols (b % (c + 1)) (b / (c + 1) : Nat)
  | .arr n cols :: s, .x b sz e sub =>
    match n with
    | .l k =>
      if k.toNat * cols.length ≤ b then segGet s (.x (b - k.toNat * cols.length) sz e sub)
      else if b = 0 ∧ sz = cols.length ∧ sub < sz then colsGet ar cols sub e
      else none
    | .x _ => if b = 0 ∧ sz = cols.length ∧ sub < sz then colsGet ar cols sub e else none
def Off.succ : Off → Off
  | .l b => .l (b + 1)
  | .x b sz e sub => .x b sz e (sub + 1)
def segGetN (segs : List Seg) : Off → Nat → Option (List SV × List Prop)
  | _, 0 => some ([], [])
  | o, n + 1 =>
    match segGet ar segs o, segGetN segs o.succ n with
    | some (v, p), some (l, q) => some (v :: l, p ++ q)
    | _, _ => none
theorem Off.val_succ (o : Off) : o.succ.val = o.val + 1 := by
  cases o <;> simp [Off.succ, Off.val]; omega
theorem colGet_sound {ρ : List Nat} {c : Col} {e : Int} {sv : SV} {vc : List Prop} (h : c.get ar0 e = (sv, vc)) (hv : AllP vc) :
    0 ≤ e ∧ e.toNat < c.len ∧ Den ρ sv (c.at e.toNat) := by
  cases c <;> simp only [Col.get, Prod.mk.injEq] at h <;> obtain ⟨rfl, rfl⟩ := h <;> simp only [AllP, ar0, and_true] at hv <;> obtain ⟨h0, h1⟩ := hv
  · exact ⟨h0, by simp only [Col.len]; omega, by simp [Den, Col.at, Z.val, ar0]⟩
  · exact ⟨h0, by simp only [Col.len]; omega, by simp [Den, Col.at, ar0]⟩
  · exact ⟨h0, by simp only [Col.len]; omega, by simp [Den, Col.at, BB.prop, ar0]⟩
theorem colsGet_sound {ρ : List Nat} {n : Nat} {cols : List Col} {cs : List Value} {j : Nat} {e : Int} {sv : SV} {vc : List Prop}
    (ha : ArrOK n cols cs) (h : colsGet ar0 cols j e = some (sv, vc)) (hv : AllP vc) :
    ∃ v, cs[e.toNat * cols.length + j]? = some v ∧ Den ρ sv v := by
  unfold colsGet at h
  split at h
  · rename_i c hc
    simp only [Option.some.injEq] at h
    obtain ⟨h0, h1, hd⟩ := colGet_sound (ρ := ρ) h hv
    exact ⟨_, ha.cell _ _ _ hc h1, hd⟩
  · cases h
theorem segGet_sound {ρ : List Nat} : ∀ {segs : List Seg} {cs : List Value} {o : Off} {sv : SV} {vc : List Prop},
    SegsOK ρ segs cs → segGet ar0 segs o = some (sv, vc) → AllP vc → ∃ v, cs[o.val]? = some v ∧ Den ρ sv v
  | [], cs, o, sv, vc, hs, h, hv => by simp [segGet] at h
  | .one v :: s, cs, o, sv, vc, hs, h, hv => by
    simp only [SegsOK] at hs
    obtain ⟨c, cs', rfl, hc, hs⟩ := hs
    match o, h with
    | .l 0, h =>
      simp only [segGet, Option.some.injEq, Prod.mk.injEq] at h
      obtain ⟨rfl, rfl⟩ := h
      exact ⟨c, by simp [Off.val], hc⟩
    | .l (b + 1), h =>
      obtain ⟨u, hu, hd⟩ := segGet_sound hs (by simpa only [segGet] using h) hv
      exact ⟨u, by simpa [Off.val] using hu, hd⟩
    | .x 0 _ _ _, h => simp [segGet] at h
    | .x (b + 1) sz e sub, h =>
      obtain ⟨u, hu, hd⟩ := segGet_sound hs (by simpa only [segGet] using h) hv
      refine ⟨u, ?_, hd⟩
      simp only [Off.val] at hu ⊢
      rw [show b + 1 + e.toNat * sz + sub = (b + e.toNat * sz + sub) + 1 by omega]
      simpa using hu
  | .arr n cols :: s, cs, o, sv, vc, hs, h, hv => by
    simp only [SegsOK] at hs
    obtain ⟨a, b', rfl, ha, hs⟩ := hs
    have hsz := ha.size
    have hlt : ∀ {i : Nat} {v : Value}, a[i]? = some v → (a ++ b')[i]? = some v := fun {i v} hi => by
      rw [List.getElem?_append_left]; · exact hi
      · exact (List.getElem?_eq_some_iff.1 hi).1
    match o, h with
    | .l b, h =>
      simp only [segGet] at h
      split at h
      · cases h
      · rename_i c hc
        have hdiv : b / (c + 1) * (c + 1) + b % (c + 1) = b := by have := Nat.div_add_mod b (c + 1); rw [Nat.mul_comm] at this; exact this
        cases n with
        | l k =>
          simp only at h
          split at h
          · obtain ⟨u, hu, hd⟩ := colsGet_sound (ρ := ρ) ha h hv
            refine ⟨u, hlt ?_, hd⟩
            rw [Int.toNat_natCast, hc, hdiv] at hu
            exact hu
          · rename_i hge
            obtain ⟨u, hu, hd⟩ := segGet_sound hs h hv
            refine ⟨u, ?_, hd⟩
            simp only [Off.val] at hu ⊢
            have hz : a.length = k.toNat * (c + 1) := by rw [hsz, hc]; rfl
            rw [List.getElem?_append_right (by omega), hz]
            exact hu
        | x k =>
          obtain ⟨u, hu, hd⟩ := colsGet_sound (ρ := ρ) ha h hv
          refine ⟨u, hlt ?_, hd⟩
          rw [Int.toNat_natCast, hc, hdiv] at hu
          exact hu
    | .x b sz e sub, h =>
      simp only [segGet] at h
      cases n with
      | l k =>
        simp only at h
        split at h
        · rename_i hge
          obtain ⟨u, hu, hd⟩ := segGet_sound hs h hv
          refine ⟨u, ?_, hd⟩
          simp only [Off.val] at hu ⊢
          have hz : a.length = k.toNat * cols.length := hsz
          rw [List.getElem?_append_right (by omega), hz, ← hu]
          congr 1
          omega
        · split at h
          · rename_i hcond
            obtain ⟨rfl, rfl, hsub⟩ := hcond
            obtain ⟨u, hu, hd⟩ := colsGet_sound (ρ := ρ) ha h hv
            exact ⟨u, hlt (by simpa [Off.val] using hu), hd⟩
          · cases h
      | x k =>
        simp only at h
        split at h
        · rename_i hcond
          obtain ⟨rfl, rfl, hsub⟩ := hcond
          obtain ⟨u, hu, hd⟩ := colsGet_sound (ρ := ρ) ha h hv
          exact ⟨u, hlt (by simpa [Off.val] using hu), hd⟩
        · cases h
theorem segGetN_sound {ρ : List Nat} {segs : List Seg} {cs : List Value} (hs : SegsOK ρ segs cs) : ∀ {n : Nat} {o : Off} {l : List SV} {vc : List Prop},
    segGetN ar0 segs o n = some (l, vc) → AllP vc → ∃ vs, DenL ρ l vs ∧ vs.length = n ∧ ∀ j v, vs[j]? = some v → cs[o.val + j]? = some v
  | 0, o, l, vc, h, hv => by
    simp only [segGetN, Option.some.injEq, Prod.mk.injEq] at h
    obtain ⟨rfl, rfl⟩ := h
    exact ⟨[], by simp [DenL], rfl, by simp⟩
  | n + 1, o, l, vc, h, hv => by
    simp only [segGetN] at h
    split at h
    · rename_i v p l' q h1 h2
      simp only [Option.some.injEq, Prod.mk.injEq] at h
      obtain ⟨rfl, rfl⟩ := h
      obtain ⟨hp, hq⟩ := allP_append.1 hv
      obtain ⟨u, hu, hd⟩ := segGet_sound hs h1 hp
      obtain ⟨us, hus, hlen, hcell⟩ := segGetN_sound hs h2 hq
      refine ⟨u :: us, by simp only [DenL]; exact ⟨u, us, rfl, hd, hus⟩, by simp [hlen], fun j v hj => ?_⟩
      cases j with
      | zero => simp at hj; subst hj; simpa using hu
      | succ j =>
        have := hcell j v (by simpa using hj)
        rw [Off.val_succ] at this
        rw [show o.val + (j + 1) = o.val + 1 + j by omega]
        exact this
    · cases h
end Go.Eng
/- The executor, third text: operations that only compute. -/
set_option linter.unusedSectionVars false
namespace Go.Eng
variable [CW : CWorld]
variable (ar : AR)
abbrev QR := Option (SV × List Prop)
structure Same (ρ : List Nat) (hp : List Blk) (w1 w : World) : Prop where
  blk : ∀ (n b : Nat) (t : TypeId) (segs : List Seg), hp[n]? = some (.mk t segs) → segsSize segs ≠ 0 → ρ[n]? = some b → w.heap[b]? = w1.heap[b]?
  cst : CSame w
def QS (P : Program) (ρ : List Nat) (hp : List Blk) (w1 : World) (s : Sem Value) (r : QR) : Prop :=
  ∀ sv vc, r = some (sv, vc) → AllP vc → ∃ v, Den ρ sv v ∧ ∀ w, Same ρ hp w1 w → s.run P w = .ok v w
def zbin (f g : Int → Int → Int) : Z → Z → Z
  | .l a, .l b => .l (g a b)
  | .l a, .x b => .x (f a b)
  | .x a, .l b => .x (f a b)
  | .x a, .x b => .x (f a b)
def zun (f g : Int → Int) : Z → Z
  | .l a => .l (g a)
  | .x a => .x (f a)
def zcmp (f : Int → Int → Prop) (g : Int → Int → Bool) : Z → Z → BB
  | .l a, .l b => .l (g a b)
  | .l a, .x b => .x (f a b)
  | .x a, .l b => .x (f a b)
  | .x a, .x b => .x (f a b)
theorem zbin_val {f g : Int → Int → Int} (h : ∀ a b, f a b = g a b) (a b : Z) : (zbin f g a b).val = f a.val b.val := by
  cases a <;> cases b <;> simp [zbin, Z.val, h]
theorem zun_val {f g : Int → Int} (h : ∀ a, f a = g a) (a : Z) : (zun f g a).val = f a.val := by
  cases a <;> simp [zun, Z.val, h]
theorem zcmp_prop {f : Int → Int → Prop} {g : Int → Int → Bool} (h : ∀ a b, g a b = true ↔ f a b) (a b : Z) : (zcmp f g a b).prop ↔ f a.val b.val := by
  cases a <;> cases b <;> simp [zcmp, Z.val, BB.prop, h]
def nonneg (ar : AR) : Z → List Prop
  | .l n => if 0 ≤ n then [] else [False]
  | .x n => [ar.le 0 n]
def nonzero (ar : AR) : Z → List Prop
  | .l n => if n = 0 then [False] else []
  | .x n => [¬ ar.eq n 0]
theorem nonneg_sound {z : Z} (h : AllP (nonneg ar0 z)) : 0 ≤ z.val := by
  cases z with
  | l n =>
    simp only [nonneg] at h
    split at h
    · simpa [Z.val]
    · simp [AllP] at h
  | x n => simpa [nonneg, AllP, ar0, Z.val] using h
theorem nonzero_sound {z : Z} (h : AllP (nonzero ar0 z)) : z.val ≠ 0 := by
  cases z with
  | l n =>
    simp only [nonzero] at h
    split at h
    · simp [AllP] at h
    · simpa [Z.val]
  | x n => simpa [nonzero, AllP, ar0, Z.val] using h
def boolOf (b : BB) : QR := some (.bool b, [])
def bnot : BB → BB
  | .l b => .l (!b)
  | .x p => .x (¬ p)
theorem bnot_prop (b : BB) : (bnot b).prop ↔ ¬ b.prop := by cases b <;> simp [bnot, BB.prop]
noncomputable def qInt (op : BinOp) (k : IntKind) (x y : Z) : QR :=
  match op with
  | .add => some (.int k (zun (ar.wrap k) k.wrap (zbin ar.add (· + ·) x y)), [])
  | .sub => some (.int k (zun (ar.wrap k) k.wrap (zbin ar.sub (· - ·) x y)), [])
  | .mul => some (.int k (zun (ar.wrap k) k.wrap (zbin ar.mul (· * ·) x y)), [])
  | .quo => some (.int k (zun (ar.wrap k) k.wrap (zbin ar.quo Int.tdiv x y)), nonzero ar y)
  | .rem => some (.int k (zbin ar.rem Int.tmod x y), nonzero ar y)
  | .and => some (.int k (zbin (ar.band k) (ar0.band k) x y), [])
  | .or => some (.int k (zbin (ar.bor k) (ar0.bor k) x y), [])
  | .xor => some (.int k (zbin (ar.bxor k) (ar0.bxor k) x y), [])
  | .andNot => some (.int k (zbin (ar.bnot k) (ar0.bnot k) x y), [])
  | .eql => boolOf (zcmp ar.eq (fun a b => a == b) x y)
  | .neq => boolOf (bnot (zcmp ar.eq (fun a b => a == b) x y))
  | .lss => boolOf (zcmp ar.lt (fun a b => decide (a < b)) x y)
  | .leq => boolOf (zcmp ar.le (fun a b => decide (a ≤ b)) x y)
  | .gtr => boolOf (zcmp ar.lt (fun a b => decide (a < b)) y x)
  | .geq => boolOf (zcmp ar.le (fun a b => decide (a ≤ b)) y x)
  | _ => none
noncomputable def qShift (op : BinOp) (k : IntKind) (x y : Z) : QR :=
  match op with
  | .shl => some (.int k (zbin (ar.shl k) (ar0.shl k) x y), nonneg ar y)
  | .shr => some (.int k (zbin (ar.shr k) (ar0.shr k) x y), nonneg ar y)
  | _ => none
def qStr (op : BinOp) (s t : List UInt8) : QR :=
  match op with
  | .add => some (.str (ar.sapp s t), [ar.le (ar.add (ar.slen s) (ar.slen t)) 9223372036854775807])
  | .eql => boolOf (.x (ar.seq s t))
  | .neq => boolOf (.x (¬ ar.seq s t))
  | .lss => boolOf (.x (ar.slt s t))
  | .leq => boolOf (.x (ar.slt s t ∨ ar.seq s t))
  | .gtr => boolOf (.x (¬ (ar.slt s t ∨ ar.seq s t)))
  | .geq => boolOf (.x (¬ ar.slt s t))
  | _ => none
theorem den_bool {ρ : List Nat} {b : BB} {c : Bool} (h : c = true ↔ b.prop) : Den ρ (.bool b) (.bool c) := by
  simp only [Den]; exact ⟨c, rfl, h⟩
theorem qInt_sound (P : Program) (ρ : List Nat) (hp : List Blk) (w1 : World) (op : BinOp) (t : TypeId) (k : IntKind) (x y : Z) (h1 : op ≠ .shl) (h2 : op ≠ .shr) :
    QS P ρ hp w1 (binOp op t (.int k x.val) (.int k y.val)) (qInt ar0 op k x y) := by
  intro sv vc h hv
  cases op <;> simp only [qInt, boolOf, Option.some.injEq, Prod.mk.injEq, reduceCtorEq] at h <;> first | exact absurd rfl h1 | exact absurd rfl h2 | skip
  case add => obtain ⟨rfl, rfl⟩ := h; exact ⟨_, rfl, fun w _ => by rw [zun_val (by intros; rfl), zbin_val (by intros; rfl)]; simp [binOp, Op.intArith, ar0]⟩
  case sub => obtain ⟨rfl, rfl⟩ := h; exact ⟨_, rfl, fun w _ => by rw [zun_val (by intros; rfl), zbin_val (by intros; rfl)]; simp [binOp, Op.intArith, ar0]⟩
  case mul => obtain ⟨rfl, rfl⟩ := h; exact ⟨_, rfl, fun w _ => by rw [zun_val (by intros; rfl), zbin_val (by intros; rfl)]; simp [binOp, Op.intArith, ar0]⟩
  case quo => obtain ⟨rfl, rfl⟩ := h; have := nonzero_sound hv; exact ⟨_, rfl, fun w _ => by rw [zun_val (by intros; rfl), zbin_val (by intros; rfl)]; simp [binOp, Op.intDiv, ar0, this]⟩
  case rem => obtain ⟨rfl, rfl⟩ := h; have := nonzero_sound hv; exact ⟨_, rfl, fun w _ => by rw [zbin_val (by intros; rfl)]; simp [binOp, Op.intDiv, ar0, this]⟩
  case and => obtain ⟨rfl, rfl⟩ := h; exact ⟨_, rfl, fun w _ => by rw [zbin_val (by intros; rfl)]; simp [binOp, Op.intBits, ar0]⟩
  case or => obtain ⟨rfl, rfl⟩ := h; exact ⟨_, rfl, fun w _ => by rw [zbin_val (by intros; rfl)]; simp [binOp, Op.intBits, ar0]⟩
  case xor => obtain ⟨rfl, rfl⟩ := h; exact ⟨_, rfl, fun w _ => by rw [zbin_val (by intros; rfl)]; simp [binOp, Op.intBits, ar0]⟩
  case andNot => obtain ⟨rfl, rfl⟩ := h; exact ⟨_, rfl, fun w _ => by rw [zbin_val (by intros; rfl)]; simp [binOp, Op.intBits, ar0]⟩
  case eql => obtain ⟨rfl, rfl⟩ := h; exact ⟨.bool (x.val == y.val), den_bool (by rw [zcmp_prop (by simp [ar0])]; simp [ar0]), fun w _ => by simp [binOp, Op.intCmp]⟩
  case neq => obtain ⟨rfl, rfl⟩ := h; exact ⟨.bool (x.val != y.val), den_bool (by rw [bnot_prop, zcmp_prop (by simp [ar0])]; simp [ar0]), fun w _ => by simp [binOp, Op.intCmp]⟩
  case lss => obtain ⟨rfl, rfl⟩ := h; exact ⟨.bool (decide (x.val < y.val)), den_bool (by rw [zcmp_prop (by simp [ar0])]; simp [ar0]), fun w _ => by simp [binOp, Op.intCmp]⟩
  case leq => obtain ⟨rfl, rfl⟩ := h; exact ⟨.bool (decide (x.val ≤ y.val)), den_bool (by rw [zcmp_prop (by simp [ar0])]; simp [ar0]), fun w _ => by simp [binOp, Op.intCmp]⟩
  case gtr => obtain ⟨rfl, rfl⟩ := h; exact ⟨.bool (decide (x.val > y.val)), den_bool (by rw [zcmp_prop (by simp [ar0])]; simp [ar0]), fun w _ => by simp [binOp, Op.intCmp]⟩
  case geq => obtain ⟨rfl, rfl⟩ := h; exact ⟨.bool (decide (x.val ≥ y.val)), den_bool (by rw [zcmp_prop (by simp [ar0])]; simp [ar0]), fun w _ => by simp [binOp, Op.intCmp]⟩
theorem qShift_sound (P : Program) (ρ : List Nat) (hp : List Blk) (w1 : World) (op : BinOp) (t : TypeId) (k k' : IntKind) (x y : Z) :
    QS P ρ hp w1 (binOp op t (.int k x.val) (.int k' y.val)) (qShift ar0 op k x y) := by
  intro sv vc h hv
  cases op <;> simp only [qShift, Option.some.injEq, Prod.mk.injEq, reduceCtorEq] at h
  case shl =>
    obtain ⟨rfl, rfl⟩ := h
    have hn := nonneg_sound hv
    exact ⟨_, rfl, fun w _ => by rw [zbin_val (by intros; rfl)]; simp [binOp, Op.shift, ar0, Int.not_lt.2 hn]⟩
  case shr =>
    obtain ⟨rfl, rfl⟩ := h
    have hn := nonneg_sound hv
    exact ⟨_, rfl, fun w _ => by rw [zbin_val (by intros; rfl)]; simp [binOp, Op.shift, ar0, Int.not_lt.2 hn]⟩
theorem qStr_sound (P : Program) (ρ : List Nat) (hp : List Blk) (w1 : World) (op : BinOp) (t : TypeId) (a b : List UInt8) :
    QS P ρ hp w1 (binOp op t (.string ⟨a.toArray⟩) (.string ⟨b.toArray⟩)) (qStr ar0 op a b) := by
  intro sv vc h hv
  cases op <;> simp only [qStr, boolOf, Option.some.injEq, Prod.mk.injEq, reduceCtorEq] at h
  case add =>
    obtain ⟨rfl, rfl⟩ := h
    simp only [AllP, ar0, and_true] at hv
    refine ⟨_, rfl, fun w _ => ?_⟩
    rw [binOp_string_add, run_string_add_sum]
    · congr 2
    · simp only [ByteArray.size, List.size_toArray]; omega
  case eql => obtain ⟨rfl, rfl⟩ := h; exact ⟨.bool (a == b), den_bool (by simp [BB.prop, ar0]), fun w _ => by rw [binOp_string_eql]; simp⟩
  case neq => obtain ⟨rfl, rfl⟩ := h; exact ⟨.bool (!(a == b)), den_bool (by simp [BB.prop, ar0]), fun w _ => by rw [binOp_string_neq]; simp⟩
  case lss => obtain ⟨rfl, rfl⟩ := h; exact ⟨.bool (Op.bytesLess a b), den_bool (by simp [BB.prop, ar0]), fun w _ => by rw [binOp_string_lss]; simp⟩
  case leq => obtain ⟨rfl, rfl⟩ := h; exact ⟨.bool (Op.bytesLess a b || a == b), den_bool (by simp [BB.prop, ar0]), fun w _ => by simp [binOp, Op.stringOp]⟩
  case gtr => obtain ⟨rfl, rfl⟩ := h; exact ⟨.bool (!(Op.bytesLess a b || a == b)), den_bool (by simp [BB.prop, ar0]), fun w _ => by simp [binOp, Op.stringOp]⟩
  case geq => obtain ⟨rfl, rfl⟩ := h; exact ⟨.bool (!Op.bytesLess a b), den_bool (by simp [BB.prop, ar0]), fun w _ => by simp [binOp, Op.stringOp]⟩
end Go.Eng
/- The executor, fourth text: equality, slices, fields, places. -/
set_option linter.unusedSectionVars false
namespace Go.Eng
variable [CW : CWorld]
variable (ar : AR)
def eqSc (P : Program) (t : TypeId) (a b : SV) : Option BB :=
  match P.underlying t, a, b with
  | some (.int _), .int k x, .int k' y => if k = k' then some (zcmp ar.eq (fun a b => a == b) x y) else none
  | some .string, .str x, .str y => some (.x (ar.seq x y))
  | some .bool, .bool x, .bool y => some (.x (x.prop ↔ y.prop))
  | some (.pointer _), .nptr, .nptr => some (.l true)
  | some (.pointer _), .nptr, .ptr _ _ => some (.l false)
  | some (.pointer _), .ptr _ _, .nptr => some (.l false)
  | some (.slice _), .nslc, .nslc => some (.l true)
  | some (.func _ _ _), .nfn, .nfn => some (.l true)
  | some (.func _ _ _), .fn _ _, .nfn => some (.l false)
  | some (.func _ _ _), .nfn, .fn _ _ => some (.l false)
  | some (.interface _), .ifc _ _, .nifc => some (.l false)
  | some (.interface _), .nifc, .ifc _ _ => some (.l false)
  | some (.pointer _), .cp _, .nptr => some (.l false)
  | _, _, _ => none
theorem beqByte (a b : List UInt8) : ((⟨a.toArray⟩ : ByteArray) == ⟨b.toArray⟩) = (a == b) := by
  rw [beq_toListBytes]; simp
def SV.numeric : SV → Bool
  | .int _ _ => true
  | .str _ => true
  | _ => false
def Plain (P : Program) (x y : Value) : Prop :=
  (∀ t, binOp .eql t x y = (do pure (.bool (← Op.equal t x y)))) ∧ (∀ t, binOp .neq t x y = (do pure (.bool (!(← Op.equal t x y))))) ∧
    ∀ op t ox oy w, (eqGuard op t ox oy x y).run P w = .ok () w
theorem eqSc_plain {P : Program} {ρ : List Nat} {t : TypeId} {a b : SV} {x y : Value} {r : BB} (ha : Den ρ a x) (hb : Den ρ b y)
    (h : eqSc ar0 P t a b = some r) (hn : a.numeric = false) : Plain P x y := by
  unfold eqSc at h
  split at h
  all_goals first | (cases h; done) | (simp [SV.numeric] at hn; done) | skip
  all_goals simp only [Den] at ha hb
  all_goals first
    | (subst ha hb)
    | (obtain ⟨_, rfl, _⟩ := ha; subst hb)
    | (obtain ⟨_, rfl, _⟩ := hb; subst ha)
    | (obtain ⟨_, rfl, _⟩ := ha; obtain ⟨_, rfl, _⟩ := hb)
    | (obtain ⟨_, _, rfl⟩ := ha; subst hb)
    | (obtain ⟨_, _, rfl⟩ := hb; subst ha)
    | (obtain ⟨_, _, rfl, _⟩ := ha; subst hb)
    | (obtain ⟨_, _, _, rfl, _⟩ := ha; subst hb)
    | (obtain ⟨_, _, _, rfl, _⟩ := hb; subst ha)
  all_goals exact ⟨fun t => rfl, fun t => rfl, fun op t ox oy w => by cases op <;> rfl⟩
theorem eqSc_sound {P : Program} {ρ : List Nat} {t : TypeId} {a b : SV} {x y : Value} {r : BB} (ha : Den ρ a x) (hb : Den ρ b y)
    (h : eqSc ar0 P t a b = some r) : ∃ c : Bool, (c = true ↔ r.prop) ∧ ∀ w d, (Op.equalIn (d + 1) t x y).run P w = .ok c w := by
  unfold eqSc at h
  split at h <;> rename_i hu
  · split at h
    · rename_i hk
      subst hk
      simp only [Option.some.injEq] at h
      subst h
      simp only [Den] at ha hb
      subst ha hb
      exact ⟨_, by rw [zcmp_prop (by simp [ar0])]; exact beq_iff_eq, fun w d => by simp [Op.equalIn, run_underlying hu]⟩
    · cases h
  all_goals try (cases h)
  all_goals simp only [Den] at ha hb
  · subst ha hb; exact ⟨_, by simp only [BB.prop, ar0]; exact beq_iff_eq, fun w d => by simp [Op.equalIn, run_underlying hu, beqByte]⟩
  · obtain ⟨c, rfl, hc⟩ := ha
    obtain ⟨d, rfl, hd⟩ := hb
    refine ⟨c == d, ?_, fun w e => by simp [Op.equalIn, run_underlying hu]⟩
    simp only [BB.prop]
    change _ ↔ (BB.prop _ ↔ BB.prop _)
    rw [← hc, ← hd]
    cases c <;> cases d <;> simp
  · subst ha hb; exact ⟨true, by simp [BB.prop], fun w d => by simp [Op.equalIn, run_underlying hu]⟩
  · obtain ⟨_, _, rfl⟩ := hb; subst ha; exact ⟨false, by simp [BB.prop], fun w d => by simp [Op.equalIn, run_underlying hu]⟩
  · obtain ⟨_, _, rfl⟩ := ha; subst hb; exact ⟨false, by simp [BB.prop], fun w d => by simp [Op.equalIn, run_underlying hu]⟩
  · subst ha hb; exact ⟨true, by simp [BB.prop], fun w d => by simp [Op.equalIn, run_underlying hu]⟩
  · subst ha hb; exact ⟨true, by simp [BB.prop], fun w d => by simp [Op.equalIn, run_underlying hu]⟩
  · obtain ⟨_, rfl, _⟩ := ha; subst hb; exact ⟨false, by simp [BB.prop], fun w d => by simp [Op.equalIn, run_underlying hu]⟩
  · obtain ⟨_, rfl, _⟩ := hb; subst ha; exact ⟨false, by simp [BB.prop], fun w d => by simp [Op.equalIn, run_underlying hu]⟩
  · obtain ⟨_, rfl, _⟩ := ha; subst hb; exact ⟨false, by simp [BB.prop], fun w d => by simp [Op.equalIn, run_underlying hu]⟩
  · obtain ⟨_, rfl, _⟩ := hb; subst ha; exact ⟨false, by simp [BB.prop], fun w d => by simp [Op.equalIn, run_underlying hu]⟩
  · obtain ⟨_, _, rfl, _⟩ := ha; subst hb; exact ⟨false, by simp [BB.prop], fun w d => by simp [Op.equalIn, run_underlying hu]⟩
def aggT (P : Program) (t : TypeId) : Option Bool :=
  match P.underlying t with
  | some (.struct _) => some true
  | some (.array _ _) => some true
  | some _ => some false
  | none => none
def eqFs (P : Program) (xs ys : List SV) : List Field → Option (List BB)
  | [] => some []
  | f :: fs =>
    if f.name = "_" then eqFs P xs ys fs else
    match aggT P f.type, xs[f.offset]?, ys[f.offset]? with
    | some false, some a, some b =>
      match eqSc ar P f.type a b, eqFs P xs ys fs with
      | some r, some l => some (r :: l)
      | _, _ => none
    | _, _, _ => none
def allBB : List BB → Prop
  | [] => True
  | [b] => b.prop
  | b :: l => b.prop ∧ allBB l
theorem allBB_cons (b : BB) (l : List BB) : allBB (b :: l) ↔ b.prop ∧ allBB l := by
  cases l <;> simp [allBB]
theorem run_isAgg_aggT {P : Program} {t : TypeId} {b : Bool} (h : aggT P t = some b) (w : World) : (isAgg t).run P w = .ok b w := by
  unfold aggT at h
  split at h <;> rename_i hu
  · cases h; simp [isAgg, run_underlying hu]
  · cases h; simp [isAgg, run_underlying hu]
  · rename_i d h1 h2
    simp only [Option.some.injEq] at h
    subst h
    simp only [isAgg, Sem.run_bind, run_underlying hu, Result.andThen_ok]
    cases d <;> first | rfl | exact absurd rfl (h1 _) | exact absurd rfl (h2 _ _)
  · cases h
theorem run_part_scalar {P : Program} {t : TypeId} {cs : Array Value} {off : Nat} {v : Value} (h : aggT P t = some false) (hv : cs[off]? = some v) (w : World) :
    (part t cs off).run P w = .ok v w := by
  simp [part, run_isAgg_aggT h, hv]
theorem eqFs_sound {P : Program} {ρ : List Nat} {xs ys : List SV} {vs us : List Value} (hx : DenL ρ xs vs) (hy : DenL ρ ys us) (d : Nat) :
    ∀ {fs : List Field} {l : List BB}, eqFs ar0 P xs ys fs = some l →
      ∃ c : Bool, (c = true ↔ allBB l) ∧ ∀ w, (Op.eqFields (d + 1) vs.toArray us.toArray fs).run P w = .ok c w
  | [], l, h => by
    simp only [eqFs, Option.some.injEq] at h
    subst h
    exact ⟨true, by simp [allBB], fun w => by simp [Op.eqFields]⟩
  | f :: fs, l, h => by
    simp only [eqFs] at h
    split at h
    · rename_i hn
      obtain ⟨c, hc, hr⟩ := eqFs_sound hx hy d h
      exact ⟨c, hc, fun w => by simp [Op.eqFields, hn, hr]⟩
    · rename_i hn
      split at h
      · rename_i hag ha hb
        split at h
        · rename_i r l' hr hl
          simp only [Option.some.injEq] at h
          subst h
          obtain ⟨u, hu, hdu⟩ := denL_get hx ha
          obtain ⟨v, hv, hdv⟩ := denL_get hy hb
          obtain ⟨c, hc, hrun⟩ := eqSc_sound hdu hdv hr
          obtain ⟨c', hc', hrun'⟩ := eqFs_sound hx hy d hl
          refine ⟨c && c', by rw [allBB_cons, ← hc, ← hc']; simp, fun w => ?_⟩
          simp only [Op.eqFields, ne_eq, hn, not_false_eq_true, if_true, Sem.run_bind]
          rw [run_part_scalar hag (by simpa using hu), Result.andThen_ok, run_part_scalar hag (by simpa using hv), Result.andThen_ok, hrun, Result.andThen_ok]
          cases c <;> simp [hrun']
        · cases h
      · cases h
def qEq (P : Program) (neg : Bool) (t : TypeId) (a b : SV) : QR :=
  match a, b with
  | .agg xs, .agg ys =>
    match P.underlying t with
    | some (.struct fs) =>
      if P.stoodInHeld t = false ∧ P.eqGuardType P.depth t = false then
        match eqFs ar P xs ys fs.toList with
        | some l => boolOf (if neg then .x (¬ allBB l) else .x (allBB l))
        | none => none
      else none
    | _ => none
  | a, b =>
    if a.numeric then none else
    match eqSc ar P t a b with
    | some r => boolOf (if neg then bnot r else r)
    | none => none
theorem qEq_sound (P : Program) (ρ : List Nat) (hp : List Blk) (w1 : World) (neg : Bool) (t : TypeId) (ox oy : Operand) (a b : SV) (x y : Value)
    (ha : Den ρ a x) (hb : Den ρ b y) :
    QS P ρ hp w1 (do eqGuard (if neg then .neq else .eql) t ox oy x y; binOp (if neg then .neq else .eql) t x y) (qEq ar0 P neg t a b) := by
  intro sv vc h hv
  unfold qEq at h
  split at h
  · split at h
    · rename_i fs hu
      split at h
      · rename_i hcond
        split at h
        · rename_i l hl
          simp only [boolOf, Option.some.injEq, Prod.mk.injEq] at h
          obtain ⟨rfl, rfl⟩ := h
          simp only [Den] at ha hb
          obtain ⟨vs, rfl, hvs⟩ := ha
          obtain ⟨us, rfl, hus⟩ := hb
          obtain ⟨c, hc, hrun⟩ := eqFs_sound hvs hus 9998 hl
          have hf : P.fieldsOf t = fs := by unfold Program.fieldsOf; rw [hu]
          have hu' : P.underlying t = some (.struct (P.fieldsOf t)) := by rw [hf]; exact hu
          cases neg
          · refine ⟨.bool c, den_bool (by simpa [BB.prop] using hc), fun w _ => ?_⟩
            simp only [Bool.false_eq_true, if_false, Sem.run_bind]
            rw [run_eqGuard_agg _ _ _ _ _ _ _ hcond.2, Result.andThen_ok, run_eql_struct, run_equalIn_agg _ _ _ _ _ hu' hcond.1, hf, hrun]
            rfl
          · refine ⟨.bool (!c), den_bool (by rw [if_pos rfl]; simp only [BB.prop]; rw [← hc]; cases c <;> simp), fun w _ => ?_⟩
            simp only [if_true, Sem.run_bind]
            rw [run_eqGuard_agg _ _ _ _ _ _ _ hcond.2, Result.andThen_ok, run_neq_struct, run_equalIn_agg _ _ _ _ _ hu' hcond.1, hf, hrun]
            rfl
        · cases h
      · cases h
    · cases h
  · split at h
    · cases h
    · rename_i hnum
      split at h
      · rename_i r hr
        simp only [boolOf, Option.some.injEq, Prod.mk.injEq] at h
        obtain ⟨rfl, rfl⟩ := h
        obtain ⟨c, hc, hrun⟩ := eqSc_sound ha hb hr
        obtain ⟨p1, p2, p3⟩ := eqSc_plain ha hb hr (by simpa using hnum)
        cases neg
        · refine ⟨.bool c, den_bool (by simpa using hc), fun w _ => ?_⟩
          simp only [Bool.false_eq_true, if_false, Sem.run_bind]
          rw [p3, Result.andThen_ok, p1, Sem.run_bind, Op.equal, show Op.maxDepth = 9999 + 1 from rfl, hrun w 9999]
          rfl
        · refine ⟨.bool (!c), den_bool (by rw [if_pos rfl, bnot_prop, ← hc]; cases c <;> simp), fun w _ => ?_⟩
          simp only [if_true, Sem.run_bind]
          rw [p3, Result.andThen_ok, p2, Sem.run_bind, Op.equal, show Op.maxDepth = 9999 + 1 from rfl, hrun w 9999]
          rfl
      · cases h
end Go.Eng
/- The executor, fifth text: places, slices, parts of values. -/
set_option linter.unusedSimpArgs false
set_option linter.unusedSectionVars false
namespace Go.Eng
variable [CW : CWorld]
variable (ar : AR)
def szOf (P : Program) (t : TypeId) : Option Nat := (P.info? t).map (·.size)
theorem run_sizeOf {P : Program} {t : TypeId} {n : Nat} (h : szOf P t = some n) (w : World) : (sizeOf t).run P w = .ok n w := by
  unfold szOf at h
  cases hi : P.info? t with
  | none => simp [hi] at h
  | some i => simp [hi] at h; simp [sizeOf, typeInfo, hi, h]
def Off.addSub (k : Nat) : Off → Off
  | .l b => .l (b + k)
  | .x b s e sub => .x b s e (sub + k)
theorem Off.val_addSub (k : Nat) (o : Off) : (o.addSub k).val = o.val + k := by cases o <;> simp [Off.addSub, Off.val]; omega
def addZ : Z → Z → Z := zbin ar.add (· + ·)
def Off.addE (sz : Nat) (o : Off) (i : Z) : Option (Off × List Prop) :=
  match o, i with
  | .l b, .l i => some (.l (b + i.toNat * sz), [])
  | .l b, .x i => some (.x b sz i 0, [])
  | .x b s e sub, i =>
    if s = sz ∧ sub = 0 then
      match i with
      | .l 0 => some (.x b s e 0, [])
      | i => some (.x b s (ar.add e i.val) 0, [ar.le 0 e])
    else none
theorem Off.addE_val {sz : Nat} {o : Off} {i : Z} {r : Off} {vc : List Prop} (h : o.addE ar0 sz i = some (r, vc)) (hi : 0 ≤ i.val) (hv : AllP vc) :
    r.val = o.val + i.val.toNat * sz := by
  unfold Off.addE at h
  split at h
  · cases h; simp [Off.val, Z.val]
  · cases h; simp [Off.val, Z.val]
  · split at h
    · rename_i hs
      obtain ⟨rfl, rfl⟩ := hs
      split at h
      · cases h; simp [Off.val, Z.val]
      · rename_i e _ _ i _
        cases h
        simp only [AllP, ar0, and_true] at hv
        simp only [Off.val, ar0]
        rw [Int.toNat_add hv hi, Nat.add_mul]
        omega
    · cases h
def idxVC : Z → Z → List Prop
  | .l i, .l n => if 0 ≤ i ∧ i < n then [] else [False]
  | .l i, .x n => if 0 ≤ i then [ar.lt i n] else [False]
  | .x i, n => [ar.le 0 i, ar.lt i n.val]
theorem idxVC_sound {i n : Z} (h : AllP (idxVC ar0 i n)) : 0 ≤ i.val ∧ i.val < n.val := by
  cases i with
  | l i =>
    cases n with
    | l n =>
      simp only [idxVC] at h
      split at h
      · simpa [Z.val]
      · simp [AllP] at h
    | x n =>
      simp only [idxVC] at h
      split at h
      · simp only [AllP, ar0, and_true] at h; exact ⟨by assumption, h⟩
      · simp [AllP] at h
  | x i => simpa [idxVC, AllP, ar0, Z.val] using h
def leVC : Z → Z → List Prop
  | .l a, .l b => if a ≤ b then [] else [False]
  | a, b => [ar.le a.val b.val]
theorem leVC_sound {a b : Z} (h : AllP (leVC ar0 a b)) : a.val ≤ b.val := by
  cases a <;> cases b <;> simp only [leVC] at h
  · split at h
    · simpa [Z.val]
    · simp [AllP] at h
  all_goals simpa [AllP, ar0, Z.val] using h
def subZ (a b : Z) : Z :=
  match b with
  | .l 0 => a
  | b => zbin ar.sub (· - ·) a b
theorem subZ_val (a b : Z) : (subZ ar0 a b).val = a.val - b.val := by
  unfold subZ
  split
  · simp [Z.val]
  · rw [zbin_val (by intros; rfl)]; rfl
theorem zl (n : Int) : (Z.l n).val = n := rfl
theorem zx (n : Int) : (Z.x n).val = n := rfl
theorem addr_add (n o k : Nat) : (⟨n, o, none⟩ : Addr).add k = ⟨n, o + k, none⟩ := by
  unfold Addr.add; split
  · rename_i h; subst h; rfl
  · rfl
def qFieldAddr (P : Program) (s : TypeId) (x : SV) (f : Nat) : QR :=
  match P.underlying s, x with
  | some (.struct fs), .ptr n o =>
    match fs[f]? with
    | some fl => match szOf P fl.type with
      | some (_ + 1) => some (.ptr n (o.addSub fl.offset), [])
      | _ => none
    | none => none
  | some (.struct fs), .cp l =>
    match fs[f]? with
    | some fl => match szOf P fl.type with
      | some (_ + 1) => some (.cp (l.drop fl.offset), [])
      | _ => none
    | none => none
  | _, _ => none
theorem denL_dropC {ρ : List Nat} : ∀ (k : Nat) {l : List SV} {vs : List Value}, DenL ρ l vs → DenL ρ (l.drop k) (vs.drop k)
  | 0, l, vs, h => by simpa using h
  | k + 1, [], vs, h => by simp only [DenL] at h; subst h; simp [DenL]
  | k + 1, a :: l, vs, h => by
    simp only [DenL] at h
    obtain ⟨v, vs', rfl, _, h'⟩ := h
    simpa using denL_dropC k h'
theorem den_cp_drop {ρ : List Nat} {l : List SV} {b off k : Nat} (h : ∃ vs, DenL ρ l vs ∧ ∀ (j : Nat) (x : Value), vs[j]? = some x → ccell b (off + j) = some x) :
    Den ρ (.cp (l.drop k)) (.pointer (some ⟨b, off + k, none⟩)) := by
  obtain ⟨vs, hvs, hc⟩ := h
  refine ⟨b, off + k, rfl, vs.drop k, denL_dropC k hvs, fun j x hj => ?_⟩
  rw [List.getElem?_drop] at hj
  rw [Nat.add_assoc]
  exact hc _ _ hj
theorem qFieldAddr_sound {P : Program} {ρ : List Nat} {hp : List Blk} {w1 : World} {s : TypeId} {f : Nat} {a : SV} {x : Value} (ha : Den ρ a x) :
    QS P ρ hp w1 (Instr.fieldAt s x f) (qFieldAddr P s a f) := by
  intro sv vc h hv
  unfold qFieldAddr at h
  split at h
  · rename_i fs n o hu
    split at h
    · rename_i fl hfl
      split at h
      · rename_i k hk
        cases h
        simp only [Den] at ha
        obtain ⟨b, hb, rfl⟩ := ha
        refine ⟨_, ⟨b, hb, rfl⟩, fun w _ => ?_⟩
        simp [Instr.fieldAt, run_underlying hu, hfl, Instr.sureAddr, fieldPlace, run_sizeOf hk, addr_add, Off.val_addSub]
      · cases h
    · cases h
  · rename_i fs l hu
    split at h
    · rename_i fl hfl
      split at h
      · rename_i k hk
        cases h
        simp only [Den] at ha
        obtain ⟨b, off, rfl, hl⟩ := ha
        refine ⟨_, den_cp_drop hl, fun w _ => ?_⟩
        simp [Instr.fieldAt, run_underlying hu, hfl, Instr.sureAddr, fieldPlace, run_sizeOf hk, addr_add]
      · cases h
    · cases h
  · cases h
def qIndexAddr (P : Program) (t : TypeId) (x i : SV) : QR :=
  match P.underlying t, x, i with
  | some (.array len elem), .ptr n o, .int _ i =>
    match szOf P elem with
    | some sz => match o.addE ar sz i with
      | some (o', vc) => some (.ptr n o', idxVC ar i (.l len) ++ vc)
      | none => none
    | none => none
  | some (.slice elem), .slc n o len _, .int _ i =>
    match szOf P elem with
    | some sz => match o.addE ar sz i with
      | some (o', vc) => some (.ptr n o', idxVC ar i len ++ vc)
      | none => none
    | none => none
  | some (.slice elem), .cs cols len _, .int _ i =>
    match szOf P elem with
    | some sz => match decide (cols.length = sz) with
      | true => some (.cp (cols.map fun c => c.cell ar i.val), idxVC ar i len)
      | false => none
    | none => none
  | _, _, _ => none
theorem cells_den (ρ : List Nat) (e : Int) : ∀ cols : List Col, DenL ρ (cols.map fun c => c.cell ar0 e) (cols.map fun c => c.at e.toNat)
  | [] => rfl
  | c :: cols => ⟨_, _, rfl, col_cell_den ρ c e, cells_den ρ e cols⟩
theorem qIndexAddr_sound {P : Program} {ρ : List Nat} {hp : List Blk} {w1 : World} {t : TypeId} {a i : SV} {x y : Value} (ha : Den ρ a x) (hi : Den ρ i y) :
    QS P ρ hp w1 (Instr.indexAt t x y) (qIndexAddr ar0 P t a i) := by
  intro sv vc h hv
  unfold qIndexAddr at h
  split at h
  · rename_i len elem n o k i hu
    split at h
    · rename_i sz hsz
      split at h
      · rename_i o' vc' ho
        cases h
        obtain ⟨h1, h2⟩ := allP_append.1 hv
        obtain ⟨h0, hlt⟩ := idxVC_sound h1
        have hval := Off.addE_val ho h0 h2
        simp only [Den] at ha hi
        obtain ⟨b, hb, rfl⟩ := ha
        subst hi
        refine ⟨_, ⟨b, hb, rfl⟩, fun w _ => ?_⟩
        have hlt' : i.val < (len : Int) := hlt
        simp [Instr.indexAt, asIntOf, run_underlying hu, Instr.sureAddr, h0, hlt', run_sizeOf hsz, addr_add, hval]
      · cases h
    · cases h
  · rename_i elem n o len cap k i hu
    split at h
    · rename_i sz hsz
      split at h
      · rename_i o' vc' ho
        cases h
        obtain ⟨h1, h2⟩ := allP_append.1 hv
        obtain ⟨h0, hlt⟩ := idxVC_sound h1
        have hval := Off.addE_val ho h0 h2
        simp only [Den] at ha hi
        obtain ⟨off, b, hb, rfl, hl0, hlc, hoff⟩ := ha
        subst hi
        have hoff' := hoff (by omega)
        subst hoff'
        refine ⟨_, ⟨b, hb, rfl⟩, fun w _ => ?_⟩
        simp [Instr.indexAt, asIntOf, run_underlying hu, h0, run_sizeOf hsz, addr_add, hval, hlt, Int.toNat_of_nonneg hl0]
      · cases h
    · cases h
  · rename_i elem cols len cap k i hu
    split at h
    · rename_i sz hsz
      split at h
      · rename_i hcs
        have hcs := of_decide_eq_true hcs
        cases h
        obtain ⟨h0, hlt⟩ := idxVC_sound hv
        simp only [Den] at ha hi
        obtain ⟨a', rfl, hl0, hlc, hpres⟩ := ha
        obtain ⟨b, off, rfl, hcell⟩ := hpres (by omega)
        subst hi
        refine ⟨.pointer (some ⟨b, off + i.val.toNat * sz, none⟩), ⟨b, _, rfl, _, cells_den ρ i.val cols, fun j x hj => ?_⟩, fun w _ => ?_⟩
        · rw [List.getElem?_map] at hj
          cases hc : cols[j]? with
          | none => rw [hc] at hj; cases hj
          | some c =>
            rw [hc] at hj
            cases hj
            have := hcell i.val.toNat j c (by omega) hc
            rw [hcs] at this
            exact this
        · simp [Instr.indexAt, asIntOf, run_underlying hu, h0, run_sizeOf hsz, addr_add, hlt, Int.toNat_of_nonneg hl0]
      · cases h
    · cases h
  · cases h
def qBounds (len cap : Z) (lo hi mx : Option SV) : Option (Z × Z × Z × List Prop) :=
  match mx, hi, lo with
  | none, none, none => some (.l 0, len, cap, [])
  | none, none, some (.int _ l) => some (l, len, cap, nonneg ar l ++ leVC ar l len)
  | none, some (.int _ h), none => some (.l 0, h, cap, nonneg ar h ++ leVC ar h cap)
  | none, some (.int _ h), some (.int _ l) => some (l, h, cap, nonneg ar l ++ leVC ar l h ++ leVC ar h cap)
  | some (.int _ m), some (.int _ h), none => some (.l 0, h, m, nonneg ar h ++ leVC ar h m ++ leVC ar m cap)
  | some (.int _ m), some (.int _ h), some (.int _ l) => some (l, h, m, nonneg ar l ++ leVC ar l h ++ leVC ar h m ++ leVC ar m cap)
  | _, _, _ => none
def OptDen (ρ : List Nat) : Option SV → Option Value → Prop
  | none, v => v = none
  | some a, v => ∃ x, v = some x ∧ Den ρ a x
theorem qBounds_sound {P : Program} {ρ : List Nat} {isS : Bool} {len cap : Z} {lo hi mx : Option SV} {vl vh vm : Option Value} {l h m : Z} {vc : List Prop}
    (hlo : OptDen ρ lo vl) (hhi : OptDen ρ hi vh) (hmx : OptDen ρ mx vm) (h0 : 0 ≤ len.val) (h1 : len.val ≤ cap.val)
    (he : qBounds ar0 len cap lo hi mx = some (l, h, m, vc)) (hv : AllP vc) :
    0 ≤ l.val ∧ l.val ≤ h.val ∧ h.val ≤ m.val ∧ m.val ≤ cap.val ∧
      ∀ w, (Instr.sliceBounds isS len.val.toNat cap.val.toNat vl vh vm).run P w = .ok (l.val.toNat, h.val.toNat, m.val.toNat) w := by
  unfold qBounds at he
  split at he
  · cases he
    simp only [OptDen] at hlo hhi hmx
    subst hlo hhi hmx
    exact ⟨by simp [Z.val], by simpa [Z.val] using h0, h1, Int.le_refl _, fun w => by simp [Instr.sliceBounds, Z.val]⟩
  · cases he
    simp only [OptDen, Den] at hlo hhi hmx
    obtain ⟨_, rfl, rfl⟩ := hlo
    subst hhi hmx
    obtain ⟨a, b⟩ := allP_append.1 hv
    have a := nonneg_sound a
    have b := leVC_sound b
    exact ⟨a, b, h1, Int.le_refl _, fun w => by simp [Instr.sliceBounds, run_sliceBound, a, b, Int.toNat_of_nonneg h0]⟩
  · cases he
    simp only [OptDen, Den] at hlo hhi hmx
    obtain ⟨_, rfl, rfl⟩ := hhi
    subst hlo hmx
    obtain ⟨a, b⟩ := allP_append.1 hv
    have a := nonneg_sound a
    have b := leVC_sound b
    exact ⟨by simp [Z.val], by simpa [Z.val] using a, b, Int.le_refl _, fun w => by simp [Instr.sliceBounds, run_sliceBound, a, b, Int.toNat_of_nonneg (Int.le_trans h0 h1), zl]⟩
  · cases he
    simp only [OptDen, Den] at hlo hhi hmx
    obtain ⟨_, rfl, rfl⟩ := hlo
    obtain ⟨_, rfl, rfl⟩ := hhi
    subst hmx
    obtain ⟨ab, c⟩ := allP_append.1 hv
    obtain ⟨a, b⟩ := allP_append.1 ab
    have a := nonneg_sound a
    have b := leVC_sound b
    have c := leVC_sound c
    have d : 0 ≤ h.val := Int.le_trans a b
    exact ⟨a, b, c, Int.le_refl _, fun w => by simp [Instr.sliceBounds, run_sliceBound, a, b, c, d, Int.toNat_of_nonneg (Int.le_trans h0 h1), Int.toNat_of_nonneg d]⟩
  · cases he
    simp only [OptDen, Den] at hlo hhi hmx
    obtain ⟨_, rfl, rfl⟩ := hhi
    obtain ⟨_, rfl, rfl⟩ := hmx
    subst hlo
    obtain ⟨ab, c⟩ := allP_append.1 hv
    obtain ⟨a, b⟩ := allP_append.1 ab
    have a := nonneg_sound a
    have b := leVC_sound b
    have c := leVC_sound c
    have d : 0 ≤ m.val := Int.le_trans a b
    exact ⟨by simp [Z.val], by simpa [Z.val] using a, b, c, fun w => by simp [Instr.sliceBounds, run_sliceBound, a, b, c, d, Int.toNat_of_nonneg (Int.le_trans h0 h1), Int.toNat_of_nonneg d, zl]⟩
  · cases he
    simp only [OptDen, Den] at hlo hhi hmx
    obtain ⟨_, rfl, rfl⟩ := hlo
    obtain ⟨_, rfl, rfl⟩ := hhi
    obtain ⟨_, rfl, rfl⟩ := hmx
    obtain ⟨abc, d⟩ := allP_append.1 hv
    obtain ⟨ab, c⟩ := allP_append.1 abc
    obtain ⟨a, b⟩ := allP_append.1 ab
    have a := nonneg_sound a
    have b := leVC_sound b
    have c := leVC_sound c
    have d := leVC_sound d
    have e : 0 ≤ h.val := Int.le_trans a b
    have f : 0 ≤ m.val := Int.le_trans e c
    exact ⟨a, b, c, d, fun w => by simp [Instr.sliceBounds, run_sliceBound, a, b, c, d, e, f, Int.toNat_of_nonneg (Int.le_trans h0 h1), Int.toNat_of_nonneg e, Int.toNat_of_nonneg f]⟩
  · cases he
end Go.Eng
/- The executor, sixth text: slices, elements, fields, parts. -/
set_option linter.unusedSimpArgs false
set_option linter.unusedSectionVars false
namespace Go.Eng
variable [CW : CWorld]
variable (ar : AR)
def qSlice (P : Program) (t : TypeId) (x : SV) (lo hi mx : Option SV) : QR :=
  match P.underlying t, x with
  | some (.array n elem), .ptr nm o =>
    match qBounds ar (.l n) (.l n) lo hi mx, szOf P elem with
    | some (l, h, m, vc), some sz =>
      match o.addE ar sz l with
      | some (o', vc') => some (.slc nm o' (subZ ar h l) (subZ ar m l), vc ++ vc')
      | none => none
    | _, _ => none
  | some (.slice elem), .slc nm o len cap =>
    match qBounds ar len cap lo hi mx, szOf P elem with
    | some (l, h, m, vc), some sz =>
      match o.addE ar sz l with
      | some (o', vc') => some (.slc nm o' (subZ ar h l) (subZ ar m l), vc ++ vc')
      | none => none
    | _, _ => none
  | some (.slice elem), .cs cols len cap =>
    match qBounds ar len cap lo hi mx, szOf P elem with
    | some (l, h, m, vc), some sz =>
      match decide (cols.length = sz) with
      | true => some (.cs (cols.map fun c => c.part ar l.val (subZ ar h l).val) (subZ ar h l) (subZ ar m l), vc ++ leVC ar h len)
      | false => none
    | _, _ => none
  | some (.slice elem), .nslc =>
    match qBounds ar (.l 0) (.l 0) lo hi mx, szOf P elem with
    | some (_, _, _, vc), some _ => some (.nslc, vc)
    | _, _ => none
  | some .string, .str s =>
    match mx with
    | some _ => none
    | none =>
      match lo, hi with
      | none, none => some (.str s, [])
      | _, _ =>
        match qBounds ar (.x (ar.slen s)) (.x (ar.slen s)) lo hi none with
        | some (l, h, _, vc) => some (.str (ar.sext s l.val h.val), vc)
        | none => none
  | _, _ => none
theorem den_slc {ρ : List Nat} {nm b : Nat} (hb : ρ[nm]? = some b) {o : Off} {l h m : Z} (h0 : 0 ≤ l.val) (h1 : l.val ≤ h.val) (h2 : h.val ≤ m.val) {a' : Option Addr}
    (ho : m.val ≠ l.val → a' = some ⟨b, o.val, none⟩) : Den ρ (.slc nm o (subZ ar0 h l) (subZ ar0 m l)) (.slice a' (h.val.toNat - l.val.toNat) (m.val.toNat - l.val.toNat)) := by
  simp only [Den, subZ_val]
  refine ⟨a', b, hb, ?_, by omega, by omega, fun h => ho (by omega)⟩
  rw [show (h.val - l.val).toNat = h.val.toNat - l.val.toNat by omega, show (m.val - l.val).toNat = m.val.toNat - l.val.toNat by omega]
theorem qSlice_sound {P : Program} {ρ : List Nat} {hp : List Blk} {w1 : World} {t : TypeId} {a : SV} {lo hi mx : Option SV} {x : Value} {vl vh vm : Option Value} (ha : Den ρ a x)
    (hlo : OptDen ρ lo vl) (hhi : OptDen ρ hi vh) (hmx : OptDen ρ mx vm) : QS P ρ hp w1 (Instr.sliceAt t x vl vh vm) (qSlice ar0 P t a lo hi mx) := by
  intro sv vc h hv
  unfold qSlice at h
  split at h
  · rename_i n elem nm o hu
    split at h
    · rename_i l hh m vc1 sz hb hsz
      split at h
      · rename_i o' vc2 ho
        cases h
        obtain ⟨v1, v2⟩ := allP_append.1 hv
        obtain ⟨a0, a1, a2, a3, hrun⟩ := qBounds_sound (P := P) (isS := false) hlo hhi hmx (by simp [zl]) (by simp [zl]) hb v1
        have hval := Off.addE_val ho a0 v2
        simp only [Den] at ha
        obtain ⟨b, hb', rfl⟩ := ha
        refine ⟨_, den_slc hb' a0 a1 a2 (a' := some ⟨b, if m.val.toNat = l.val.toNat then o.val else o.val + l.val.toNat * sz, none⟩) ?_, fun w _ => ?_⟩
        · intro hne
          rw [if_neg (by omega), hval]
        · simp only [zl, Int.toNat_natCast] at hrun
          simp only [Instr.sliceAt, Sem.run_bind, run_underlying hu, Result.andThen_ok, Instr.sureAddr, Sem.run_pure, hrun, run_sizeOf hsz, addr_add]
          split <;> rfl
      · cases h
    · cases h
  · rename_i elem nm o len cap hu
    split at h
    · rename_i l hh m vc1 sz hb hsz
      split at h
      · rename_i o' vc2 ho
        cases h
        obtain ⟨v1, v2⟩ := allP_append.1 hv
        simp only [Den] at ha
        obtain ⟨off, b, hb', rfl, hl0, hlc, hoff⟩ := ha
        obtain ⟨a0, a1, a2, a3, hrun⟩ := qBounds_sound (P := P) (isS := true) hlo hhi hmx hl0 hlc hb v1
        have hval := Off.addE_val ho a0 v2
        refine ⟨_, den_slc hb' a0 a1 a2 (a' := off.map fun a => if m.val.toNat = l.val.toNat then a else a.add (l.val.toNat * sz)) ?_, fun w _ => ?_⟩
        · intro hne
          rw [hoff (by omega)]
          simp only [Option.map_some]
          rw [if_neg (by omega), addr_add, hval]
        · simp only [Instr.sliceAt, Instr.slice, Sem.run_bind, run_underlying hu, Result.andThen_ok, Sem.run_pure, hrun, run_sizeOf hsz]
          split <;> cases off <;> rfl
      · cases h
    · cases h
  · rename_i elem cols len cap hu
    split at h
    · rename_i l hh m vc1 sz hb hsz
      split at h
      · rename_i hcs
        have hcs := of_decide_eq_true hcs
        cases h
        obtain ⟨v1, v2⟩ := allP_append.1 hv
        have hle := leVC_sound v2
        simp only [Den] at ha
        obtain ⟨a, rfl, hl0, hlc, hpres⟩ := ha
        obtain ⟨a0, a1, a2, a3, hrun⟩ := qBounds_sound (P := P) (isS := true) hlo hhi hmx hl0 hlc hb v1
        refine ⟨.slice (a.map fun a => if m.val.toNat = l.val.toNat then a else a.add (l.val.toNat * sz)) (hh.val.toNat - l.val.toNat) (m.val.toNat - l.val.toNat), ?_, fun w _ => ?_⟩
        · simp only [Den, subZ_val]
          refine ⟨_, by rw [show (hh.val - l.val).toNat = hh.val.toNat - l.val.toNat by omega, show (m.val - l.val).toNat = m.val.toNat - l.val.toNat by omega], by omega, by omega, fun hne => ?_⟩
          obtain ⟨b, off, rfl, hcell⟩ := hpres (by omega)
          refine ⟨b, off + l.val.toNat * sz, ?_, fun i j c hi hc => ?_⟩
          · rw [Option.map_some, if_neg (by omega), addr_add]
          · rw [List.getElem?_map] at hc
            cases hc' : cols[j]? with
            | none => rw [hc'] at hc; cases hc
            | some c' =>
              rw [hc'] at hc
              cases hc
              have := hcell (l.val.toNat + i) j c' (by omega) hc'
              rw [List.length_map, col_part_at _ hi, ← this, ← hcs]
              congr 1
              rw [Nat.add_mul]
              omega
        · simp only [Instr.sliceAt, Instr.slice, Sem.run_bind, run_underlying hu, Result.andThen_ok, Sem.run_pure, hrun, run_sizeOf hsz]
          split <;> cases a <;> rfl
      · cases h
    · cases h
  · rename_i elem hu
    split at h
    · rename_i l hh m vc1 sz hb hsz
      cases h
      obtain ⟨a0, a1, a2, a3, hrun⟩ := qBounds_sound (P := P) (isS := true) hlo hhi hmx (by simp [zl]) (by simp [zl]) hb hv
      simp only [Den] at ha
      subst ha
      simp only [zl] at a3 hrun
      refine ⟨_, rfl, fun w _ => ?_⟩
      have e1 : l.val.toNat = 0 := by omega
      have e2 : hh.val.toNat = 0 := by omega
      have e3 : m.val.toNat = 0 := by omega
      have hr := hrun w
      rw [e1, e2, e3] at hr
      simp only [Int.toNat_zero] at hr
      simp only [Instr.sliceAt, Instr.slice, Sem.run_bind, run_underlying hu, Result.andThen_ok, Sem.run_pure, hr, run_sizeOf hsz, Option.map_none]
      rfl
    · cases h
  · rename_i s hu
    split at h
    · cases h
    · simp only [OptDen] at hmx
      subst hmx
      simp only [Den] at ha
      subst ha
      split at h
      · cases h
        simp only [OptDen] at hlo hhi
        subst hlo hhi
        refine ⟨_, rfl, fun w _ => ?_⟩
        simp [Instr.sliceAt, Instr.slice, run_underlying hu, Instr.sliceBounds]
      · split at h
        · rename_i l hh m vc1 hb
          cases h
          obtain ⟨a0, a1, a2, a3, hrun⟩ := qBounds_sound (P := P) (isS := false) (mx := none) (vm := none) hlo hhi rfl (by simp [ar0, Z.val]) (Int.le_refl _) hb hv
          refine ⟨_, rfl, fun w _ => ?_⟩
          have hsz : (ByteArray.mk s.toArray).size = (Z.x (ar0.slen s)).val.toNat := by simp [ByteArray.size, ar0, Z.val]
          simp only [Instr.sliceAt, Instr.slice, Sem.run_bind, run_underlying hu, Result.andThen_ok, Sem.run_pure, Option.isSome_none, Bool.false_eq_true, if_false]
          rw [hsz, hrun, Result.andThen_ok, ByteArray.extract_mk]
          simp only [ar0, List.drop_take]
        · cases h
  · cases h
def qIndex (P : Program) (t : TypeId) (x i : SV) : QR :=
  match P.underlying t, x, i with
  | some (.array len elem), .agg cs, .int _ (.l i) =>
    if 0 ≤ i ∧ i < len then
      match aggT P elem, szOf P elem with
      | some false, some sz => match cs[i.toNat * sz]? with
        | some v => some (v, [])
        | none => none
      | some true, some sz => some (.agg ((cs.drop (i.toNat * sz)).take sz), [])
      | _, _ => none
    else none
  | some .string, .str s, .int _ i => some (.int .u8 (.x (ar.sget s i.val)), idxVC ar i (.x (ar.slen s)))
  | _, _, _ => none
theorem denL_drop {ρ : List Nat} : ∀ (k : Nat) {l : List SV} {vs : List Value}, DenL ρ l vs → DenL ρ (l.drop k) (vs.drop k)
  | 0, l, vs, h => by simpa using h
  | k + 1, [], vs, h => by simp only [DenL] at h; subst h; simp [DenL]
  | k + 1, a :: l, vs, h => by
    simp only [DenL] at h
    obtain ⟨v, vs', rfl, _, h'⟩ := h
    simpa using denL_drop k h'
theorem denL_take {ρ : List Nat} : ∀ (k : Nat) {l : List SV} {vs : List Value}, DenL ρ l vs → DenL ρ (l.take k) (vs.take k)
  | 0, l, vs, h => by simp [DenL]
  | k + 1, [], vs, h => by simp only [DenL] at h; subst h; simp [DenL]
  | k + 1, a :: l, vs, h => by
    simp only [DenL] at h
    obtain ⟨v, vs', rfl, hv, h'⟩ := h
    simp only [List.take_succ_cons, DenL]
    exact ⟨v, vs'.take k, rfl, hv, denL_take k h'⟩
theorem run_part_agg {P : Program} {t : TypeId} {cs : Array Value} {off sz : Nat} (h : aggT P t = some true) (hs : szOf P t = some sz) (w : World) :
    (part t cs off).run P w = .ok (.agg (cs.extract off (off + sz))) w := by
  simp [part, run_isAgg_aggT h, run_sizeOf hs]
theorem qIndex_sound {P : Program} {ρ : List Nat} {hp : List Blk} {w1 : World} {t : TypeId} {a i : SV} {x y : Value} (ha : Den ρ a x) (hi : Den ρ i y) :
    QS P ρ hp w1 (Instr.index t x y) (qIndex ar0 P t a i) := by
  intro sv vc h hv
  unfold qIndex at h
  split at h
  · rename_i len elem cs k i hu
    split at h
    · rename_i hr
      simp only [Den, zl] at ha hi
      obtain ⟨vs, rfl, hvs⟩ := ha
      subst hi
      split at h
      · rename_i sz hag hsz
        split at h
        · rename_i v hg
          cases h
          obtain ⟨u, hu', hd⟩ := denL_get hvs hg
          refine ⟨u, hd, fun w _ => ?_⟩
          simp [Instr.index, asIntOf, run_underlying hu, hr, run_sizeOf hsz, run_part_scalar hag (show vs.toArray[i.toNat * sz]? = some u by simpa using hu')]
        · cases h
      · rename_i sz hag hsz
        cases h
        refine ⟨_, ⟨_, rfl, denL_take _ (denL_drop _ hvs)⟩, fun w _ => ?_⟩
        simp [Instr.index, asIntOf, run_underlying hu, hr, run_sizeOf hsz, run_part_agg hag hsz]
      · cases h
    · cases h
  · rename_i s k i hu
    cases h
    obtain ⟨h0, h1⟩ := idxVC_sound hv
    simp only [Den] at ha hi
    subst ha hi
    refine ⟨_, rfl, fun w _ => ?_⟩
    rw [zx] at h1 ⊢
    generalize i.val = z at *
    have hlt : z.toNat < s.length := by simp only [ar0] at h1; omega
    rw [run_index_string _ _ _ _ _ hu, dif_pos ⟨h0, by simp only [ByteArray.size, List.size_toArray]; omega⟩]
    simp only [ar0, List.getD, List.getElem?_eq_getElem hlt]
    rfl
  · cases h
def qField (P : Program) (t : TypeId) (x : SV) (f : Nat) : QR :=
  match P.underlying t, x with
  | some (.struct fs), .agg cs =>
    match fs[f]? with
    | some fl =>
      match aggT P fl.type, szOf P fl.type with
      | some false, _ => match cs[fl.offset]? with
        | some v => some (v, [])
        | none => none
      | some true, some sz => some (.agg ((cs.drop fl.offset).take sz), [])
      | _, _ => none
    | none => none
  | _, _ => none
theorem qField_sound {P : Program} {ρ : List Nat} {hp : List Blk} {w1 : World} {t : TypeId} {f : Nat} {a : SV} {x : Value} (ha : Den ρ a x) :
    QS P ρ hp w1 (Instr.field t x f) (qField P t a f) := by
  intro sv vc h hv
  unfold qField at h
  split at h
  · rename_i fs cs hu
    simp only [Den] at ha
    obtain ⟨vs, rfl, hvs⟩ := ha
    split at h
    · rename_i fl hfl
      split at h
      · rename_i hag
        split at h
        · rename_i v hg
          cases h
          obtain ⟨u, hu', hd⟩ := denL_get hvs hg
          refine ⟨u, hd, fun w _ => ?_⟩
          simp [Instr.field, run_underlying hu, hfl, asAgg, run_part_scalar hag (show vs.toArray[fl.offset]? = some u by simpa using hu')]
        · cases h
      · rename_i sz hag hsz
        cases h
        refine ⟨_, ⟨_, rfl, denL_take _ (denL_drop _ hvs)⟩, fun w _ => ?_⟩
        simp [Instr.field, run_underlying hu, hfl, asAgg, run_part_agg hag hsz]
      · cases h
    · cases h
  · cases h
def qExtract (x : SV) (i : Nat) : QR :=
  match x with
  | .tup l => match l[i]? with
    | some v => some (v, [])
    | none => none
  | _ => none
theorem qExtract_sound {P : Program} {ρ : List Nat} {hp : List Blk} {w1 : World} {i : Nat} {a : SV} {x : Value} (ha : Den ρ a x) :
    QS P ρ hp w1 (Instr.extract x i) (qExtract a i) := by
  intro sv vc h hv
  unfold qExtract at h
  split at h
  · split at h
    · rename_i v hg
      cases h
      simp only [Den] at ha
      obtain ⟨vs, rfl, hvs⟩ := ha
      obtain ⟨u, hu', hd⟩ := denL_get hvs hg
      exact ⟨u, hd, fun w _ => by simp [Instr.extract, hu']⟩
    · cases h
  · cases h
end Go.Eng
/- The executor, seventh text: composite values, conversions, reading memory; all quiet operations in one. -/
set_option linter.unusedSimpArgs false
set_option linter.unusedSectionVars false
namespace Go.Eng
variable [CW : CWorld]
variable (ar : AR)
def svOf0 : Value → SV
  | .int k n => .int k (.l n)
  | .bool b => .bool (.l b)
  | .string s => .str s.data.toList
  | .pointer none => .nptr
  | .map none => .nmap
  | .slice none 0 0 => .nslc
  | .nilFunc => .nfn
  | .nilIface => .nifc
  | _ => .any
def svOf : Value → SV
  | .agg cs => .agg (cs.toList.map svOf0)
  | v => svOf0 v
theorem den_svOf0 (ρ : List Nat) (v : Value) : Den ρ (svOf0 v) v := by
  unfold svOf0
  split <;> simp [Den, Z.val, BB.prop]
theorem denL_svOf0 (ρ : List Nat) : ∀ l : List Value, DenL ρ (l.map svOf0) l
  | [] => by simp [DenL]
  | v :: l => by simp only [List.map_cons, DenL]; exact ⟨v, l, rfl, den_svOf0 ρ v, denL_svOf0 ρ l⟩
theorem den_svOf (ρ : List Nat) (v : Value) : Den ρ (svOf v) v := by
  unfold svOf
  split
  · simp only [Den]; exact ⟨_, by simp, denL_svOf0 ρ _⟩
  · exact den_svOf0 ρ _
def zeroCs (P : Program) (t : TypeId) : Option (List SV) :=
  match P.info? t with
  | some i => match i.zero with
    | some v => some (v.cells.toList.map svOf0)
    | none => none
  | none => none
theorem zeroCs_sound {P : Program} {t : TypeId} {l : List SV} (h : zeroCs P t = some l) (ρ : List Nat) :
    ∃ z : Value, (∀ w, (zeroValue t).run P w = .ok z w) ∧ DenL ρ l z.cells.toList := by
  unfold zeroCs at h
  split at h
  · rename_i i hi
    split at h
    · rename_i v hv
      cases h
      exact ⟨v, fun w => by simp [zeroValue, typeInfo, hi, hv], denL_svOf0 ρ _⟩
    · cases h
  · cases h
def overL {α : Type} : List α → Nat → List α → List α
  | l, _, [] => l
  | l, o, v :: vs => overL (l.set o v) (o + 1) vs
theorem denL_set {ρ : List Nat} : ∀ {l : List SV} {vs : List Value} (o : Nat) {a : SV} {v : Value}, DenL ρ l vs → Den ρ a v → DenL ρ (l.set o a) (vs.set o v)
  | [], vs, o, a, v, h, hd => by simp only [DenL] at h; subst h; simp [DenL]
  | b :: l, vs, o, a, v, h, hd => by
    simp only [DenL] at h
    obtain ⟨u, vs', rfl, hu, h'⟩ := h
    cases o with
    | zero => simp only [List.set_cons_zero, DenL]; exact ⟨v, vs', rfl, hd, h'⟩
    | succ o => simp only [List.set_cons_succ, DenL]; exact ⟨u, vs'.set o v, rfl, hu, denL_set o h' hd⟩
theorem denL_overL {ρ : List Nat} : ∀ {ps : List SV} {qs : List Value} {l : List SV} {vs : List Value} (o : Nat), DenL ρ l vs → DenL ρ ps qs → DenL ρ (overL l o ps) (overL vs o qs)
  | [], qs, l, vs, o, h, hp => by simp only [DenL] at hp; subst hp; exact h
  | a :: ps, qs, l, vs, o, h, hp => by
    simp only [DenL] at hp
    obtain ⟨v, qs', rfl, hv, hp'⟩ := hp
    exact denL_overL (o + 1) (denL_set o h hv) hp'
theorem foldl_set (off : Nat) : ∀ (vs : List Value) (k : Nat) (cells : Array Value),
    ((vs.zipIdx k).foldl (fun cs (x : Value × Nat) => cs.setIfInBounds (off + x.2) x.1) cells).toList = overL cells.toList (off + k) vs
  | [], k, cells => rfl
  | v :: vs, k, cells => by
    simp only [List.zipIdx_cons, List.foldl_cons, overL]
    rw [foldl_set off vs (k + 1)]
    simp [Nat.add_assoc]
theorem length_overL {α : Type} : ∀ (ps : List α) (l : List α) (o : Nat), (overL l o ps).length = l.length
  | [], l, o => rfl
  | a :: ps, l, o => by rw [overL, length_overL ps]; simp
def cellsSV : SV → Option (List SV)
  | .any => none
  | .tup _ => none
  | .agg l => some l
  | v => some [v]
theorem cellsSV_sound {ρ : List Nat} {a : SV} {v : Value} {l : List SV} (h : cellsSV a = some l) (hd : Den ρ a v) : DenL ρ l v.cells.toList := by
  unfold cellsSV at h
  split at h
  · cases h
  · cases h
  · cases h
    simp only [Den] at hd
    obtain ⟨vs, rfl, hvs⟩ := hd
    simpa [Value.cells] using hvs
  · rename_i h1 h2 h3
    cases h
    have hc : v.cells.toList = [v] := by
      cases a <;> simp only [Den] at hd
      case any => exact absurd rfl h1
      case tup => exact absurd rfl (h2 _)
      case agg => exact absurd rfl (h3 _)
      all_goals first
        | (subst hd; rfl)
        | (obtain ⟨_, rfl, _⟩ := hd; rfl)
        | (obtain ⟨_, _, rfl⟩ := hd; rfl)
        | (obtain ⟨_, _, rfl, _⟩ := hd; rfl)
        | (obtain ⟨_, _, _, rfl, _⟩ := hd; rfl)
    rw [hc]
    simp only [DenL]
    exact ⟨v, [], rfl, hd, rfl⟩
def fillS (place : Nat → Option (Nat × Nat)) (cells : List SV) : List (Nat × SV) → Option (List SV)
  | [] => some cells
  | (i, v) :: rest =>
    match place i, cellsSV v with
    | some (off, size), some l => if l.length = size ∧ off + l.length ≤ cells.length then fillS place (overL cells off l) rest else none
    | _, _ => none
def DenP (ρ : List Nat) : List (Nat × SV) → List (Nat × Value) → Prop
  | [], vs => vs = []
  | (i, a) :: l, vs => ∃ v vs', vs = (i, v) :: vs' ∧ Den ρ a v ∧ DenP ρ l vs'
theorem fillS_sound {ρ : List Nat} (place : Nat → Option (Nat × Nat)) : ∀ {ps : List (Nat × SV)} {qs : List (Nat × Value)} {cells : List SV} {cs : Array Value} {l : List SV},
    DenL ρ cells cs.toList → DenP ρ ps qs → fillS place cells ps = some l → ∃ r : Array Value, Instr.fill place cs qs = some r ∧ DenL ρ l r.toList
  | [], qs, cells, cs, l, hc, hp, h => by
    simp only [DenP] at hp
    subst hp
    simp only [fillS, Option.some.injEq] at h
    subst h
    exact ⟨cs, rfl, hc⟩
  | (i, a) :: ps, qs, cells, cs, l, hc, hp, h => by
    simp only [DenP] at hp
    obtain ⟨v, qs', rfl, hv, hp'⟩ := hp
    simp only [fillS] at h
    split at h
    · rename_i off size l' hpl hl'
      split at h
      · rename_i hcond
        have hd := cellsSV_sound hl' hv
        have hlen := denL_length hd
        have hlen' := denL_length hc
        simp only [Array.length_toList] at hlen hlen'
        have hfold : (v.cells.zipIdx.foldl (fun cs (x : Value × Nat) => cs.setIfInBounds (off + x.2) x.1) cs).toList = overL cs.toList off v.cells.toList := by
          rw [← Array.foldl_toList, Array.toList_zipIdx]
          simpa using foldl_set off v.cells.toList 0 cs
        obtain ⟨r, hr, hd'⟩ := fillS_sound place (cs := v.cells.zipIdx.foldl (fun cs (x : Value × Nat) => cs.setIfInBounds (off + x.2) x.1) cs)
          (by rw [hfold]; exact denL_overL off hc hd) hp' h
        refine ⟨r, ?_, hd'⟩
        simp only [Instr.fill, hpl]
        rw [if_neg (by rw [hlen, hlen']; simp; omega)]
        exact hr
      · cases h
    · cases h
def placesOf (P : Program) : List Field → Option (List (Nat × Nat))
  | [] => some []
  | f :: fs => match szOf P f.type, placesOf P fs with
    | some n, some l => some ((f.offset, n) :: l)
    | _, _ => none
def qBuild (P : Program) (t : TypeId) (parts : List (Nat × SV)) : QR :=
  match zeroCs P t, P.underlying t with
  | some z, some (.struct fs) =>
    match placesOf P fs.toList with
    | some l => match fillS (l[·]?) z parts with
      | some cs => some (.agg cs, [])
      | none => none
    | none => none
  | some z, some (.array _ elem) =>
    match szOf P elem with
    | some sz => match fillS (fun i => some (i * sz, sz)) z parts with
      | some cs => some (.agg cs, [])
      | none => none
    | none => none
  | _, _ => none
theorem run_places {P : Program} (w : World) : ∀ {fs : List Field} {l : List (Nat × Nat)}, placesOf P fs = some l →
    (fs.mapM fun (f : Field) => do pure (f.offset, ← sizeOf f.type)).run P w = .ok l w
  | [], l, h => by simp only [placesOf, Option.some.injEq] at h; subst h; rfl
  | f :: fs, l, h => by
    simp only [placesOf] at h
    split at h
    · rename_i n l' hn hl
      cases h
      simp only [List.mapM_cons, Sem.run_bind, run_sizeOf hn, Result.andThen_ok, Sem.run_pure, run_places w hl]
    · cases h
theorem qBuild_sound {P : Program} {ρ : List Nat} {hp : List Blk} {w1 : World} {t : TypeId} {ps : List (Nat × SV)} {qs : Array (Nat × Value)} (hq : DenP ρ ps qs.toList) :
    QS P ρ hp w1 (Instr.build t qs) (qBuild P t ps) := by
  intro sv vc h hv
  unfold qBuild at h
  split at h
  · rename_i z fs hz hu
    split at h
    · rename_i l hl
      split at h
      · rename_i cs hcs
        cases h
        obtain ⟨zv, hzr, hzd⟩ := zeroCs_sound hz ρ
        obtain ⟨r, hr, hd⟩ := fillS_sound _ hzd hq hcs
        refine ⟨.agg r, ⟨r.toList, by simp, hd⟩, fun w _ => ?_⟩
        have hplaces : (fs.mapM fun (f : Field) => do pure (f.offset, ← sizeOf f.type) : Sem (Array (Nat × Nat))).run P w = .ok l.toArray w := by
          rw [Array.mapM_eq_mapM_toList, Sem.run_map, run_places w hl]; rfl
        simp only [Instr.build, Sem.run_bind, hzr, Result.andThen_ok, run_underlying hu, hplaces]
        have : (fun (x : Nat) => l.toArray[x]?) = (fun (x : Nat) => l[x]?) := by funext x; simp
        rw [this, hr]
        rfl
      · cases h
    · cases h
  · rename_i z n elem hz hu
    split at h
    · rename_i sz hsz
      split at h
      · rename_i cs hcs
        cases h
        obtain ⟨zv, hzr, hzd⟩ := zeroCs_sound hz ρ
        obtain ⟨r, hr, hd⟩ := fillS_sound _ hzd hq hcs
        refine ⟨.agg r, ⟨r.toList, by simp, hd⟩, fun w _ => ?_⟩
        simp only [Instr.build, Sem.run_bind, hzr, Result.andThen_ok, run_underlying hu, run_sizeOf hsz, hr]
        rfl
      · cases h
    · cases h
  · cases h
def qLoad (P : Program) (hp : List Blk) (t : TypeId) (x : SV) : QR :=
  match x with
  | .ptr n o =>
    match hp[n]? with
    | some (.mk _ segs) =>
      match aggT P t with
      | some false => segGet ar segs o
      | some true => match szOf P t with
        | some sz => match segGetN ar segs o sz with
          | some (l, vc) => some (.agg l, vc)
          | none => none
        | none => none
      | none => none
    | _ => none
  | .cp l =>
    match aggT P t with
    | some false => match l with
      | v :: _ => some (v, [])
      | [] => none
    | some true => match szOf P t with
      | some sz => match decide (sz ≤ l.length) with
        | true => some (.agg (l.take sz), [])
        | false => none
      | none => none
    | none => none
  | _ => none
theorem ccell_cell {w : World} (h : CSame w) {b i : Nat} {v : Value} (hc : ccell b i = some v) : w.cell? ⟨b, i, none⟩ = some v := by
  unfold ccell at hc
  split at hc
  · rename_i hb
    rw [← hc]
    simp only [World.cell?, h b hb]
  · cases hc
theorem blk_cells {ρ : List Nat} {hp : List Blk} {w : World} (H : HOK ρ hp w) {n b : Nat} {t : TypeId} {segs : List Seg} (h : hp[n]? = some (.mk t segs)) (hb : ρ[n]? = some b) :
    ∃ (cs : Array Value) (fz : Nat × Nat), (cs.size ≠ 0 → w.heap[b]? = some (.cells cs t fz) ∧ Free fz cs.size) ∧ SegsOK ρ segs cs.toList := H.ok n b _ h hb
theorem size_ne {cs : Array Value} {i : Nat} {v : Value} (h : cs.toList[i]? = some v) : cs.size ≠ 0 := by
  have := (List.getElem?_eq_some_iff.1 h).1
  simp at this
  omega
theorem cell_of {w : World} {n : Nat} {cs : Array Value} {t : TypeId} {fz : Nat × Nat} (h : w.heap[n]? = some (.cells cs t fz)) (i : Nat) :
    w.cell? ⟨n, i, none⟩ = cs[i]? := by simp [World.cell?, h]
theorem blk_read {ρ : List Nat} {hp : List Blk} {w : World} (H : HOK ρ hp w) {n b : Nat} {t : TypeId} {segs : List Seg} (h : hp[n]? = some (.mk t segs)) (hb : ρ[n]? = some b) :
    ∃ cs : List Value, SegsOK ρ segs cs ∧ ∀ w', Same ρ hp w w' → ∀ (i : Nat) (v : Value), cs[i]? = some v → w'.cell? ⟨b, i, none⟩ = some v := by
  obtain ⟨cs, fz, hpres, hs⟩ := blk_cells H h hb
  refine ⟨cs.toList, hs, fun w' hw i v hi => ?_⟩
  have hne := size_ne hi
  rw [cell_of (by rw [hw.blk n b t segs h (by rw [← segsOK_size hs]; simpa using hne) hb]; exact (hpres hne).1)]
  simpa using hi
end Go.Eng
/- The executor, eighth text: loads, conversions, built-ins that only compute; all quiet operations in one. -/
set_option linter.unusedSimpArgs false
set_option linter.unusedSectionVars false
namespace Go.Eng
variable [CW : CWorld]
variable (ar : AR)
theorem qLoad_sound {P : Program} {ρ : List Nat} {hp : List Blk} {w1 : World} (H : HOK ρ hp w1) {t : TypeId} {a : SV} {x : Value} (ha : Den ρ a x) :
    QS P ρ hp w1 (Instr.loadAt t x) (qLoad ar0 P hp t a) := by
  intro sv vc h hv
  unfold qLoad at h
  split at h
  · rename_i n o
    split at h
    · rename_i bt segs hb
      simp only [Den] at ha
      obtain ⟨b, hbn, rfl⟩ := ha
      obtain ⟨cs, hs, cellw⟩ := blk_read H hb hbn
      split at h
      · rename_i hag
        obtain ⟨v, hg, hd⟩ := segGet_sound hs h hv
        refine ⟨v, hd, fun w hw => ?_⟩
        have hc : w.cell? ⟨b, o.val, none⟩ = some v := cellw w hw _ _ hg
        simp [Instr.loadAt, Instr.sureAddr, loadVar, run_isAgg_aggT hag, hc]
      · rename_i hag
        split at h
        · rename_i sz hsz
          split at h
          · rename_i l vc' hl
            cases h
            obtain ⟨vs, hvs, hlen, hcell⟩ := segGetN_sound hs hl hv
            refine ⟨.agg vs.toArray, ⟨vs, rfl, hvs⟩, fun w hw => ?_⟩
            have hrun := run_loadCells_list (P := P) w ⟨b, o.val, none⟩ vs (fun j v hj => by
              rw [addr_add]; exact cellw w hw _ _ (hcell j v hj))
            rw [hlen] at hrun
            simp [Instr.loadAt, Instr.sureAddr, loadVar, run_isAgg_aggT hag, run_sizeOf hsz, hrun]
          · cases h
        · cases h
      · cases h
    · cases h
  · rename_i l
    simp only [Den] at ha
    obtain ⟨b, off, rfl, vs, hvs, hc⟩ := ha
    split at h
    · rename_i hag
      split at h
      · rename_i v l' 
        cases h
        simp only [DenL] at hvs
        obtain ⟨u, us, rfl, hu, _⟩ := hvs
        refine ⟨u, hu, fun w hw => ?_⟩
        have hcell := ccell_cell hw.cst (hc 0 u rfl)
        rw [Nat.add_zero] at hcell
        simp [Instr.loadAt, Instr.sureAddr, loadVar, run_isAgg_aggT hag, hcell]
      · cases h
    · rename_i hag
      split at h
      · rename_i sz hsz
        split at h
        · rename_i hle
          have hle := of_decide_eq_true hle
          cases h
          have hlen := denL_length hvs
          refine ⟨.agg (vs.take sz).toArray, ⟨vs.take sz, rfl, denL_take _ hvs⟩, fun w hw => ?_⟩
          have hrun := run_loadCells_list (P := P) w ⟨b, off, none⟩ (vs.take sz) (fun j v hj => by
            rw [addr_add]
            rw [List.getElem?_take] at hj
            split at hj
            · exact ccell_cell hw.cst (hc j v hj)
            · cases hj)
          rw [List.length_take, hlen, Nat.min_eq_left hle] at hrun
          simp [Instr.loadAt, Instr.sureAddr, loadVar, run_isAgg_aggT hag, run_sizeOf hsz, hrun]
        · cases h
      · cases h
    · cases h
  · cases h
def segCol : List Seg → Off → Option (IntKind × List Int × Int)
  | .one _ :: s, .l (b + 1) => segCol s (.l b)
  | .one _ :: s, .x (b + 1) sz e sub => segCol s (.x b sz e sub)
  | .arr n [.ints k l] :: s, .l b =>
    match n with
    | .l m => if b ≤ m.toNat then some (k, l, b) else segCol s (.l (b - m.toNat))
    | .x _ => some (k, l, b)
  | .arr _ [.ints k l] :: _, .x 0 1 e 0 => some (k, l, e)
  | _, _ => none
theorem segCol_sound {ρ : List Nat} : ∀ {segs : List Seg} {cs : List Value} {o : Off} {k : IntKind} {l : List Int} {e : Int},
    SegsOK ρ segs cs → segCol segs o = some (k, l, e) → 0 ≤ e → ∀ j, e.toNat + j < l.length → cs[o.val + j]? = some (.int k (l.getD (e.toNat + j) 0))
  | [], cs, o, k, l, e, hs, h, he => by simp [segCol] at h
  | .one v :: s, cs, o, k, l, e, hs, h, he => by
    simp only [SegsOK] at hs
    obtain ⟨c, cs', rfl, hc, hs⟩ := hs
    intro j hj
    match o, h with
    | .l 0, h => simp [segCol] at h
    | .l (b + 1), h =>
      have := segCol_sound hs (by simpa only [segCol] using h) he j hj
      simp only [Off.val] at this ⊢
      rw [show b + 1 + j = (b + j) + 1 by omega]
      simpa using this
    | .x 0 _ _ _, h => simp [segCol] at h
    | .x (b + 1) sz e' sub, h =>
      have := segCol_sound hs (by simpa only [segCol] using h) he j hj
      simp only [Off.val] at this ⊢
      rw [show b + 1 + e'.toNat * sz + sub + j = (b + e'.toNat * sz + sub + j) + 1 by omega]
      simpa using this
  | .arr n cols :: s, cs, o, k, l, e, hs, h, he => by
    simp only [SegsOK] at hs
    obtain ⟨a, b', rfl, ha, hs⟩ := hs
    intro j hj
    have key : ∀ (k : IntKind) (l : List Int) (i : Nat), cols = [.ints k l] → i < l.length → (a ++ b')[i]? = some (.int k (l.getD i 0)) := fun k l i hc hi => by
      subst hc
      have := ha.cell i 0 (.ints k l) (by simp) (by simpa [Col.len] using hi)
      simp only [List.length_cons, List.length_nil, Nat.zero_add, Nat.mul_one, Nat.add_zero, Col.at] at this
      rw [List.getElem?_append_left (List.getElem?_eq_some_iff.1 this).1]
      exact this
    match cols, o, h with
    | [.ints k' l'], .l b, h =>
      simp only [segCol] at h
      cases n with
      | l m =>
        simp only at h
        split at h
        · cases h
          have := key k l (b + j) rfl (by simpa using hj)
          simpa [Off.val] using this
        · rename_i hlt
          have := segCol_sound hs h he j hj
          have hz : a.length = m.toNat := by rw [ha.size]; simp [Z.val]
          simp only [Off.val] at this ⊢
          rw [List.getElem?_append_right (by omega), hz]
          rw [show b + j - m.toNat = b - m.toNat + j by omega]
          exact this
      | x m =>
        cases h
        have := key k l (b + j) rfl (by simpa using hj)
        simpa [Off.val] using this
    | [.ints k' l'], .x 0 1 e' 0, h =>
      simp only [segCol, Option.some.injEq, Prod.mk.injEq] at h
      obtain ⟨rfl, rfl, rfl⟩ := h
      have := key k' l' (e'.toNat + j) rfl hj
      simpa [Off.val] using this
def intsOf : List SV → Option (List Int)
  | [] => some []
  | .int .u8 z :: l => match intsOf l with
    | some r => some (z.val :: r)
    | none => none
  | _ => none
theorem intsOf_sound {ρ : List Nat} : ∀ {l : List SV} {r : List Int} {vs : List Value}, intsOf l = some r → DenL ρ l vs → vs = r.map (Value.int .u8)
  | [], r, vs, h, hd => by simp only [intsOf, Option.some.injEq] at h; simp only [DenL] at hd; subst h hd; rfl
  | a :: l, r, vs, h, hd => by
    unfold intsOf at h
    split at h
    · rename_i heq; cases heq
    · rename_i z l' heq
      cases heq
      split at h
      · rename_i r' hr
        cases h
        simp only [DenL] at hd
        obtain ⟨v, vs', rfl, hv, hd'⟩ := hd
        simp only [Den] at hv
        rw [intsOf_sound hr hd', hv]
        rfl
      · cases h
    · cases h
def bytesAt (segs : List Seg) (o : Off) (len : Z) : Option (List Int × List Prop) :=
  match segCol segs o with
  | some (.u8, l, e) => some (ar.isub l e len.val, nonneg ar (.x e) ++ leVC ar (.x (ar.add e len.val)) (.x (ar.ilen l)))
  | _ =>
    match len with
    | .l n => match segGetN ar segs o n.toNat with
      | some (vs, vc) => match intsOf vs with
        | some r => some (r, vc)
        | none => none
      | none => none
    | .x _ => none
theorem bytesAt_sound {ρ : List Nat} {segs : List Seg} {cs : List Value} {o : Off} {len : Z} {r : List Int} {vc : List Prop} (hs : SegsOK ρ segs cs)
    (h : bytesAt ar0 segs o len = some (r, vc)) (h0 : 0 ≤ len.val) (hv : AllP vc) :
    r.length = len.val.toNat ∧ ∀ j v, (r.map (Value.int .u8))[j]? = some v → cs[o.val + j]? = some v := by
  unfold bytesAt at h
  split at h
  · rename_i l e hc
    cases h
    obtain ⟨v1, v2⟩ := allP_append.1 hv
    have he := nonneg_sound v1
    have hle := leVC_sound v2
    simp only [zx, ar0] at he hle
    have hlen : (ar0.isub l e len.val).length = len.val.toNat := by
      simp only [ar0, List.length_take, List.length_drop]; omega
    refine ⟨hlen, fun j v hj => ?_⟩
    have hjl : j < len.val.toNat := by
      have := (List.getElem?_eq_some_iff.1 hj).1
      simpa [hlen] using this
    rw [segCol_sound hs hc he j (by omega)]
    rw [← hj]
    simp only [ar0, List.getElem?_map, List.getElem?_take, List.getElem?_drop, hjl, if_true, List.getD]
    rw [List.getElem?_eq_getElem (by omega)]
    rfl
  · split at h
    · rename_i n
      split at h
      · rename_i vs vc' hg
        split at h
        · rename_i r' hr
          cases h
          obtain ⟨us, hus, hlen, hcell⟩ := segGetN_sound hs hg hv
          have := intsOf_sound hr hus
          subst this
          exact ⟨by simpa [zl] using hlen, hcell⟩
        · cases h
      · cases h
    · cases h
def qConvert (P : Program) (hp : List Blk) (src dst : TypeId) (x : SV) : QR :=
  match P.underlying src, P.underlying dst, x with
  | some _, some (.int k), .int _ z => some (.int k (zun (ar.wrap k) k.wrap z), [])
  | some .string, some .string, .str s => some (.str s, [])
  | some (.slice e), some .string, .nslc => match P.underlying e with
    | some (.int .u8) => some (.str [], [])
    | _ => none
  | some (.slice e), some .string, .slc n o len _ =>
    match P.underlying e, hp[n]?, szOf P e with
    | some (.int .u8), some (.mk _ segs), some 1 =>
      match len with
      | .l 0 => some (.str [], [])
      | len => match bytesAt ar segs o len with
        | some (r, vc) => some (.str (ar.bytes r), vc)
        | none => none
    | _, _, _ => none
  | some (.slice e), some .string, .cs cols len _ =>
    match P.underlying e, cols with
    | some (.int .u8), [.ints .u8 l] => some (.str (ar.bytes (ar.isub l 0 len.val)), leVC ar len (.x (ar.ilen l)))
    | _, _ => none
  | _, _, _ => none
theorem foldl_push_bytes (ns : List Int) : ∀ (r : ByteArray), (ns.foldl (fun r n => r.push (UInt8.ofNat n.toNat)) r) = ⟨(r.data.toList ++ ns.map fun n => UInt8.ofNat n.toNat).toArray⟩ := by
  induction ns with
  | nil => intro r; apply ByteArray.ext; simp
  | cons n ns ih =>
    intro r
    rw [List.foldl_cons, ih]
    apply ByteArray.ext
    simp [ByteArray.push]
theorem run_bytesToString0 {P : Program} (w : World) (a : Option Addr) (cap : Nat) : (Conv.bytesToString (.slice a 0 cap)).run P w = .ok (.string ⟨([] : List UInt8).toArray⟩) w := by
  cases a with
  | none => simp [Conv.bytesToString]; rfl
  | some a =>
    have : (loadCells a 0).run P w = .ok ((([] : List Int).map (Value.int .u8)).toArray) w := by simp [loadCells, loadCellsFrom]
    rw [run_bytesToString _ _ _ _ _ this]
    rfl
theorem qConvert_sound {P : Program} {ρ : List Nat} {hp : List Blk} {w1 : World} (H : HOK ρ hp w1) {src dst : TypeId} {a : SV} {x : Value} (ha : Den ρ a x) :
    QS P ρ hp w1 (convert src dst x) (qConvert ar0 P hp src dst a) := by
  intro sv vc h hv
  unfold qConvert at h
  split at h
  · rename_i ds k k' z hus hud
    cases h
    simp only [Den] at ha
    subst ha
    refine ⟨_, rfl, fun w _ => ?_⟩
    rw [zun_val (by intros; rfl)]
    simp [convert, run_underlying hus, run_underlying hud, Conv.intToInt, ar0]
  · rename_i s hus hud
    cases h
    simp only [Den] at ha
    subst ha
    exact ⟨_, rfl, fun w _ => by simp [convert, run_underlying hus, run_underlying hud]⟩
  · rename_i e hus hud
    split at h
    · rename_i hue
      cases h
      simp only [Den] at ha
      subst ha
      exact ⟨.string ⟨#[]⟩, by simp [Den], fun w _ => by simp [convert, run_underlying hus, run_underlying hud, run_underlying hue, Conv.bytesToString]; rfl⟩
    · cases h
  · rename_i e n o len cap hus hud
    split at h
    · rename_i bt segs hue hb hsz
      simp only [Den] at ha
      obtain ⟨off, b, hbn, rfl, hl0, hlc, hoff⟩ := ha
      obtain ⟨cs, hs, cellw⟩ := blk_read H hb hbn
      split at h
      · cases h
        refine ⟨.string ⟨#[]⟩, by simp [Den], fun w _ => ?_⟩
        simp only [convert, Sem.run_bind, run_underlying hus, run_underlying hud, run_underlying hue, Result.andThen_ok, zl, Int.toNat_zero]
        rw [run_bytesToString0]
      · split at h
        · rename_i r vc' hr
          cases h
          obtain ⟨hlen, hcell⟩ := bytesAt_sound hs hr hl0 hv
          refine ⟨_, rfl, fun w hw => ?_⟩
          by_cases hz : cap.val = 0
          · have hr0 : r = [] := List.length_eq_zero_iff.1 (by omega)
            subst hr0
            have hlz : len.val.toNat = 0 := by omega
            simp only [convert, Sem.run_bind, run_underlying hus, run_underlying hud, run_underlying hue, Result.andThen_ok, hlz]
            rw [run_bytesToString0]
            rfl
          · have hoff' := hoff hz
            subst hoff'
            have hrun := run_loadCells_list (P := P) w ⟨b, o.val, none⟩ (r.map (Value.int .u8)) (fun j v hj => by
              rw [addr_add]; exact cellw w hw _ _ (hcell j v hj))
            rw [List.length_map, hlen] at hrun
            simp only [convert, Sem.run_bind, run_underlying hus, run_underlying hud, run_underlying hue, Result.andThen_ok]
            rw [run_bytesToString _ _ _ _ _ hrun, foldl_push_bytes]
            rfl
        · cases h
    · cases h
  · rename_i e cols len cap hus hud
    split at h
    · rename_i l hue
      cases h
      have hle := leVC_sound hv
      simp only [Den] at ha
      obtain ⟨a, rfl, hl0, hlc, hpres⟩ := ha
      refine ⟨_, rfl, fun w hw => ?_⟩
      by_cases hz : cap.val = 0
      · have hlz : len.val.toNat = 0 := by omega
        have hr0 : ar0.isub l 0 len.val = [] := by simp [ar0, hlz]
        simp only [convert, Sem.run_bind, run_underlying hus, run_underlying hud, run_underlying hue, Result.andThen_ok, hlz]
        rw [run_bytesToString0, hr0]
        rfl
      obtain ⟨b, off, rfl, hcell⟩ := hpres hz
      have hrun := run_loadCells_list (P := P) w ⟨b, off, none⟩ ((ar0.isub l 0 len.val).map (Value.int .u8)) (fun j v hj => by
        rw [addr_add]
        simp only [ar0, Int.toNat_zero, List.drop_zero, List.getElem?_map, List.getElem?_take] at hj
        split at hj
        · rename_i hjl
          have := hcell j 0 (.ints .u8 l) hjl rfl
          simp only [List.length_cons, List.length_nil, Nat.zero_add, Nat.mul_one, Nat.add_zero] at this
          rw [ccell_cell hw.cst this, ← hj]
          simp only [zx, ar0] at hle
          have hlt : j < l.length := by omega
          simp [Col.at, List.getD, hlt]
        · cases hj)
      have hlen : ((ar0.isub l 0 len.val).map (Value.int .u8)).length = len.val.toNat := by
        simp only [zx, ar0] at hle
        simp only [ar0, Int.toNat_zero, List.drop_zero, List.length_map, List.length_take]
        omega
      rw [hlen] at hrun
      simp only [convert, Sem.run_bind, run_underlying hus, run_underlying hud, run_underlying hue, Result.andThen_ok]
      rw [run_bytesToString _ _ _ _ _ hrun, foldl_push_bytes]
      rfl
    · cases h
  · cases h
end Go.Eng
/- The executor, ninth text: all quiet operations in one. -/
set_option linter.unusedSimpArgs false
set_option linter.unusedSectionVars false
namespace Go.Eng
variable [CW : CWorld]
variable (ar : AR)
def qUn (op : UnOp) (x : SV) : QR :=
  match op, x with
  | .neg, .int k z => some (.int k (zun (ar.wrap k) k.wrap (zbin ar.sub (· - ·) (.l 0) z)), [])
  | .not, .bool b => some (.bool (bnot b), [])
  | _, _ => none
theorem qUn_sound {P : Program} {ρ : List Nat} {hp : List Blk} {w1 : World} {op : UnOp} {a : SV} {x : Value} (ha : Den ρ a x) :
    QS P ρ hp w1 (Op.unary op x) (qUn ar0 op a) := by
  intro sv vc h hv
  unfold qUn at h
  split at h
  · cases h
    simp only [Den] at ha
    subst ha
    refine ⟨_, rfl, fun w _ => ?_⟩
    rw [zun_val (by intros; rfl), zbin_val (by intros; rfl)]
    simp [Op.unary, Op.intArith, ar0, zl]
  · cases h
    simp only [Den] at ha
    obtain ⟨c, rfl, hc⟩ := ha
    exact ⟨.bool (!c), den_bool (by rw [bnot_prop, ← hc]; cases c <;> simp), fun w _ => by simp [Op.unary]⟩
  · cases h
def qPick (c a b : SV) : QR :=
  match c with
  | .bool (.l true) => some (a, [])
  | .bool (.l false) => some (b, [])
  | .bool (.x p) =>
    match a, b with
    | .bool (.l true), .bool y => some (.bool (.x (p ∨ y.prop)), [])
    | .bool x, .bool (.l false) => some (.bool (.x (p ∧ x.prop)), [])
    | .bool x, .bool y => some (.bool (.x ((p ∧ x.prop) ∨ (¬ p ∧ y.prop))), [])
    | _, _ => none
  | _ => none
theorem qPick_sound {P : Program} {ρ : List Nat} {hp : List Blk} {w1 : World} {c a b : SV} {u x y : Value} (hc : Den ρ c u) (ha : Den ρ a x) (hb : Den ρ b y) :
    QS P ρ hp w1 (do pure (if ← asBool u then x else y)) (qPick c a b) := by
  intro sv vc h hv
  unfold qPick at h
  split at h
  · cases h
    simp only [Den, BB.prop, iff_true] at hc
    obtain ⟨c, rfl, hc⟩ := hc
    subst hc
    exact ⟨x, ha, fun w _ => by simp [asBool]⟩
  · cases h
    simp only [Den, BB.prop, Bool.false_eq_true, iff_false, Bool.not_eq_true] at hc
    obtain ⟨c, rfl, hc⟩ := hc
    subst hc
    exact ⟨y, hb, fun w _ => by simp [asBool]⟩
  · rename_i p
    simp only [Den] at hc
    obtain ⟨c, rfl, hc⟩ := hc
    simp only [BB.prop] at hc
    split at h
    all_goals first | (cases h; done) | skip
    all_goals
      cases h
      simp only [Den] at ha hb
      obtain ⟨a', rfl, ha⟩ := ha
      obtain ⟨b', rfl, hb⟩ := hb
      refine ⟨.bool (if c then a' else b'), den_bool ?_, fun w _ => by simp [asBool]⟩
    · simp only [BB.prop, iff_true] at ha
      subst ha
      change _ ↔ (p ∨ BB.prop _)
      rw [← hc, ← hb]
      cases c <;> simp
    · simp only [BB.prop, Bool.false_eq_true, iff_false, Bool.not_eq_true] at hb
      subst hb
      change _ ↔ (p ∧ BB.prop _)
      rw [← hc, ← ha]
      cases c <;> simp
    · change _ ↔ ((p ∧ BB.prop _) ∨ (¬ p ∧ BB.prop _))
      rw [← hc, ← ha, ← hb]
      cases c <;> simp
  · cases h
def qNil (x : SV) : QR :=
  match x with
  | .ptr n o => some (.ptr n o, [])
  | .ifc t v => some (.ifc t v, [])
  | .fn f c => some (.fn f c, [])
  | .cp l => some (.cp l, [])
  | _ => none
noncomputable def qBuiltin (P : Program) (b : Builtin) (ts : List TypeId) (args : List SV) : QR :=
  match b, ts, args with
  | .len, [t], [x] =>
    match P.underlying t, x with
    | some .string, .str s => some (.int .i64 (.x (ar.slen s)), [])
    | some (.array n _), _ => some (.int .i64 (.l n), [])
    | some (.slice _), .slc _ _ len _ => some (.int .i64 len, [])
    | some (.slice _), .nslc => some (.int .i64 (.l 0), [])
    | some (.slice _), .cs _ len _ => some (.int .i64 len, [])
    | _, _ => none
  | .cap, [t], [x] =>
    match P.underlying t, x with
    | some (.array n _), _ => some (.int .i64 (.l n), [])
    | some (.slice _), .slc _ _ _ cap => some (.int .i64 cap, [])
    | some (.slice _), .nslc => some (.int .i64 (.l 0), [])
    | some (.slice _), .cs _ _ cap => some (.int .i64 cap, [])
    | _, _ => none
  | .min, _, [.int k x, .int _ y] => some (.int k (zbin ar.mn (ar0.mn) x y), [])
  | .max, _, [.int k x, .int _ y] => some (.int k (zbin ar.mx (ar0.mx) x y), [])
  | _, _, _ => none
def bsem (b : Builtin) (ts : Array TypeId) (t : TypeId) (args : Array Value) : Option (Sem Value) :=
  match b with
  | .len => some (Builtin.len_ ts t args)
  | .cap => some (Builtin.cap_ ts t args)
  | .min => some (Builtin.min_ ts t args)
  | .max => some (Builtin.max_ ts t args)
  | _ => none
theorem qBuiltin_sound {P : Program} {ρ : List Nat} {hp : List Blk} {w1 : World} {b : Builtin} {ts : Array TypeId} {ty : TypeId} {as : List SV} {xs : List Value}
    (ha : DenL ρ as xs) {sv : SV} {vc : List Prop} (h : qBuiltin ar0 P b ts.toList as = some (sv, vc)) :
    ∃ s, bsem b ts ty xs.toArray = some s ∧ QS P ρ hp w1 s (some (sv, vc)) := by
  unfold qBuiltin at h
  split at h
  · rename_i t x hts
    have hts' : ts = #[t] := by rw [← Array.toArray_toList (xs := ts), hts]
    subst hts'
    simp only [DenL] at ha
    obtain ⟨v, _, rfl, hx, rfl⟩ := ha
    refine ⟨_, rfl, ?_⟩
    intro sv' vc' h' hv
    cases h'
    split at h
    · rename_i s hu
      cases h
      simp only [Den] at hx
      subst hx
      exact ⟨_, rfl, fun w _ => by
        rw [run_len_string _ _ _ _ hu, show (ByteArray.mk s.toArray).size = s.length by simp [ByteArray.size]]
        rfl⟩
    · rename_i n e hu
      cases h
      exact ⟨_, rfl, fun w _ => by simp [Builtin.len_, run_underlying hu, goInt, zl]⟩
    · rename_i e n o len cap hu
      cases h
      simp only [Den] at hx
      obtain ⟨off, b, _, rfl, h0, _, _⟩ := hx
      exact ⟨_, rfl, fun w _ => by simp [Builtin.len_, run_underlying hu, goInt, Int.toNat_of_nonneg h0]⟩
    · rename_i e hu
      cases h
      simp only [Den] at hx
      subst hx
      exact ⟨_, rfl, fun w _ => by simp [Builtin.len_, run_underlying hu, goInt, zl]⟩
    · rename_i e cols len cap hu
      cases h
      simp only [Den] at hx
      obtain ⟨a, rfl, h0, _, _⟩ := hx
      exact ⟨_, rfl, fun w _ => by simp [Builtin.len_, run_underlying hu, goInt, Int.toNat_of_nonneg h0]⟩
    · cases h
  · rename_i t x hts
    have hts' : ts = #[t] := by rw [← Array.toArray_toList (xs := ts), hts]
    subst hts'
    simp only [DenL] at ha
    obtain ⟨v, _, rfl, hx, rfl⟩ := ha
    refine ⟨_, rfl, ?_⟩
    intro sv' vc' h' hv
    cases h'
    split at h
    · rename_i n e hu
      cases h
      exact ⟨_, rfl, fun w _ => by simp [Builtin.cap_, run_underlying hu, goInt, zl]⟩
    · rename_i e n o len cap hu
      cases h
      simp only [Den] at hx
      obtain ⟨off, b, _, rfl, h0, h1, _⟩ := hx
      exact ⟨_, rfl, fun w _ => by simp [Builtin.cap_, run_underlying hu, goInt, Int.toNat_of_nonneg (Int.le_trans h0 h1)]⟩
    · rename_i e hu
      cases h
      simp only [Den] at hx
      subst hx
      exact ⟨_, rfl, fun w _ => by simp [Builtin.cap_, run_underlying hu, goInt, zl]⟩
    · rename_i e cols len cap hu
      cases h
      simp only [Den] at hx
      obtain ⟨a, rfl, h0, h1, _⟩ := hx
      exact ⟨_, rfl, fun w _ => by simp [Builtin.cap_, run_underlying hu, goInt, Int.toNat_of_nonneg (Int.le_trans h0 h1)]⟩
    · cases h
  · cases h
    simp only [DenL] at ha
    obtain ⟨_, _, rfl, hx, _, _, rfl, hy, rfl⟩ := ha
    simp only [Den] at hx hy
    subst hx hy
    refine ⟨_, rfl, ?_⟩
    intro sv' vc' h' hv
    cases h'
    refine ⟨_, rfl, fun w _ => ?_⟩
    rw [zbin_val (by intros; rfl)]
    simp [Builtin.min_, Builtin.min2, ar0]
  · cases h
    simp only [DenL] at ha
    obtain ⟨_, _, rfl, hx, _, _, rfl, hy, rfl⟩ := ha
    simp only [Den] at hx hy
    subst hx hy
    refine ⟨_, rfl, ?_⟩
    intro sv' vc' h' hv
    cases h'
    refine ⟨_, rfl, fun w _ => ?_⟩
    rw [zbin_val (by intros; rfl)]
    simp [Builtin.max_, Builtin.max2, ar0]
  · cases h
noncomputable def qBin (P : Program) (op : BinOp) (t : TypeId) (x y : SV) : QR :=
  match x, y with
  | .int k a, .int k' b =>
    match op with
    | .shl => qShift ar .shl k a b
    | .shr => qShift ar .shr k a b
    | op => if k = k' then qInt ar op k a b else none
  | .str a, .str b => qStr ar op a b
  | a, b =>
    match op with
    | .eql => qEq ar P false t a b
    | .neq => qEq ar P true t a b
    | _ => none
def isK : Operand → Bool
  | .const _ => true
  | _ => false
noncomputable def qNn (P : Program) (op : BinOp) (t : TypeId) (x y : Operand) (a b : SV) : QR :=
  match a, b with
  | .nifc, .nifc =>
    match isK x || isK y, P.underlying t, op with
    | true, some (.interface _), .eql => some (.bool (.l true), [])
    | true, some (.interface _), .neq => some (.bool (.l false), [])
    | _, _, _ => none
  | a, b => qBin ar P op t a b
noncomputable def qv (P : Program) (hp : List Blk) (E : Operand → SV) (o : Op) : QR :=
  match o with
  | .move x => some (E x, [])
  | .assign x => some (E x, [])
  | .pick c a b => qPick (E c) (E a) (E b)
  | .build t ps => qBuild P t (ps.toList.map fun p => (p.1, E p.2))
  | .load t a => qLoad ar P hp t (E a)
  | .nilCheck x => qNil (E x)
  | .binOp op t x y _ => qNn ar P op t x y (E x) (E y)
  | .unOp op _ x => qUn ar op (E x)
  | .convert s d x => qConvert ar P hp s d (E x)
  | .makeInterface t x =>
    match P.underlying t with
    | some (.interface _) => none
    | some _ => some (.ifc t (E x), [])
    | none => none
  | .makeFunc (.func f) first captured => if first.size = 0 then some (.fn f (captured.toList.map E), []) else none
  | .slice t x lo hi mx => qSlice ar P t (E x) (lo.map E) (hi.map E) (mx.map E)
  | .fieldAddr s x f => qFieldAddr P s (E x) f
  | .field t x f => qField P t (E x) f
  | .indexAddr t x i => qIndexAddr ar P t (E x) (E i)
  | .index t x i => qIndex ar P t (E x) (E i)
  | .extract t i => qExtract (E t) i
  | .call { callee := .builtin b, args, argTypes } => qBuiltin ar P b argTypes.toList (args.toList.map E)
  | _ => none
theorem denL_map {ρ : List Nat} {E : Operand → SV} {e : Operand → Value} (h : ∀ x, Den ρ (E x) (e x)) : ∀ l : List Operand, DenL ρ (l.map E) (l.map e)
  | [] => by simp [DenL]
  | x :: l => by simp only [List.map_cons, DenL]; exact ⟨e x, l.map e, rfl, h x, denL_map h l⟩
theorem denP_map {ρ : List Nat} {E : Operand → SV} {e : Operand → Value} (h : ∀ x, Den ρ (E x) (e x)) : ∀ l : List (Nat × Operand),
    DenP ρ (l.map fun p => (p.1, E p.2)) (l.map fun p => (p.1, e p.2))
  | [] => by simp [DenP]
  | x :: l => by simp only [List.map_cons, DenP]; exact ⟨e x.2, _, rfl, h x.2, denP_map h l⟩
theorem optDen_map {ρ : List Nat} {E : Operand → SV} {e : Operand → Value} (h : ∀ x, Den ρ (E x) (e x)) (o : Option Operand) : OptDen ρ (o.map E) (o.map e) := by
  cases o with
  | none => rfl
  | some x => exact ⟨_, rfl, h x⟩
def QOK (P : Program) (ρ : List Nat) (hp : List Blk) (w1 : World) (o : Oper) (e : Operand → Value) (r : QR) : Prop :=
  ∀ sv vc, r = some (sv, vc) → AllP vc → ∃ v, Den ρ sv v ∧ ∀ w, Same ρ hp w1 w → (execOp e o).run P w = .ok (.value v) w
theorem QOK.of {P : Program} {ρ : List Nat} {hp : List Blk} {w1 : World} {o : Oper} {e : Operand → Value} {r : QR} {s : Sem Value}
    (h : QS P ρ hp w1 s r) (he : execOp e o = do pure (.value (← s))) : QOK P ρ hp w1 o e r := by
  intro sv vc hr hv
  obtain ⟨v, hd, hrun⟩ := h sv vc hr hv
  exact ⟨v, hd, fun w hw => by rw [he, Sem.run_bind, hrun w hw]; rfl⟩
end Go.Eng
/- The executor, tenth text: the quiet operations are sound. -/
set_option linter.unusedSimpArgs false
set_option linter.unusedSectionVars false
namespace Go.Eng
variable [CW : CWorld]
theorem QOK.none {P : Program} {ρ : List Nat} {hp : List Blk} {w1 : World} {o : Oper} {e : Operand → Value} : QOK P ρ hp w1 o e none := by
  intro sv vc h; cases h
theorem QOK.pure {P : Program} {ρ : List Nat} {hp : List Blk} {w1 : World} {o : Oper} {e : Operand → Value} {sv : SV} {v : Value}
    (hd : Den ρ sv v) (he : execOp e o = Pure.pure (.value v)) : QOK P ρ hp w1 o e (some (sv, [])) := by
  intro sv' vc h hv
  cases h
  exact ⟨v, hd, fun w _ => by rw [he]; rfl⟩
theorem int_den {ρ : List Nat} {k : IntKind} {z : Z} {v : Value} (h : Den ρ (.int k z) v) : v = .int k z.val := h
theorem str_den {ρ : List Nat} {s : List UInt8} {v : Value} (h : Den ρ (.str s) v) : v = .string ⟨s.toArray⟩ := h
theorem eqGuard_int (op : BinOp) (t : TypeId) (x y : Operand) (k k' : IntKind) (a b : Int) : eqGuard op t x y (.int k a) (.int k' b) = Pure.pure () := by
  cases op <;> rfl
theorem eqGuard_str (op : BinOp) (t : TypeId) (x y : Operand) (a b : ByteArray) : eqGuard op t x y (.string a) (.string b) = Pure.pure () := by
  cases op <;> rfl
theorem qbin_sound {P : Program} {ρ : List Nat} {hp : List Blk} {w1 : World} {op : BinOp} {t : TypeId} {x y : Operand} {a b : SV} {u v : Value}
    (ha : Den ρ a u) (hb : Den ρ b v) :
    QS P ρ hp w1 (do eqGuard op t x y u v; binOp op t u v) (qBin ar0 P op t a b) := by
  unfold qBin
  split
  · rename_i k a k' b
    have hu := int_den ha
    have hv := int_den hb
    subst hu hv
    rw [eqGuard_int]
    change QS P ρ hp w1 (binOp op t _ _) _
    split
    · exact qShift_sound P ρ hp w1 .shl t k k' a b
    · exact qShift_sound P ρ hp w1 .shr t k k' a b
    · rename_i h1 h2
      split
      · rename_i hk
        subst hk
        exact qInt_sound P ρ hp w1 op t k a b h1 h2
      · intro sv vc h; cases h
  · have hu := str_den ha
    have hv := str_den hb
    subst hu hv
    rw [eqGuard_str]
    exact qStr_sound P ρ hp w1 op t _ _
  · split
    · exact qEq_sound P ρ hp w1 false t x y _ _ _ _ ha hb
    · exact qEq_sound P ρ hp w1 true t x y _ _ _ _ ha hb
    · intro sv vc h; cases h
theorem eqGuard_isK {op : BinOp} {t : TypeId} {x y : Operand} (h : (isK x || isK y) = true) : eqGuard op t x y .nilIface .nilIface = Pure.pure () := by
  cases x <;> cases y <;> first | (cases op <;> rfl) | (cases h; done)
theorem equalIn_nifc {P : Program} {t : TypeId} {ms : Array (String × TypeId)} (hu : P.underlying t = some (.interface ms)) (d : Nat) (w : World) : (Op.equalIn (d + 1) t .nilIface .nilIface).run P w = .ok true w := by
  simp [Op.equalIn, run_underlying hu]
theorem qNn_sound {P : Program} {ρ : List Nat} {hp : List Blk} {w1 : World} {op : BinOp} {t : TypeId} {x y : Operand} {a b : SV} {u v : Value}
    (ha : Den ρ a u) (hb : Den ρ b v) :
    QS P ρ hp w1 (do eqGuard op t x y u v; binOp op t u v) (qNn ar0 P op t x y a b) := by
  unfold qNn
  split
  · simp only [Den] at ha hb
    subst ha hb
    split
    · rename_i ms hk hu
      intro sv vc h hv
      cases h
      refine ⟨.bool true, den_bool (by simp [BB.prop]), fun w _ => ?_⟩
      rw [eqGuard_isK hk]
      have e : binOp .eql t .nilIface .nilIface = (do pure (.bool (← Op.equal t .nilIface .nilIface))) := rfl
      have r := equalIn_nifc hu 9999 w
      rw [Sem.run_bind, Sem.run_pure, Result.andThen_ok, e, Sem.run_bind, Op.equal, show Op.maxDepth = 9999 + 1 from rfl, r]
      rfl
    · rename_i ms hk hu
      intro sv vc h hv
      cases h
      refine ⟨.bool false, den_bool (by simp [BB.prop]), fun w _ => ?_⟩
      rw [eqGuard_isK hk]
      have e : binOp .neq t .nilIface .nilIface = (do pure (.bool (!(← Op.equal t .nilIface .nilIface)))) := rfl
      have r := equalIn_nifc hu 9999 w
      rw [Sem.run_bind, Sem.run_pure, Result.andThen_ok, e, Sem.run_bind, Op.equal, show Op.maxDepth = 9999 + 1 from rfl, r]
      rfl
    · intro sv vc h; cases h
  · exact qbin_sound ha hb
theorem qNil_sound {P : Program} {ρ : List Nat} {hp : List Blk} {w1 : World} {o : Oper} {e : Operand → Value} {x : Operand} (ho : o.op = .nilCheck x) {a : SV}
    (ha : Den ρ a (e x)) : QOK P ρ hp w1 o e (qNil a) := by
  unfold qNil
  split
  · refine QOK.pure (v := e x) ha ?_
    simp only [Den] at ha
    obtain ⟨_, _, ha⟩ := ha
    simp only [execOp, ho, ha]
  · refine QOK.pure (v := e x) ha ?_
    simp only [Den] at ha
    obtain ⟨_, h, _⟩ := ha
    simp only [execOp, ho, h]
  · refine QOK.pure (v := e x) ha ?_
    simp only [Den] at ha
    obtain ⟨_, h, _⟩ := ha
    simp only [execOp, ho, h]
  · refine QOK.pure (v := e x) ha ?_
    simp only [Den] at ha
    obtain ⟨_, _, h, _⟩ := ha
    simp only [execOp, ho, h]
  · exact QOK.none
theorem bsem_run {P : Program} {w : World} {b : Builtin} {ts : Array TypeId} {t : TypeId} {cs : Array Bool} {args : Array Value} {s : Sem Value} {v : Value}
    (h : bsem b ts t args = some s) (hr : s.run P w = .ok v w) : (builtin b ts t cs args).run P w = .ok (.value v) w := by
  unfold bsem at h
  split at h <;> first | (cases h; done) | skip
  all_goals
    cases h
    simp only [builtin, Sem.run_bind, hr]
    rfl
theorem qv_sound {P : Program} {ρ : List Nat} {hp : List Blk} {w1 : World} (H : HOK ρ hp w1) {E : Operand → SV} {e : Operand → Value}
    (hE : ∀ x, Den ρ (E x) (e x)) (o : Oper) : QOK P ρ hp w1 o e (qv ar0 P hp E o.op) := by
  obtain ⟨dst, op, type, pos, after, guard⟩ := o
  cases op
  case move x => exact QOK.pure (hE x) rfl
  case assign x => exact QOK.pure (hE x) rfl
  case pick c a b =>
    intro sv vc hr hv
    obtain ⟨v, hd, hrun⟩ := qPick_sound (P := P) (hp := hp) (w1 := w1) (hE c) (hE a) (hE b) sv vc hr hv
    refine ⟨v, hd, fun w hw => ?_⟩
    have := hrun w hw
    simp only [execOp, Sem.run_bind, Sem.run_pure] at this ⊢
    cases h : (asBool (e c)).run P w with
    | ok b w' => rw [h] at this; simp only [Result.andThen_ok, Result.ok.injEq] at this ⊢; obtain ⟨rfl, rfl⟩ := this; exact ⟨rfl, rfl⟩
    | halt x w' => rw [h] at this; simp [Result.andThen] at this
  case build t ps =>
    exact QOK.of (qBuild_sound (qs := ps.map fun (i, x) => (i, e x)) (by simpa using denP_map hE ps.toList)) rfl
  case load t a => exact QOK.of (qLoad_sound H (hE a)) rfl
  case nilCheck x => exact qNil_sound rfl (hE x)
  case binOp op t x y yt => exact QOK.of (qNn_sound (hE x) (hE y)) rfl
  case unOp op t x => exact QOK.of (qUn_sound (hE x)) rfl
  case convert s d x => exact QOK.of (qConvert_sound H (hE x)) rfl
  case makeInterface t x =>
    intro sv vc hr hv
    simp only [qv] at hr
    split at hr
    · cases hr
    · rename_i d hn hu
      cases hr
      refine ⟨_, ⟨_, rfl, hE x⟩, fun w _ => ?_⟩
      simp only [execOp, Instr.makeInterface, Sem.run_bind, run_underlying hu, Result.andThen_ok]
      cases d <;> first | rfl | exact absurd hu (hn _)
    · cases hr
  case makeFunc fn first captured =>
    cases fn with
    | func f =>
      intro sv vc hr hv
      simp only [qv] at hr
      split at hr
      · rename_i hz
        cases hr
        have hf : first = #[] := by simpa using hz
        subst hf
        refine ⟨.func (.func f) #[] (captured.map e), ⟨captured.toList.map e, by rw [← Array.toList_map], denL_map hE _⟩, fun w _ => ?_⟩
        simp [execOp, Instr.makeFunc]
      · cases hr
    | _ => exact QOK.none
  case slice t x lo hi mx => exact QOK.of (qSlice_sound (hE x) (optDen_map hE lo) (optDen_map hE hi) (optDen_map hE mx)) rfl
  case fieldAddr s x f => exact QOK.of (qFieldAddr_sound (hE x)) rfl
  case field t x f => exact QOK.of (qField_sound (hE x)) rfl
  case indexAddr t x i => exact QOK.of (qIndexAddr_sound (hE x) (hE i)) rfl
  case index t x i => exact QOK.of (qIndex_sound (hE x) (hE i)) rfl
  case extract t i => exact QOK.of (qExtract_sound (hE t)) rfl
  case call c =>
    obtain ⟨callee, args, argTypes⟩ := c
    cases callee with
    | builtin b =>
      intro sv vc hr hv
      obtain ⟨s, hs, hq⟩ := qBuiltin_sound (P := P) (ρ := ρ) (hp := hp) (w1 := w1) (ty := type) (denL_map hE args.toList) hr
      obtain ⟨v, hd, hrun⟩ := hq sv vc rfl hv
      refine ⟨v, hd, fun w hw => ?_⟩
      have hargs : (args.toList.map e).toArray = args.map e := by rw [← Array.toList_map]
      rw [hargs] at hs
      simp only [execOp, resolve, Sem.run_bind, Sem.run_pure, Result.andThen_ok, invoke]
      exact bsem_run hs (hrun w hw)
    | _ => exact QOK.none
  all_goals exact QOK.none
end Go.Eng
/- The executor, eleventh text: what changes memory. -/
set_option linter.unusedSimpArgs false
set_option linter.unusedSectionVars false
namespace Go.Eng
variable [CW : CWorld]
mutual
theorem Den.mono {ρ : List Nat} (l : List Nat) : ∀ {a : SV} {v : Value}, Den ρ a v → Den (ρ ++ l) a v
  | .any, _, _ => trivial
  | .int _ _, _, h => h
  | .bool _, _, h => h
  | .str _, _, h => h
  | .ptr n o, v, h => by
    simp only [Den] at h ⊢
    obtain ⟨b, hb, hv⟩ := h
    exact ⟨b, by rw [List.getElem?_append_left (List.getElem?_eq_some_iff.1 hb).1]; exact hb, hv⟩
  | .nptr, _, h => h
  | .map n, v, h => by
    simp only [Den] at h ⊢
    obtain ⟨b, hb, hv⟩ := h
    exact ⟨b, by rw [List.getElem?_append_left (List.getElem?_eq_some_iff.1 hb).1]; exact hb, hv⟩
  | .nmap, _, h => h
  | .slc n o len cap, v, h => by
    simp only [Den] at h ⊢
    obtain ⟨off, b, hb, hv⟩ := h
    exact ⟨off, b, by rw [List.getElem?_append_left (List.getElem?_eq_some_iff.1 hb).1]; exact hb, hv⟩
  | .nslc, _, h => h
  | .fn f caps, v, h => by
    simp only [Den] at h ⊢
    obtain ⟨vs, hv, hc⟩ := h
    exact ⟨vs, hv, DenL.mono l hc⟩
  | .nfn, _, h => h
  | .ifc t x, v, h => by
    simp only [Den] at h ⊢
    obtain ⟨y, hv, hc⟩ := h
    exact ⟨y, hv, Den.mono l hc⟩
  | .nifc, _, h => h
  | .agg cs, v, h => by
    simp only [Den] at h ⊢
    obtain ⟨vs, hv, hc⟩ := h
    exact ⟨vs, hv, DenL.mono l hc⟩
  | .tup cs, v, h => by
    simp only [Den] at h ⊢
    obtain ⟨vs, hv, hc⟩ := h
    exact ⟨vs, hv, DenL.mono l hc⟩
  | .cs _ _ _, _, h => h
  | .cp cs, v, h => by
    simp only [Den] at h ⊢
    obtain ⟨b, off, hv, vs, hd, hc⟩ := h
    exact ⟨b, off, hv, vs, DenL.mono l hd, hc⟩
theorem DenL.mono {ρ : List Nat} (l : List Nat) : ∀ {as : List SV} {vs : List Value}, DenL ρ as vs → DenL (ρ ++ l) as vs
  | [], _, h => h
  | a :: as, vs, h => by
    simp only [DenL] at h ⊢
    obtain ⟨v, vs', hv, hd, hl⟩ := h
    exact ⟨v, vs', hv, Den.mono l hd, DenL.mono l hl⟩
end
theorem SegsOK.mono {ρ : List Nat} (l : List Nat) : ∀ {s : List Seg} {cs : List Value}, SegsOK ρ s cs → SegsOK (ρ ++ l) s cs
  | [], _, h => h
  | .one v :: s, cs, h => by
    simp only [SegsOK] at h ⊢
    obtain ⟨c, cs', hc, hd, hs⟩ := h
    exact ⟨c, cs', hc, hd.mono l, SegsOK.mono l hs⟩
  | .arr n cols :: s, cs, h => by
    simp only [SegsOK] at h ⊢
    obtain ⟨a, b, hc, hd, hs⟩ := h
    exact ⟨a, b, hc, hd, SegsOK.mono l hs⟩
theorem BlkOK.mono {ρ : List Nat} (l : List Nat) {w : World} {n : Nat} {b : Blk} (h : BlkOK ρ w n b) : BlkOK (ρ ++ l) w n b := by
  cases b with
  | gone => trivial
  | mk t segs =>
    simp only [BlkOK] at h ⊢
    obtain ⟨cs, fz, h1, h3⟩ := h
    exact ⟨cs, fz, h1, h3.mono l⟩
theorem BlkOK.same {ρ : List Nat} {w w' : World} {n : Nat} {b : Blk} (h : BlkOK ρ w n b) (hw : b.there → w'.heap[n]? = w.heap[n]?) : BlkOK ρ w' n b := by
  cases b with
  | gone => trivial
  | mk t segs =>
    simp only [BlkOK] at h ⊢
    obtain ⟨cs, fz, h1, h3⟩ := h
    refine ⟨cs, fz, fun hne => ?_, h3⟩
    rw [hw (by simp only [Blk.there, ← segsOK_size h3]; simpa using hne)]
    exact h1 hne
theorem Since.refl {ρ : List Nat} {hp : List Blk} {w : World} (H : HOK ρ hp w) : Since ρ hp w ρ hp w where
  hok := H
  old := ⟨[], by simp⟩
  new := fun n h => .inr h
  frame := fun _ _ _ => rfl
  size := Nat.le_refl _
  tape := rfl
  os := rfl
  out := rfl
theorem Since.trans {ρ0 ρ ρ' : List Nat} {w0 w w' : World} {hp0 hp hp' : List Blk} (h : Since ρ0 hp0 w0 ρ hp w) (h' : Since ρ hp w ρ' hp' w') : Since ρ0 hp0 w0 ρ' hp' w' where
  hok := h'.hok
  old := by
    obtain ⟨l, hl⟩ := h.old
    obtain ⟨m, hm⟩ := h'.old
    exact ⟨l ++ m, by rw [hm, hl, List.append_assoc]⟩
  new := fun n hn => by
    rcases h'.new n hn with h1 | h1
    · exact .inl (Nat.le_trans h.size h1)
    · exact h.new n h1
  frame := fun b hb hnot => by
    have hnot' : ¬ Own ρ hp b := fun ho => by
      rcases h.new b ho with h1 | h1
      · omega
      · exact hnot h1
    rw [h'.frame b (Nat.lt_of_lt_of_le hb h.size) hnot', h.frame b hb hnot]
  size := Nat.le_trans h.size h'.size
  tape := h'.tape.trans h.tape
  os := h'.os.trans h.os
  out := h'.out.trans h.out
theorem Since.heap {ρ : List Nat} {hp : List Blk} {w w' : World} (H : HOK ρ hp w) (hh : w'.heap = w.heap) (ht : w'.tape = w.tape) (ho : w'.os = w.os) (hx : w'.output = w.output) :
    Since ρ hp w ρ hp w' where
  hok := { len := H.len, inj := H.inj, ok := fun i n b h1 h2 => (H.ok i n b h1 h2).same (fun _ => by rw [hh]), cst := fun b hb => by rw [hh]; exact H.cst b hb, above := H.above }
  old := ⟨[], by simp⟩
  new := fun n h => .inr h
  frame := fun _ _ _ => by rw [hh]
  size := by rw [hh]; exact Nat.le_refl _
  tape := ht
  os := ho
  out := hx
theorem HOK.lt {ρ : List Nat} {hp : List Blk} {w : World} (H : HOK ρ hp w) {i n : Nat} {t : TypeId} {s : List Seg} (h : hp[i]? = some (.mk t s)) (hne : segsSize s ≠ 0) (hn : ρ[i]? = some n) : n < w.heap.size := by
  obtain ⟨cs, fz, hh, hs⟩ := H.ok i n _ h hn
  exact (Array.getElem?_eq_some_iff.1 (hh (by rw [← segsOK_size hs] at hne; simpa using hne)).1).1
theorem CSame.le {w : World} (h : CSame w) : CW.w.heap.size ≤ w.heap.size := by
  rcases Nat.eq_zero_or_pos CW.w.heap.size with h0 | h0
  · omega
  · have h1 := h (CW.w.heap.size - 1) (by omega)
    rw [Array.getElem?_eq_getElem (show CW.w.heap.size - 1 < CW.w.heap.size by omega)] at h1
    have := (Array.getElem?_eq_some_iff.1 h1).1
    omega
theorem Since.push {ρ : List Nat} {hp : List Blk} {w : World} (H : HOK ρ hp w) (o : Obj) (b : Blk) (hb : ∀ w' : World, w'.heap[w.heap.size]? = some o → BlkOK (ρ ++ [w.heap.size]) w' w.heap.size b) :
    Since ρ hp w (ρ ++ [w.heap.size]) (hp ++ [b]) { w with heap := w.heap.push o } where
  hok := {
    len := by simp [H.len]
    inj := fun i j n x y hx hy gx gy hi hj => by
      have key : ∀ (i : Nat) (x : Blk), (hp ++ [b])[i]? = some x → x.there → (ρ ++ [w.heap.size])[i]? = some n → (i < hp.length ∧ hp[i]? = some x ∧ ρ[i]? = some n ∧ n < w.heap.size) ∨ (i = hp.length ∧ n = w.heap.size) := fun i x hx gx hi => by
        by_cases hlt : i < hp.length
        · left
          rw [List.getElem?_append_left hlt] at hx
          rw [List.getElem?_append_left (by rw [H.len]; exact hlt)] at hi
          refine ⟨hlt, hx, hi, ?_⟩
          cases x with
          | gone => exact gx.elim
          | mk t s => exact H.lt hx gx hi
        · right
          rw [List.getElem?_append_right (by rw [H.len]; omega)] at hi
          have h1 := (List.getElem?_eq_some_iff.1 hi).1
          simp only [List.length_cons, List.length_nil, H.len] at h1
          have : i - ρ.length = 0 := by rw [H.len]; omega
          rw [this] at hi
          simp at hi
          exact ⟨by omega, hi.symm⟩
      rcases key i x hx gx hi with ⟨h1, h2, h3, h4⟩ | ⟨h1, h2⟩ <;> rcases key j y hy gy hj with ⟨h5, h6, h7, h8⟩ | ⟨h5, h6⟩
      · exact H.inj i j n x y h2 h6 gx gy h3 h7
      · omega
      · omega
      · omega
    ok := fun i n x hx hi => by
      by_cases hlt : i < hp.length
      · rw [List.getElem?_append_left hlt] at hx
        rw [List.getElem?_append_left (by rw [H.len]; exact hlt)] at hi
        have h0 := (H.ok i n x hx hi).mono [w.heap.size]
        cases x with
        | gone => trivial
        | mk t s =>
          refine h0.same fun ht => ?_
          have := H.lt hx ht hi
          simp [Array.getElem?_push, Nat.ne_of_lt this]
      · rw [List.getElem?_append_right (by rw [H.len]; omega)] at hi
        rw [List.getElem?_append_right (by omega)] at hx
        have h1 := (List.getElem?_eq_some_iff.1 hx).1
        simp only [List.length_cons, List.length_nil] at h1
        have e1 : i - hp.length = 0 := by omega
        have e2 : i - ρ.length = 0 := by rw [H.len]; omega
        rw [e1] at hx
        rw [e2] at hi
        simp at hx hi
        subst hx hi
        exact hb _ (by simp)
    cst := fun k hk => by
      have := H.cst.le
      simp only [Array.getElem?_push, show k ≠ w.heap.size by omega, if_false]
      exact H.cst k hk
    above := fun i n x hx gx hi => by
      by_cases hlt : i < hp.length
      · rw [List.getElem?_append_left hlt] at hx
        rw [List.getElem?_append_left (by rw [H.len]; exact hlt)] at hi
        exact H.above i n x hx gx hi
      · rw [List.getElem?_append_right (by rw [H.len]; omega)] at hi
        have h1 := (List.getElem?_eq_some_iff.1 hi).2
        simp at h1
        have := H.cst.le
        omega }
  old := ⟨_, rfl⟩
  new := fun n ⟨i, x, hx, gx, hi⟩ => by
    by_cases hlt : i < hp.length
    · rw [List.getElem?_append_left hlt] at hx
      rw [List.getElem?_append_left (by rw [H.len]; exact hlt)] at hi
      exact .inr ⟨i, x, hx, gx, hi⟩
    · rw [List.getElem?_append_right (by rw [H.len]; omega)] at hi
      have h1 := (List.getElem?_eq_some_iff.1 hi).2
      simp at h1
      left; omega
  frame := fun b hb _ => by simp [Array.getElem?_push, Nat.ne_of_lt hb]
  size := by simp
  tape := rfl
  os := rfl
  out := rfl
theorem Since.over {ρ : List Nat} {hp : List Blk} {w : World} (H : HOK ρ hp w) {i n : Nat} {t : TypeId} {s : List Seg} (hi : hp[i]? = some (.mk t s)) (hne : segsSize s ≠ 0) (hn : ρ[i]? = some n)
    {s' : List Seg} {cs' : Array Value} {fz : Nat × Nat} (hf : Free fz cs'.size) (hs : SegsOK ρ s' cs'.toList) :
    Since ρ hp w ρ (hp.set i (.mk t s')) { w with heap := w.heap.setIfInBounds n (.cells cs' t fz) } where
  hok := {
    len := by simp [H.len]
    inj := fun j k m x y hx hy gx gy hj hk => by
      have back : ∀ (j : Nat) (x : Blk), (hp.set i (.mk t s'))[j]? = some x → x.there → ∃ y, hp[j]? = some y ∧ y.there := fun j x hx gx => by
        by_cases e : i = j
        · subst e; exact ⟨_, hi, hne⟩
        · rw [List.getElem?_set_ne e] at hx; exact ⟨x, hx, gx⟩
      obtain ⟨x', hx', gx'⟩ := back j x hx gx
      obtain ⟨y', hy', gy'⟩ := back k y hy gy
      exact H.inj j k m x' y' hx' hy' gx' gy' hj hk
    ok := fun j m x hx hj => by
      by_cases e : i = j
      · subst e
        have hlt := (List.getElem?_eq_some_iff.1 hi).1
        rw [List.getElem?_set_self hlt] at hx
        rw [hn] at hj
        cases hx
        cases hj
        exact ⟨cs', fz, fun _ => ⟨by simp [H.lt hi hne hn], hf⟩, hs⟩
      · rw [List.getElem?_set_ne e] at hx
        cases x with
        | gone => trivial
        | mk t1 s1 =>
          refine (H.ok j m _ hx hj).same fun ht => ?_
          have hnm : n ≠ m := fun heq => by
            subst heq
            exact e (H.inj i j n _ _ hi hx hne ht hn hj)
          simp [Array.getElem?_setIfInBounds, hnm]
    cst := fun k hk => by
      have hnk : n ≠ k := by
        have := H.above i n _ hi hne hn
        omega
      simp only [Array.getElem?_setIfInBounds_ne hnk]
      exact H.cst k hk
    above := fun j m x hx gx hj => by
      by_cases e : i = j
      · subst e
        exact H.above i m _ hi hne hj
      · rw [List.getElem?_set_ne e] at hx
        exact H.above j m x hx gx hj }
  old := ⟨[], by simp⟩
  new := fun m ⟨j, x, hx, gx, hj⟩ => by
    by_cases e : i = j
    · subst e; exact .inr ⟨i, _, hi, hne, hj⟩
    · rw [List.getElem?_set_ne e] at hx; exact .inr ⟨j, x, hx, gx, hj⟩
  frame := fun b _ hnot => by
    have hnb : n ≠ b := fun heq => hnot ⟨i, _, hi, hne, heq ▸ hn⟩
    simp [Array.getElem?_setIfInBounds, hnb]
  size := by simp
  tape := rfl
  os := rfl
  out := rfl
theorem Since.over0 {ρ : List Nat} {hp : List Blk} {w : World} (H : HOK ρ hp w) {i n : Nat} {b b' : Blk} (hi : hp[i]? = some b) (hn : ρ[i]? = some n)
    (hok : BlkOK ρ w n b') (ht : b'.there → b.there) : Since ρ hp w ρ (hp.set i b') w where
  hok := {
    len := by simp [H.len]
    inj := fun j k m x y hx hy gx gy hj hk => by
      have back : ∀ (j : Nat) (x : Blk), (hp.set i b')[j]? = some x → x.there → ∃ y, hp[j]? = some y ∧ y.there := fun j x hx gx => by
        by_cases e : i = j
        · subst e
          rw [List.getElem?_set_self (List.getElem?_eq_some_iff.1 hi).1] at hx
          cases hx
          exact ⟨_, hi, ht gx⟩
        · rw [List.getElem?_set_ne e] at hx; exact ⟨x, hx, gx⟩
      obtain ⟨x', hx', gx'⟩ := back j x hx gx
      obtain ⟨y', hy', gy'⟩ := back k y hy gy
      exact H.inj j k m x' y' hx' hy' gx' gy' hj hk
    ok := fun j m x hx hj => by
      by_cases e : i = j
      · subst e
        rw [List.getElem?_set_self (List.getElem?_eq_some_iff.1 hi).1] at hx
        rw [hn] at hj
        cases hx
        cases hj
        exact hok
      · rw [List.getElem?_set_ne e] at hx
        exact H.ok j m _ hx hj
    cst := H.cst
    above := fun j m x hx gx hj => by
      by_cases e : i = j
      · subst e
        rw [List.getElem?_set_self (List.getElem?_eq_some_iff.1 hi).1] at hx
        cases hx
        exact H.above i m _ hi (ht gx) hj
      · rw [List.getElem?_set_ne e] at hx
        exact H.above j m x hx gx hj }
  old := ⟨[], by simp⟩
  new := fun m ⟨j, x, hx, gx, hj⟩ => by
    by_cases e : i = j
    · subst e
      rw [List.getElem?_set_self (List.getElem?_eq_some_iff.1 hi).1] at hx
      cases hx
      exact .inr ⟨i, _, hi, ht gx, hj⟩
    · rw [List.getElem?_set_ne e] at hx; exact .inr ⟨j, x, hx, gx, hj⟩
  frame := fun _ _ _ => rfl
  size := Nat.le_refl _
  tape := rfl
  os := rfl
  out := rfl
theorem Since.name' {ρ : List Nat} {hp0 hp : List Blk} {w : World} (H : HOK ρ hp w) {n : Nat} {b : Blk} (hok : BlkOK ρ w n b) (hfar : ∀ (i : Nat) (x : Blk), hp[i]? = some x → x.there → ρ[i]? = some n → ¬ b.there)
    (hab : b.there → CW.w.heap.size ≤ n) (hnew : b.there → w.heap.size ≤ n ∨ Own ρ hp0 n)
    (hsub : ∀ m, Own ρ hp m → Own ρ hp0 m) : Since ρ hp0 w (ρ ++ [n]) (hp ++ [b]) w where
  hok := {
    len := by simp [H.len]
    inj := fun j k m x y hx hy gx gy hj hk => by
      have back : ∀ (j : Nat) (x : Blk), (hp ++ [b])[j]? = some x → (ρ ++ [n])[j]? = some m → (j < hp.length ∧ hp[j]? = some x ∧ ρ[j]? = some m) ∨ (j = hp.length ∧ m = n ∧ x = b) := fun j x hx hj => by
        by_cases hlt : j < hp.length
        · left
          rw [List.getElem?_append_left hlt] at hx
          rw [List.getElem?_append_left (by rw [H.len]; exact hlt)] at hj
          exact ⟨hlt, hx, hj⟩
        · right
          rw [List.getElem?_append_right (by omega)] at hx
          rw [List.getElem?_append_right (by rw [H.len]; omega)] at hj
          have h1 := (List.getElem?_eq_some_iff.1 hj).1
          simp only [List.length_cons, List.length_nil, H.len] at h1
          have e1 : j - ρ.length = 0 := by rw [H.len]; omega
          have e2 : j - hp.length = 0 := by omega
          rw [e1] at hj
          rw [e2] at hx
          simp at hj hx
          exact ⟨by omega, hj.symm, hx.symm⟩
      rcases back j x hx hj with ⟨a1, a2, a3⟩ | ⟨a1, a2, a3⟩ <;> rcases back k y hy hk with ⟨b1, b2, b3⟩ | ⟨b1, b2, b3⟩
      · exact H.inj j k m x y a2 b2 gx gy a3 b3
      · subst b2 b3
        exact absurd gy (hfar j x a2 gx a3)
      · subst a2 a3
        exact absurd gx (hfar k y b2 gy b3)
      · omega
    ok := fun j m x hx hj => by
      by_cases hlt : j < hp.length
      · rw [List.getElem?_append_left hlt] at hx
        rw [List.getElem?_append_left (by rw [H.len]; exact hlt)] at hj
        exact (H.ok j m x hx hj).mono [n]
      · rw [List.getElem?_append_right (by omega)] at hx
        rw [List.getElem?_append_right (by rw [H.len]; omega)] at hj
        have h1 := (List.getElem?_eq_some_iff.1 hj).1
        simp only [List.length_cons, List.length_nil, H.len] at h1
        have e1 : j - ρ.length = 0 := by rw [H.len]; omega
        have e2 : j - hp.length = 0 := by omega
        rw [e1] at hj
        rw [e2] at hx
        simp at hj hx
        subst hj hx
        exact hok.mono [n]
    cst := H.cst
    above := fun j m x hx gx hj => by
      by_cases hlt : j < hp.length
      · rw [List.getElem?_append_left hlt] at hx
        rw [List.getElem?_append_left (by rw [H.len]; exact hlt)] at hj
        exact H.above j m x hx gx hj
      · rw [List.getElem?_append_right (by omega)] at hx
        rw [List.getElem?_append_right (by rw [H.len]; omega)] at hj
        have h1 := (List.getElem?_eq_some_iff.1 hj).1
        simp only [List.length_cons, List.length_nil, H.len] at h1
        have e1 : j - ρ.length = 0 := by rw [H.len]; omega
        have e2 : j - hp.length = 0 := by omega
        rw [e1] at hj
        rw [e2] at hx
        simp at hj hx
        subst hj hx
        exact hab gx }
  old := ⟨_, rfl⟩
  new := fun m ⟨j, x, hx, gx, hj⟩ => by
    by_cases hlt : j < hp.length
    · rw [List.getElem?_append_left hlt] at hx
      rw [List.getElem?_append_left (by rw [H.len]; exact hlt)] at hj
      exact .inr (hsub m ⟨j, x, hx, gx, hj⟩)
    · rw [List.getElem?_append_right (by omega)] at hx
      rw [List.getElem?_append_right (by rw [H.len]; omega)] at hj
      have h1 := (List.getElem?_eq_some_iff.1 hj).1
      simp only [List.length_cons, List.length_nil, H.len] at h1
      have e1 : j - ρ.length = 0 := by rw [H.len]; omega
      have e2 : j - hp.length = 0 := by omega
      rw [e1] at hj
      rw [e2] at hx
      simp at hj hx
      subst hj hx
      exact hnew gx
  frame := fun _ _ _ => rfl
  size := Nat.le_refl _
  tape := rfl
  os := rfl
  out := rfl
theorem Since.name {ρ : List Nat} {hp : List Blk} {w : World} (H : HOK ρ hp w) {n : Nat} {b : Blk} (hok : BlkOK ρ w n b) (hfar : ∀ (i : Nat) (x : Blk), hp[i]? = some x → x.there → ρ[i]? = some n → ¬ b.there)
    (hab : b.there → CW.w.heap.size ≤ n) (hnew : b.there → w.heap.size ≤ n ∨ Own ρ hp n) : Since ρ hp w (ρ ++ [n]) (hp ++ [b]) w :=
  Since.name' H hok hfar hab hnew (fun _ h => h)
end Go.Eng
/- The executor, twelfth text: stores. -/
set_option linter.unusedSimpArgs false
set_option linter.unusedSectionVars false
namespace Go.Eng
variable [CW : CWorld]
variable (ar : AR)
theorem setCell_eq {w : World} {b o : Nat} {cs : Array Value} {t : TypeId} {fz : Nat × Nat} (h : w.heap[b]? = some (.cells cs t fz)) (v : Value) :
    w.setCell ⟨b, o, none⟩ v = { w with heap := w.heap.setIfInBounds b (.cells (cs.setIfInBounds o v) t fz) } := by
  unfold World.setCell
  congr 1
  apply Array.ext'
  apply List.ext_getElem?
  intro i
  have hlt := (Array.getElem?_eq_some_iff.1 h).1
  by_cases e : b = i
  · subst e
    have hg : w.heap[b] = .cells cs t fz := (Array.getElem?_eq_some_iff.1 h).2
    simp [Array.getElem?_toList, Array.getElem?_modify, hlt, hg]
  · simp [Array.getElem?_toList, Array.getElem?_modify, Array.getElem?_setIfInBounds, e]
theorem frozen_of {w : World} {b o : Nat} {cs : Array Value} {t : TypeId} {fz : Nat × Nat} (h : w.heap[b]? = some (.cells cs t fz)) (hf : Free fz cs.size) (ho : o < cs.size) :
    w.frozen? ⟨b, o, none⟩ = false := by
  obtain ⟨lo, hi⟩ := fz
  have := hf o ho
  simp only [World.frozen?, h]
  simp only [Bool.and_eq_false_iff, decide_eq_false_iff_not]
  simp only [not_and, Nat.not_lt] at this
  by_cases h1 : lo ≤ o
  · right; have := this h1; omega
  · left; exact h1
theorem run_storeCells {P : Program} {b off : Nat} {t : TypeId} {fz : Nat × Nat} : ∀ (vs : List Value) (i : Nat) (w : World) (cs : Array Value),
    w.heap[b]? = some (.cells cs t fz) → Free fz cs.size → off + i + vs.length ≤ cs.size → (∀ v ∈ vs, v.oneCell' = true) →
    (storeCells ⟨b, off, none⟩ vs i).run P w = .ok () (if vs = [] then w else { w with heap := w.heap.setIfInBounds b (.cells (overL cs.toList (off + i) vs).toArray t fz) })
  | [], i, w, cs, h, hf, hl, hv => by simp [storeCells]
  | v :: vs, i, w, cs, h, hf, hl, hv => by
    simp only [List.length_cons] at hl
    have hlt := (Array.getElem?_eq_some_iff.1 h).1
    have hc : w.cell? ⟨b, off + i, none⟩ = some (cs[off + i]'(by omega)) := by
      rw [cell_of h]; simp [show off + i < cs.size by omega]
    rw [storeCells, Sem.run_bind, addr_add, run_store P w _ v .plain (hv v (by simp)), hc]
    simp only [frozen_of h hf (show off + i < cs.size by omega), Bool.false_eq_true, if_false, Result.andThen_ok]
    rw [setCell_eq h]
    rw [run_storeCells (t := t) (fz := fz) vs (i + 1) _ (cs.setIfInBounds (off + i) v) (by simp [hlt]) (by simpa using hf) (by simp; omega) (fun u hu => hv u (by simp [hu]))]
    by_cases hnil : vs = []
    · subst hnil
      simp only [if_true, overL, reduceCtorEq, if_false]
      congr 4
      apply Array.ext'
      simp
    · simp only [hnil, if_false, overL, reduceCtorEq]
      congr 2
      simp [Nat.add_assoc]
def SV.cell : SV → Bool
  | .any => false
  | .agg _ => false
  | .tup _ => false
  | _ => true
theorem den_cell {ρ : List Nat} {a : SV} {v : Value} (h : a.cell = true) (hd : Den ρ a v) : v.oneCell' = true ∧ (∀ l, v ≠ .agg l) ∧ (∀ l, v ≠ .tuple l) := by
  cases a <;> simp only [SV.cell, Bool.false_eq_true] at h <;> simp only [Den] at hd
  all_goals first
    | (subst hd; exact ⟨rfl, (fun l h => by cases h), (fun l h => by cases h)⟩)
    | (obtain ⟨_, rfl, _⟩ := hd; exact ⟨rfl, (fun l h => by cases h), (fun l h => by cases h)⟩)
    | (obtain ⟨_, _, rfl⟩ := hd; exact ⟨rfl, (fun l h => by cases h), (fun l h => by cases h)⟩)
    | (obtain ⟨_, _, rfl, _⟩ := hd; exact ⟨rfl, (fun l h => by cases h), (fun l h => by cases h)⟩)
    | (obtain ⟨_, _, _, rfl, _⟩ := hd; exact ⟨rfl, (fun l h => by cases h), (fun l h => by cases h)⟩)
def Col.put (c : Col) (e : Int) (v : SV) : Option (Col × List Prop) :=
  match c, v with
  | .ints k l, .int k' z => if k = k' then some (.ints k (ar.iset l e z.val), [ar.le 0 e, ar.lt e (ar.ilen l)]) else none
  | .strs l, .str s => some (.strs (ar.tset l e s), [ar.le 0 e, ar.lt e (ar.tlen l)])
  | _, _ => none
def colsPut (cols : List Col) (j : Nat) (e : Int) (v : SV) : Option (List Col × List Prop) :=
  match cols[j]? with
  | some c => match c.put ar e v with
    | some (c', vc) => some (cols.set j c', vc)
    | none => none
  | none => none
def segPut : List Seg → Off → SV → Option (List Seg × List Prop)
  | [], _, _ => none
  | .one _ :: s, .l 0, v => some (.one v :: s, [])
  | .one u :: s, .l (b + 1), v => match segPut s (.l b) v with
    | some (s', vc) => some (.one u :: s', vc)
    | none => none
  | .one _ :: _, .x 0 _ _ _, _ => none
  | .one u :: s, .x (b + 1) sz e sub, v => match segPut s (.x b sz e sub) v with
    | some (s', vc) => some (.one u :: s', vc)
    | none => none
  | .arr n cols :: s, .l b, v =>
    match cols.length with
    | 0 => none
    | c + 1 =>
      match n with
      | .l k =>
        if b < k.toNat * (c + 1) then match colsPut ar cols (b % (c + 1)) (b / (c + 1) : Nat) v with
          | some (cols', vc) => some (.arr n cols' :: s, vc)
          | none => none
        else match segPut s (.l (b - k.toNat * (c + 1))) v with
          | some (s', vc) => some (.arr n cols :: s', vc)
          | none => none
      | .x _ => match colsPut ar cols (b % (c + 1)) (b / (c + 1) : Nat) v with
        | some (cols', vc) => some (.arr n cols' :: s, vc)
        | none => none
  | .arr n cols :: s, .x b sz e sub, v =>
    match n with
    | .l k =>
      if k.toNat * cols.length ≤ b then match segPut s (.x (b - k.toNat * cols.length) sz e sub) v with
        | some (s', vc) => some (.arr n cols :: s', vc)
        | none => none
      else if b = 0 ∧ sz = cols.length ∧ sub < sz then match colsPut ar cols sub e v with
        | some (cols', vc) => some (.arr n cols' :: s, vc)
        | none => none
      else none
    | .x _ =>
      if b = 0 ∧ sz = cols.length ∧ sub < sz then match colsPut ar cols sub e v with
        | some (cols', vc) => some (.arr n cols' :: s, vc)
        | none => none
      else none
theorem col_put_sound {ρ : List Nat} {c c' : Col} {e : Int} {sv : SV} {v : Value} {vc : List Prop} (h : c.put ar0 e sv = some (c', vc)) (hd : Den ρ sv v) (hv : AllP vc) :
    0 ≤ e ∧ e.toNat < c.len ∧ c'.len = c.len ∧ c'.at e.toNat = v ∧ (∀ i, i ≠ e.toNat → c'.at i = c.at i) ∧ (∀ l, v ≠ .agg l) ∧ (∀ l, v ≠ .tuple l) := by
  unfold Col.put at h
  split at h
  · rename_i k l k' z
    split at h
    · rename_i hk
      subst hk
      cases h
      simp only [AllP, ar0, and_true] at hv
      obtain ⟨h0, h1⟩ := hv
      simp only [Den] at hd
      subst hd
      have hlt : e.toNat < l.length := by omega
      refine ⟨h0, hlt, by simp [Col.len, ar0], by simp [Col.at, ar0, List.getD, hlt], fun i hi => by simp [Col.at, ar0, List.getD, List.getElem?_set, Ne.symm hi], (fun l h => by cases h), (fun l h => by cases h)⟩
    · cases h
  · rename_i l s
    cases h
    simp only [AllP, ar0, and_true] at hv
    obtain ⟨h0, h1⟩ := hv
    simp only [Den] at hd
    subst hd
    have hlt : e.toNat < l.length := by omega
    refine ⟨h0, hlt, by simp [Col.len, ar0], by simp [Col.at, ar0, List.getD, hlt], fun i hi => by simp [Col.at, ar0, List.getD, List.getElem?_set, Ne.symm hi], (fun l h => by cases h), (fun l h => by cases h)⟩
  · cases h
theorem colsPut_sound {ρ : List Nat} {n : Nat} {cols cols' : List Col} {cs : List Value} {j : Nat} {e : Int} {sv : SV} {v : Value} {vc : List Prop}
    (ha : ArrOK n cols cs) (h : colsPut ar0 cols j e sv = some (cols', vc)) (hd : Den ρ sv v) (hv : AllP vc) :
    cols'.length = cols.length ∧ e.toNat * cols.length + j < cs.length ∧ j < cols.length ∧ ArrOK n cols' (cs.set (e.toNat * cols.length + j) v) := by
  unfold colsPut at h
  split at h
  · rename_i c hc
    split at h
    · rename_i c' vc' hput
      cases h
      obtain ⟨h0, h1, h2, h3, h4, h5, h6⟩ := col_put_sound hput hd hv
      have hj := (List.getElem?_eq_some_iff.1 hc).1
      have hcell := ha.cell _ _ _ hc h1
      have hlt := (List.getElem?_eq_some_iff.1 hcell).1
      refine ⟨by simp, hlt, hj, ?_⟩
      refine { size := by simpa using ha.size, le := ?_, cell := ?_, flat := ?_ }
      · intro x hx
        obtain ⟨i, hi⟩ := List.getElem?_of_mem hx
        by_cases e : j = i
        · subst e
          rw [List.getElem?_set_self hj] at hi
          cases hi
          rw [h2]
          exact ha.le _ (List.mem_of_getElem? hc)
        · rw [List.getElem?_set_ne e] at hi
          exact ha.le _ (List.mem_of_getElem? hi)
      · intro i k x hx hi
        simp only [List.length_set]
        by_cases e1 : j = k
        · subst e1
          rw [List.getElem?_set_self hj] at hx
          cases hx
          by_cases e2 : i = e.toNat
          · subst e2
            rw [List.getElem?_set_self hlt, h3]
          · rw [List.getElem?_set_ne (by
              intro heq
              have : i * cols.length = e.toNat * cols.length := by omega
              exact e2 (Nat.eq_of_mul_eq_mul_right (by omega) this))]
            rw [h4 i e2]
            exact ha.cell _ _ _ hc (by rw [← h2]; exact hi)
        · rw [List.getElem?_set_ne e1] at hx
          have hk := (List.getElem?_eq_some_iff.1 hx).1
          rw [List.getElem?_set_ne (by
            intro heq
            have e3 : (e.toNat * cols.length + j) % cols.length = (i * cols.length + k) % cols.length := by rw [heq]
            rw [Nat.mul_comm e.toNat, Nat.mul_comm i, Nat.mul_add_mod, Nat.mul_add_mod, Nat.mod_eq_of_lt hj, Nat.mod_eq_of_lt hk] at e3
            exact e1 e3)]
          exact ha.cell _ _ _ hx hi
      · intro u hu
        rcases List.mem_or_eq_of_mem_set hu with h | h
        · exact ha.flat u h
        · subst h; exact ⟨h5, h6⟩
    · cases h
  · cases h
theorem segPut_sound {ρ : List Nat} {sv : SV} {v : Value} (hd : Den ρ sv v) : ∀ {segs segs' : List Seg} {cs : List Value} {o : Off} {vc : List Prop},
    SegsOK ρ segs cs → segPut ar0 segs o sv = some (segs', vc) → AllP vc → o.val < cs.length ∧ SegsOK ρ segs' (cs.set o.val v)
  | [], segs', cs, o, vc, hs, h, hv => by simp [segPut] at h
  | .one u :: s, segs', cs, o, vc, hs, h, hv => by
    simp only [SegsOK] at hs
    obtain ⟨c, cs', rfl, hc, hs⟩ := hs
    match o, h with
    | .l 0, h =>
      simp only [segPut, Option.some.injEq, Prod.mk.injEq] at h
      obtain ⟨rfl, rfl⟩ := h
      refine ⟨by simp [Off.val], ?_⟩
      simp only [Off.val, List.set_cons_zero, SegsOK]
      exact ⟨v, cs', rfl, hd, hs⟩
    | .l (b + 1), h =>
      simp only [segPut] at h
      split at h
      · rename_i s' vc' hp
        cases h
        obtain ⟨h1, h2⟩ := segPut_sound hd hs hp hv
        simp only [Off.val] at h1 h2 ⊢
        refine ⟨by simpa using h1, ?_⟩
        simp only [List.set_cons_succ, SegsOK]
        exact ⟨c, _, rfl, hc, h2⟩
      · cases h
    | .x 0 _ _ _, h => simp [segPut] at h
    | .x (b + 1) sz e sub, h =>
      simp only [segPut] at h
      split at h
      · rename_i s' vc' hp
        cases h
        obtain ⟨h1, h2⟩ := segPut_sound hd hs hp hv
        simp only [Off.val] at h1 h2 ⊢
        rw [show b + 1 + e.toNat * sz + sub = (b + e.toNat * sz + sub) + 1 by omega]
        refine ⟨by simpa using h1, ?_⟩
        simp only [List.set_cons_succ, SegsOK]
        exact ⟨c, _, rfl, hc, h2⟩
      · cases h
  | .arr n cols :: s, segs', cs, o, vc, hs, h, hv => by
    simp only [SegsOK] at hs
    obtain ⟨a, b', rfl, ha, hs⟩ := hs
    have hsz := ha.size
    have fin : ∀ {cols' : List Col} {vc' : List Prop} {j : Nat} {e : Int}, colsPut ar0 cols j e sv = some (cols', vc') → AllP vc' → o.val = e.toNat * cols.length + j →
        o.val < (a ++ b').length ∧ SegsOK ρ (.arr n cols' :: s) ((a ++ b').set o.val v) := fun {cols' vc' j e} hp hv ho => by
      obtain ⟨h1, h2, h3, h4⟩ := colsPut_sound ha hp hd hv
      rw [ho]
      refine ⟨by rw [List.length_append]; omega, ?_⟩
      rw [List.set_append_left _ _ h2]
      simp only [SegsOK]
      exact ⟨_, b', rfl, h4, hs⟩
    have skip : ∀ {s' : List Seg} {vc' : List Prop} {o' : Off}, segPut ar0 s o' sv = some (s', vc') → AllP vc' → o.val = n.val.toNat * cols.length + o'.val →
        o.val < (a ++ b').length ∧ SegsOK ρ (.arr n cols :: s') ((a ++ b').set o.val v) := fun {s' vc' o'} hp hv ho => by
      obtain ⟨h1, h2⟩ := segPut_sound hd hs hp hv
      refine ⟨by rw [List.length_append]; omega, ?_⟩
      rw [List.set_append_right _ _ (by omega)]
      simp only [SegsOK]
      refine ⟨a, _, rfl, ha, ?_⟩
      rw [show o.val - a.length = o'.val by omega]
      exact h2
    match o, h with
    | .l b, h =>
      simp only [segPut] at h
      split at h
      · cases h
      · rename_i c hc
        have hdiv : b / (c + 1) * (c + 1) + b % (c + 1) = b := by have := Nat.div_add_mod b (c + 1); rw [Nat.mul_comm] at this; exact this
        cases n with
        | l k =>
          simp only at h
          split at h
          · split at h
            · rename_i cols' vc' hp
              cases h
              exact fin hp hv (by rw [Int.toNat_natCast, hc, hdiv]; rfl)
            · cases h
          · rename_i hge
            split at h
            · rename_i s' vc' hp
              cases h
              exact skip hp hv (by rw [hc]; simp only [Off.val, Z.val]; exact (Nat.add_sub_cancel' (Nat.le_of_not_lt hge)).symm)
            · cases h
        | x k =>
          simp only at h
          split at h
          · rename_i cols' vc' hp
            cases h
            exact fin hp hv (by rw [Int.toNat_natCast, hc, hdiv]; rfl)
          · cases h
    | .x b sz e sub, h =>
      simp only [segPut] at h
      cases n with
      | l k =>
        simp only at h
        split at h
        · rename_i hge
          split at h
          · rename_i s' vc' hp
            cases h
            exact skip hp hv (by rw [zl]; simp only [Off.val]; omega)
          · cases h
        · split at h
          · rename_i hcond
            obtain ⟨rfl, rfl, hsub⟩ := hcond
            split at h
            · rename_i cols' vc' hp
              cases h
              exact fin hp hv (by simp [Off.val])
            · cases h
          · cases h
      | x k =>
        simp only at h
        split at h
        · rename_i hcond
          obtain ⟨rfl, rfl, hsub⟩ := hcond
          split at h
          · rename_i cols' vc' hp
            cases h
            exact fin hp hv (by simp [Off.val])
          · cases h
        · cases h
end Go.Eng
set_option linter.unusedSimpArgs false
set_option linter.unusedSectionVars false
namespace Go.Eng
variable [CW : CWorld]
variable (ar : AR)
def vcs : List Prop → Prop → Prop
  | [], q => q
  | p :: l, q => p ∧ vcs l q
theorem vcs_iff {l : List Prop} {q : Prop} : vcs l q ↔ AllP l ∧ q := by
  induction l with
  | nil => simp [vcs, AllP]
  | cons p l ih => simp [vcs, AllP, ih, and_assoc]
def segPutN : List Seg → Off → List SV → Option (List Seg × List Prop)
  | s, _, [] => some (s, [])
  | s, o, v :: vs =>
    if v.cell then
      match segPut ar s o v with
      | some (s', p) => match segPutN s' o.succ vs with
        | some (s'', q) => some (s'', p ++ q)
        | none => none
      | none => none
    else none
theorem segPutN_sound {ρ : List Nat} : ∀ {l : List SV} {vs : List Value} {segs segs' : List Seg} {cs : List Value} {o : Off} {vc : List Prop},
    DenL ρ l vs → SegsOK ρ segs cs → segPutN ar0 segs o l = some (segs', vc) → AllP vc →
      (l = [] ∨ o.val + vs.length ≤ cs.length) ∧ SegsOK ρ segs' (overL cs o.val vs) ∧ ∀ v ∈ vs, v.oneCell' = true
  | [], vs, segs, segs', cs, o, vc, hd, hs, h, hv => by
    simp only [DenL] at hd
    subst hd
    simp only [segPutN, Option.some.injEq, Prod.mk.injEq] at h
    obtain ⟨rfl, rfl⟩ := h
    exact ⟨.inl rfl, hs, by simp⟩
  | a :: l, vs, segs, segs', cs, o, vc, hd, hs, h, hv => by
    simp only [DenL] at hd
    obtain ⟨v, vs', rfl, hdv, hdl⟩ := hd
    simp only [segPutN] at h
    split at h
    · rename_i hcell
      split at h
      · rename_i s1 p hp
        split at h
        · rename_i s2 q hq
          cases h
          obtain ⟨v1, v2⟩ := allP_append.1 hv
          obtain ⟨h1, h2⟩ := segPut_sound hdv hs hp v1
          obtain ⟨h3, h4, h5⟩ := segPutN_sound hdl h2 hq v2
          rw [Off.val_succ] at h3 h4
          refine ⟨.inr ?_, by rw [overL]; exact h4, ?_⟩
          · rcases h3 with h3 | h3
            · subst h3; simp only [DenL] at hdl; subst hdl; simp only [List.length_cons, List.length_nil]; omega
            · simp only [List.length_set] at h3; simp only [List.length_cons]; omega
          · intro u hu
            rcases List.mem_cons.1 hu with h | h
            · subst h; exact (den_cell hcell hdv).1
            · exact h5 u h
        · cases h
      · cases h
    · cases h
structure Touch (ρ : List Nat) (hp : List Blk) (T : List Nat) (w : World) (hp' : List Blk) (w' : World) : Prop where
  keep : ∀ n : Nat, n ∉ T → n < hp.length → hp'[n]? = hp[n]?
  heap : ∀ (n b : Nat) (x : Blk), n ∉ T → hp[n]? = some x → x.there → ρ[n]? = some b → w'.heap[b]? = w.heap[b]?
theorem Touch.refl {ρ : List Nat} {hp : List Blk} {T : List Nat} {w : World} : Touch ρ hp T w hp w := ⟨fun _ _ _ => rfl, fun _ _ _ _ _ _ _ => rfl⟩
theorem Touch.push {ρ : List Nat} {hp : List Blk} {T : List Nat} {w : World} (H : HOK ρ hp w) {o : Obj} {b : Blk} : Touch ρ hp T w (hp ++ [b]) { w with heap := w.heap.push o } :=
  ⟨fun n _ hn => List.getElem?_append_left hn, fun n b x _ hx gx hb => by
    cases x with
    | gone => exact gx.elim
    | mk t s => simp [Array.getElem?_push, Nat.ne_of_lt (H.lt hx gx hb)]⟩
theorem Touch.over {ρ : List Nat} {hp : List Blk} {w : World} (H : HOK ρ hp w) {n b : Nat} {t : TypeId} {s : List Seg} {o : Obj} {x : Blk} (hi : hp[n]? = some (.mk t s)) (hne : segsSize s ≠ 0) (h : ρ[n]? = some b) :
    Touch ρ hp [n] w (hp.set n x) { w with heap := w.heap.setIfInBounds b o } :=
  ⟨fun m hm _ => List.getElem?_set_ne (fun e => hm (by simp [e])), fun m c y hm hy gy hc => by
    have : b ≠ c := fun e => by
      subst e
      exact hm (by simp [H.inj n m b _ _ hi hy hne gy h hc])
    simp [Array.getElem?_setIfInBounds, this]⟩
def segsLen : List Seg → Option Nat
  | [] => some 0
  | .one _ :: s => (segsLen s).map (· + 1)
  | .arr (.l n) cols :: s => (segsLen s).map (· + n.toNat * cols.length)
  | .arr (.x _) _ :: _ => none
theorem segsLen_sound {ρ : List Nat} : ∀ {segs : List Seg} {cs : List Value} {k : Nat}, SegsOK ρ segs cs → segsLen segs = some k → cs.length = k
  | [], cs, k, hs, h => by
    simp only [SegsOK] at hs
    simp only [segsLen, Option.some.injEq] at h
    subst hs h
    rfl
  | .one v :: s, cs, k, hs, h => by
    simp only [SegsOK] at hs
    obtain ⟨c, cs', rfl, _, hs⟩ := hs
    simp only [segsLen, Option.map_eq_some_iff] at h
    obtain ⟨m, hm, rfl⟩ := h
    simp [segsLen_sound hs hm]
  | .arr (.l n) cols :: s, cs, k, hs, h => by
    simp only [SegsOK] at hs
    obtain ⟨a, b, rfl, ha, hs⟩ := hs
    simp only [segsLen, Option.map_eq_some_iff] at h
    obtain ⟨m, hm, rfl⟩ := h
    rw [List.length_append, ha.size, segsLen_sound hs hm, Z.val]
    omega
  | .arr (.x _) _ :: _, cs, k, hs, h => by simp [segsLen] at h
theorem overL_all {α : Type} : ∀ (vs pre cs : List α), vs.length = cs.length → overL (pre ++ cs) pre.length vs = pre ++ vs
  | [], pre, cs, h => by
    have : cs = [] := List.length_eq_zero_iff.1 h.symm
    subst this
    rfl
  | v :: vs, pre, [], h => by simp at h
  | v :: vs, pre, c :: cs, h => by
    rw [overL]
    have e : (pre ++ c :: cs).set pre.length v = (pre ++ [v]) ++ cs := by
      rw [List.set_append_right _ _ (Nat.le_refl _), Nat.sub_self]
      simp
    have := overL_all vs (pre ++ [v]) cs (by simpa using h)
    rw [e, show pre.length + 1 = (pre ++ [v]).length by simp, this]
    simp
theorem segsOK_ones' {ρ : List Nat} : ∀ {l : List SV} {vs : List Value}, DenL ρ l vs → SegsOK ρ (l.map .one) vs
  | [], vs, h => by simp only [DenL] at h; subst h; rfl
  | a :: l, vs, h => by
    simp only [DenL] at h
    obtain ⟨v, vs', rfl, hv, h'⟩ := h
    simp only [List.map_cons, SegsOK]
    exact ⟨v, vs', rfl, hv, segsOK_ones' h'⟩
theorem denL_cells {ρ : List Nat} : ∀ {l : List SV} {vs : List Value}, DenL ρ l vs → l.all SV.cell = true → ∀ v ∈ vs, v.oneCell' = true
  | [], vs, h, _ => by simp only [DenL] at h; subst h; simp
  | a :: l, vs, h, hc => by
    simp only [DenL] at h
    obtain ⟨v, vs', rfl, hv, h'⟩ := h
    simp only [List.all_cons, Bool.and_eq_true] at hc
    intro u hu
    rcases List.mem_cons.1 hu with e | e
    · subst e; exact (den_cell hc.1 hv).1
    · exact denL_cells h' hc.2 u e
def segPutB (segs : List Seg) (o : Off) (l : List SV) : Option (List Seg × List Prop) :=
  match o, segsLen segs with
  | .l 0, some k =>
    match decide (k = l.length) && decide (1 < k) && l.all SV.cell with
    | true => some (l.map .one, [])
    | false => segPutN ar segs o l
  | o, _ => segPutN ar segs o l
theorem segPutB_sound {ρ : List Nat} {l : List SV} {vs : List Value} {segs segs' : List Seg} {cs : List Value} {o : Off} {vc : List Prop}
    (hd : DenL ρ l vs) (hs : SegsOK ρ segs cs) (h : segPutB ar0 segs o l = some (segs', vc)) (hv : AllP vc) :
      (l = [] ∨ o.val + vs.length ≤ cs.length) ∧ SegsOK ρ segs' (overL cs o.val vs) ∧ ∀ v ∈ vs, v.oneCell' = true := by
  unfold segPutB at h
  split at h
  · rename_i k hk
    split at h
    · rename_i hc
      simp only [Bool.and_eq_true, decide_eq_true_eq] at hc
      obtain ⟨⟨h1, h2⟩, h3⟩ := hc
      cases h
      have hlen := segsLen_sound hs hk
      have hl := denL_length hd
      refine ⟨.inr (by simp only [Off.val]; omega), ?_, denL_cells hd h3⟩
      have := overL_all vs [] cs (by omega)
      simp only [List.nil_append, List.length_nil] at this
      rw [Off.val, this]
      exact segsOK_ones' hd
    · exact segPutN_sound hd hs h hv
  · exact segPutN_sound hd hs h hv
def EffOK (P : Program) (ρ : List Nat) (hp : List Blk) (w : World) (o : Oper) (e : Operand → Value) (K : SV → List Blk → List Nat → Prop) : Prop :=
  ∃ (n : Next) (v : Value) (w' : World) (ρ' : List Nat) (sv : SV) (hp' : List Blk) (T : List Nat),
    (execOp e o).run P w = .ok n w' ∧ (n = .value v ∨ (n = .skip ∧ v = undef)) ∧ Den ρ' sv v ∧ Since ρ hp w ρ' hp' w' ∧ Touch ρ hp T w hp' w' ∧ K sv hp' T
def eStore (P : Program) (hp : List Blk) (t : TypeId) (a x : SV) (K : SV → List Blk → List Nat → Prop) : Prop :=
  match a with
  | .ptr n o =>
    match hp[n]?, cellsSV x, szOf P t with
    | some (.mk bt segs), some l, some sz =>
      match decide (l.length = sz), segPutB ar segs o l with
      | true, some (segs', vc) => vcs vc (K .any (hp.set n (.mk bt segs')) [n])
      | _, _ => False
    | _, _, _ => False
  | _ => False
theorem eStore_sound {P : Program} {ρ : List Nat} {hp : List Blk} {w : World} (H : HOK ρ hp w) {o : Oper} {e : Operand → Value} {t : TypeId} {oa ox : Operand} (ho : o.op = .store t oa ox)
    {a x : SV} (ha : Den ρ a (e oa)) (hx : Den ρ x (e ox)) {K : SV → List Blk → List Nat → Prop} (h : eStore ar0 P hp t a x K) : EffOK P ρ hp w o e K := by
  unfold eStore at h
  split at h
  · rename_i n off
    split at h
    · rename_i bt segs l sz hb hl hsz
      split at h
      · rename_i segs' vc hlen hput
        obtain ⟨hv, hK⟩ := vcs_iff.1 h
        simp only [Den] at ha
        obtain ⟨b, hbn, hea⟩ := ha
        obtain ⟨cs, fz, hpres, hs⟩ := blk_cells H hb hbn
        have hcells := cellsSV_sound hl hx
        obtain ⟨h1, h2, h3⟩ := segPutB_sound hcells hs hput hv
        have hlen' := denL_length hcells
        have hsz' : (e ox).cells.size = sz := by rw [← Array.length_toList, hlen']; exact of_decide_eq_true hlen
        have hrun0 : (storeVar t ⟨b, off.val, none⟩ (e ox)).run P w = (storeCells ⟨b, off.val, none⟩ (e ox).cells.toList).run P w := by
          simp [storeVar, run_sizeOf hsz, hsz']
        by_cases hnil : (e ox).cells.toList = []
        · have hl0 : l = [] := by
            have := hlen'
            rw [hnil] at this
            exact List.length_eq_zero_iff.1 this.symm
          subst hl0
          have hput' : segPutN ar0 segs off [] = some (segs', vc) := by
            unfold segPutB at hput
            split at hput
            · split at hput
              · rename_i hc
                simp at hc
                omega
              · exact hput
            · exact hput
          simp only [segPutN, Option.some.injEq, Prod.mk.injEq] at hput'
          obtain ⟨rfl, rfl⟩ := hput'
          have hsame : hp.set n (.mk bt segs) = hp := by
            apply List.ext_getElem?
            intro i
            by_cases hi : n = i
            · subst hi; rw [List.getElem?_set_self (List.getElem?_eq_some_iff.1 hb).1, hb]
            · rw [List.getElem?_set_ne hi]
          refine ⟨.skip, undef, w, ρ, .any, _, _, ?_, .inr ⟨rfl, rfl⟩, trivial, ?_, by rw [hsame]; exact Touch.refl, hK⟩
          · simp only [execOp, ho, Instr.storeAt, hea, Instr.sureAddr, Sem.run_bind, Sem.run_pure, Result.andThen_ok, hrun0, hnil, storeCells]
          · have : hp.set n (.mk bt segs) = hp := by
              apply List.ext_getElem?
              intro i
              by_cases hi : n = i
              · subst hi; rw [List.getElem?_set_self (List.getElem?_eq_some_iff.1 hb).1, hb]
              · rw [List.getElem?_set_ne hi]
            rw [this]
            exact Since.refl H
        · have hle : off.val + (e ox).cells.toList.length ≤ cs.size := by
            rcases h1 with h1 | h1
            · subst h1; simp only [DenL] at hcells; exact absurd hcells hnil
            · simpa using h1
          have hcs : cs.size ≠ 0 := fun h0 => hnil (List.length_eq_zero_iff.1 (by omega))
          obtain ⟨hheap, hfree⟩ := hpres hcs
          have hne : segsSize segs ≠ 0 := by rw [← segsOK_size hs]; simpa using hcs
          have hrun := run_storeCells (P := P) (off := off.val) (e ox).cells.toList 0 w cs hheap hfree (by simpa using hle) h3
          rw [if_neg hnil, Nat.add_zero] at hrun
          refine ⟨.skip, undef, _, ρ, .any, _, _, ?_, .inr ⟨rfl, rfl⟩, trivial, Since.over H hb hne hbn (cs' := (overL cs.toList off.val (e ox).cells.toList).toArray) (fz := fz) ?_ ?_, Touch.over H hb hne hbn, hK⟩
          · simp only [execOp, ho, Instr.storeAt, hea, Instr.sureAddr, Sem.run_bind, Sem.run_pure, Result.andThen_ok, hrun0, hrun]
          · simpa [length_overL] using hfree
          · simpa using h2
      · exact h.elim
    · exact h.elim
  · exact h.elim
theorem segsOK_ones {ρ : List Nat} : ∀ {l : List SV} {vs : List Value}, DenL ρ l vs → SegsOK ρ (l.map .one) vs
  | [], vs, h => by simp only [DenL] at h; subst h; rfl
  | a :: l, vs, h => by
    simp only [DenL] at h
    obtain ⟨v, vs', rfl, hv, h'⟩ := h
    simp only [List.map_cons, SegsOK]
    exact ⟨v, vs', rfl, hv, segsOK_ones h'⟩
theorem free_zero (n : Nat) : Free (0, 0) n := fun i _ h => by omega
theorem Since.newRow {ρ : List Nat} {hp : List Blk} {w : World} (H : HOK ρ hp w) (t : TypeId) (cs : Array Value) (segs : List Seg) (hs : SegsOK ρ segs cs.toList) :
    Since ρ hp w (ρ ++ [w.heap.size]) (hp ++ [.mk t segs]) { w with heap := w.heap.push (.cells cs t) } :=
  Since.push H _ _ fun _ h => ⟨cs, (0, 0), fun _ => ⟨h, free_zero _⟩, hs.mono _⟩
def eAlloc (P : Program) (hp : List Blk) (t : TypeId) (K : SV → List Blk → List Nat → Prop) : Prop :=
  match zeroCs P t with
  | some z => K (.ptr hp.length (.l 0)) (hp ++ [.mk t (z.map .one)]) []
  | none => False
theorem den_new {ρ : List Nat} {hp : List Blk} {w : World} (H : HOK ρ hp w) : Den (ρ ++ [w.heap.size]) (.ptr hp.length (.l 0)) (.pointer (some ⟨w.heap.size, 0, none⟩)) := by
  simp only [Den, Off.val]
  exact ⟨w.heap.size, by rw [← H.len]; simp, rfl⟩
theorem eAlloc_sound {P : Program} {ρ : List Nat} {hp : List Blk} {w : World} (H : HOK ρ hp w) {o : Oper} {e : Operand → Value} {t : TypeId} (ho : o.op = .alloc t)
    {K : SV → List Blk → List Nat → Prop} (h : eAlloc P hp t K) : EffOK P ρ hp w o e K := by
  unfold eAlloc at h
  split at h
  · rename_i z hz
    obtain ⟨zv, hzr, hzd⟩ := zeroCs_sound hz ρ
    refine ⟨_, .pointer (some ⟨w.heap.size, 0, none⟩), _, _, _, _, _, ?_, .inl rfl, den_new H, Since.newRow H t zv.cells _ (segsOK_ones hzd), Touch.push H, h⟩
    simp [execOp, ho, Instr.alloc, hzr, newVar, newRow]
  · exact h.elim
def eBox (hp : List Blk) (t : TypeId) (x : SV) (K : SV → List Blk → List Nat → Prop) : Prop :=
  match cellsSV x with
  | some l => K (.ptr hp.length (.l 0)) (hp ++ [.mk t (l.map .one)]) []
  | none => False
theorem eBox_sound {P : Program} {ρ : List Nat} {hp : List Blk} {w : World} (H : HOK ρ hp w) {o : Oper} {e : Operand → Value} {t : TypeId} {ox : Operand} (ho : o.op = .box t ox)
    {x : SV} (hx : Den ρ x (e ox)) {K : SV → List Blk → List Nat → Prop} (h : eBox hp t x K) : EffOK P ρ hp w o e K := by
  unfold eBox at h
  split at h
  · rename_i l hl
    refine ⟨_, .pointer (some ⟨w.heap.size, 0, none⟩), _, _, _, _, _, ?_, .inl rfl, den_new H, Since.newRow H t (e ox).cells _ (segsOK_ones (cellsSV_sound hl hx)), Touch.push H, h⟩
    simp [execOp, ho, Instr.box, newVar, newRow]
  · exact h.elim
def eMakeMap (hp : List Blk) (K : SV → List Blk → List Nat → Prop) : Prop := K (.map hp.length) (hp ++ [.gone]) []
theorem eMakeMap_sound {P : Program} {ρ : List Nat} {hp : List Blk} {w : World} (H : HOK ρ hp w) {o : Oper} {e : Operand → Value} {t : TypeId} (ho : o.op = .makeMap t none)
    {K : SV → List Blk → List Nat → Prop} (h : eMakeMap hp K) : EffOK P ρ hp w o e K := by
  unfold eMakeMap at h
  refine ⟨_, .map (some w.heap.size), _, _, _, _, _, ?_, .inl rfl, ?_, Since.push H (.map #[] 0) .gone (fun _ _ => trivial), Touch.push H, h⟩
  · simp [execOp, ho, Instr.makeMap, newObj, Sem.run, Result.andThen]
  · simp only [Den]
    exact ⟨w.heap.size, by rw [← H.len]; simp, rfl⟩
def onesInts (k : IntKind) : Nat → List Seg → Option (List Int × List Seg)
  | 0, s => some ([], s)
  | n + 1, .one (.int k' z) :: s => if k' = k then
      match onesInts k n s with
      | some (l, r) => some (z.val :: l, r)
      | none => none
    else none
  | _ + 1, _ => none
theorem onesInts_sound {ρ : List Nat} {k : IntKind} : ∀ {n : Nat} {s s' : List Seg} {l : List Int} {cs : List Value}, onesInts k n s = some (l, s') → SegsOK ρ s cs →
    l.length = n ∧ ∃ cs', cs = l.map (Value.int k) ++ cs' ∧ SegsOK ρ s' cs'
  | 0, s, s', l, cs, h, hs => by
    simp only [onesInts, Option.some.injEq, Prod.mk.injEq] at h
    obtain ⟨rfl, rfl⟩ := h
    exact ⟨rfl, cs, rfl, hs⟩
  | n + 1, [], s', l, cs, h, hs => by simp [onesInts] at h
  | n + 1, .arr _ _ :: _, s', l, cs, h, hs => by simp [onesInts] at h
  | n + 1, .one a :: s, s', l, cs, h, hs => by
    cases a
    case int k' z =>
      simp only [onesInts] at h
      split at h
      · rename_i hk
        subst hk
        split at h
        · rename_i l1 r1 h1
          cases h
          simp only [SegsOK] at hs
          obtain ⟨c, cs', rfl, hc, hs⟩ := hs
          obtain ⟨h2, cs'', rfl, h3⟩ := onesInts_sound h1 hs
          simp only [Den] at hc
          subst hc
          exact ⟨by simp [h2], cs'', by simp, h3⟩
        · cases h
      · cases h
    all_goals simp [onesInts] at h
def eqZ : Z → Z → Option (List Prop)
  | .l a, .l b => if a = b then some [] else none
  | a, b => some [a.val = b.val]
def eqOff : Off → Off → Option (List Prop)
  | .l a, .l b => if a = b then some [] else none
  | a, b => some [a.val = b.val]
def eqB : BB → BB → Option (List Prop)
  | .l a, .l b => if a = b then some [] else none
  | a, b => some [a.prop ↔ b.prop]
theorem eqZ_sound {a b : Z} {p : List Prop} (h : eqZ a b = some p) (hv : AllP p) : a.val = b.val := by
  unfold eqZ at h
  split at h
  · split at h
    · rename_i e; subst e; rfl
    · cases h
  · cases h; exact hv.1
theorem eqOff_sound {a b : Off} {p : List Prop} (h : eqOff a b = some p) (hv : AllP p) : a.val = b.val := by
  unfold eqOff at h
  split at h
  · split at h
    · rename_i e; subst e; rfl
    · cases h
  · cases h; exact hv.1
theorem eqB_sound {a b : BB} {p : List Prop} (h : eqB a b = some p) (hv : AllP p) : a.prop ↔ b.prop := by
  unfold eqB at h
  split at h
  · split at h
    · rename_i e; subst e; exact Iff.rfl
    · cases h
  · cases h; exact hv.1
end Go.Eng

