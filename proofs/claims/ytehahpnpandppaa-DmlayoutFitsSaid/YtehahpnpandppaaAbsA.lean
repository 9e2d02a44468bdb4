/- THE ABSTRACT MACHINE, part A: abstract heaps and frames, what an operation does to them, and how they stand to the model's worlds. -/
import Derived.WalkKit
import Derived.Deep.AppendSrc
import Derived.Orders
import Derived.DeepKeys4
import Derived.IntWalk
set_option linter.unusedVariables false
set_option linter.unusedSimpArgs false
namespace Go.Abs
open Go

/-! ## Types, as far as the abstract machine looks at them -/
inductive AKind where
  | int (k : IntKind) | bool | string | slice (e : TypeId) | array (n : Nat) (e : TypeId) | struct (fields : List (Nat × TypeId))
  | pointer (e : TypeId) | map (k e : TypeId) | other

structure ATy where
  k : AKind
  size : Nat
  bytes : Nat
  zero : Option Value

def akind : TypeDesc → AKind
  | .int k => .int k
  | .bool => .bool
  | .string => .string
  | .slice e => .slice e
  | .array n e => .array n e
  | .struct fs => .struct (fs.toList.map fun f => (f.offset, f.type))
  | .pointer e => .pointer e
  | .map k e => .map k e
  | _ => .other

def ty (P : Program) (t : TypeId) : Option ATy :=
  match P.underlying t, P.info? t with
  | some d, some i => some ⟨akind d, i.size, i.bytes, i.zero⟩
  | _, _ => none

def tk (P : Program) (t : TypeId) : Option AKind := match ty P t with | some T => some T.k | none => none
def tsz (P : Program) (t : TypeId) : Option Nat := match ty P t with | some T => some T.size | none => none

def ATy.agg (T : ATy) : Bool := match T.k with | .struct _ | .array .. => true | _ => false

/-! ## Where an abstract block lies -/
structure Pl where
  g : Nat
  o : Nat
  room : Nat
  sz : Nat
abbrev BMap := Nat → Option Pl

/-- An abstract value and the model's value that it stands for. -/
inductive RV (φ : BMap) : Value → Value → Prop
  | bool (b) : RV φ (.bool b) (.bool b)
  | int (k n) : RV φ (.int k n) (.int k n)
  | string (s) : RV φ (.string s) (.string s)
  | nilptr : RV φ (.pointer none) (.pointer none)
  | ptr {b off p} (h : φ b = some p) : RV φ (.pointer (some ⟨b, off, none⟩)) (.pointer (some ⟨p.g, p.o + off, none⟩))
  | nilslice : RV φ (.slice none 0 0) (.slice none 0 0)
  | slice {b off p len c c'} (h : φ b = some p) (hl : len ≤ c) (hc : c ≤ c') (hr : c' = c ∨ off + c' * p.sz ≤ p.room) :
      RV φ (.slice (some ⟨b, off, none⟩) len c) (.slice (some ⟨p.g, p.o + off, none⟩) len c')
  | nilmap : RV φ (.map none) (.map none)
  | map {b p} (h : φ b = some p) : RV φ (.map (some b)) (.map (some p.g))
  | nilFunc : RV φ .nilFunc .nilFunc
  | nilIface : RV φ .nilIface .nilIface
  | func {f : FuncId} {xs xs' ys ys' : Array Value} (hx : xs.size = xs'.size) (h : ∀ (i : Nat) (v v' : Value), xs[i]? = some v → xs'[i]? = some v' → RV φ v v')
      (hy : ys.size = ys'.size) (h' : ∀ (i : Nat) (v v' : Value), ys[i]? = some v → ys'[i]? = some v' → RV φ v v') : RV φ (.func (.func f) xs ys) (.func (.func f) xs' ys')
  | agg {xs xs' : Array Value} (hx : xs.size = xs'.size) (h : ∀ (i : Nat) (v v' : Value), xs[i]? = some v → xs'[i]? = some v' → RV φ v v')
      (ho : ∀ (i : Nat) (v : Value), xs[i]? = some v → v.oneCell' = true) : RV φ (.agg xs) (.agg xs')
  | tuple {xs xs' : Array Value} (hx : xs.size = xs'.size) (h : ∀ (i : Nat) (v v' : Value), xs[i]? = some v → xs'[i]? = some v' → RV φ v v') : RV φ (.tuple xs) (.tuple xs')

/-- More blocks are placed; none has moved. -/
def Ext (φ φ' : BMap) : Prop := ∀ b p, φ b = some p → φ' b = some p
theorem Ext.refl (φ : BMap) : Ext φ φ := fun _ _ h => h
theorem Ext.trans {φ φ' φ'' : BMap} (h : Ext φ φ') (h' : Ext φ' φ'') : Ext φ φ'' := fun b p hb => h' b p (h b p hb)

theorem RV.ext {φ φ' : BMap} (hφ : Ext φ φ') {v v' : Value} (h : RV φ v v') : RV φ' v v' := by
  induction h with
  | ptr h => exact .ptr (hφ _ _ h)
  | slice h hl hc hr => exact .slice (hφ _ _ h) hl hc hr
  | map h => exact .map (hφ _ _ h)
  | func hx _ hy _ ih ih' => exact .func hx ih hy ih'
  | agg hx _ ho ih => exact .agg hx ih ho
  | tuple hx _ ih => exact .tuple hx ih
  | bool => exact .bool _
  | int => exact .int _ _
  | string => exact .string _
  | nilptr => exact .nilptr
  | nilslice => exact .nilslice
  | nilmap => exact .nilmap
  | nilFunc => exact .nilFunc
  | nilIface => exact .nilIface

/-- Lists of values, one by one. -/
def RVs (φ : BMap) (xs xs' : List Value) : Prop := xs.length = xs'.length ∧ ∀ (i : Nat) (v v' : Value), xs[i]? = some v → xs'[i]? = some v' → RV φ v v'
theorem RVs.ext {φ φ' : BMap} (hφ : Ext φ φ') {xs xs' : List Value} (h : RVs φ xs xs') : RVs φ' xs xs' := ⟨h.1, fun i v v' a b => (h.2 i v v' a b).ext hφ⟩
theorem RVs.nil (φ : BMap) : RVs φ [] [] := ⟨rfl, fun i v v' h => by simp at h⟩
theorem RVs.cons {φ : BMap} {x x' : Value} {xs xs' : List Value} (h : RV φ x x') (hs : RVs φ xs xs') : RVs φ (x :: xs) (x' :: xs') := by
  refine ⟨by simp [hs.1], fun i v v' a b => ?_⟩
  cases i with
  | zero => simp at a b; subst a; subst b; exact h
  | succ i => exact hs.2 i v v' (by simpa using a) (by simpa using b)
theorem RVs.get {φ : BMap} {xs xs' : List Value} (h : RVs φ xs xs') {i : Nat} {v : Value} (hv : xs[i]? = some v) : ∃ v', xs'[i]? = some v' ∧ RV φ v v' := by
  have hi : i < xs.length := (List.getElem?_eq_some_iff.1 hv).1
  have hi' : i < xs'.length := h.1 ▸ hi
  exact ⟨xs'[i], List.getElem?_eq_getElem hi', h.2 i v _ hv (List.getElem?_eq_getElem hi')⟩
theorem RVs.append {φ : BMap} {xs xs' ys ys' : List Value} (h : RVs φ xs xs') (k : RVs φ ys ys') : RVs φ (xs ++ ys) (xs' ++ ys') := by
  refine ⟨by simp [h.1, k.1], fun i v v' a b => ?_⟩
  by_cases hi : i < xs.length
  · rw [List.getElem?_append_left hi] at a
    rw [List.getElem?_append_left (h.1 ▸ hi)] at b
    exact h.2 i v v' a b
  · rw [List.getElem?_append_right (by omega)] at a
    rw [List.getElem?_append_right (by have := h.1; omega), ← h.1] at b
    exact k.2 _ v v' a b
theorem RVs.take {φ : BMap} {xs xs' : List Value} (h : RVs φ xs xs') (n : Nat) : RVs φ (xs.take n) (xs'.take n) := by
  refine ⟨by simp [h.1], fun i v v' a b => ?_⟩
  rw [List.getElem?_take] at a b
  split at a
  · rename_i hi; rw [if_pos hi] at b; exact h.2 i v v' a b
  · cases a
theorem RVs.drop {φ : BMap} {xs xs' : List Value} (h : RVs φ xs xs') (n : Nat) : RVs φ (xs.drop n) (xs'.drop n) := by
  refine ⟨by simp [h.1], fun i v v' a b => ?_⟩
  rw [List.getElem?_drop] at a b
  exact h.2 _ v v' a b

def Ones (xs : List Value) : Prop := ∀ (i : Nat) (v : Value), xs[i]? = some v → v.oneCell' = true
theorem RV.agg_of {φ : BMap} {xs xs' : List Value} (h : RVs φ xs xs') (ho : Ones xs) : RV φ (.agg xs.toArray) (.agg xs'.toArray) :=
  .agg (by simpa using h.1) (fun i v v' a b => h.2 i v v' (by simpa using a) (by simpa using b)) (fun i v a => ho i v (by simpa using a))
theorem RV.tuple_of {φ : BMap} {xs xs' : List Value} (h : RVs φ xs xs') : RV φ (.tuple xs.toArray) (.tuple xs'.toArray) :=
  .tuple (by simpa using h.1) (fun i v v' a b => h.2 i v v' (by simpa using a) (by simpa using b))

/-- The cells of a value. -/
theorem RV.cells {φ : BMap} {v v' : Value} (h : RV φ v v') : RVs φ v.cells.toList v'.cells.toList := by
  cases h with
  | agg hx h _ => exact ⟨by simpa [Value.cells] using hx, fun i a b ha hb => h i a b (by simpa [Value.cells] using ha) (by simpa [Value.cells] using hb)⟩
  | _ => refine .cons ?_ (.nil φ); first | exact .bool _ | exact .int _ _ | exact .string _ | exact .nilptr | exact .nilslice | exact .nilmap | exact .nilFunc | exact .nilIface | (constructor <;> assumption)

def isTuple : Value → Bool
  | .tuple _ => true
  | _ => false
theorem RV.ones {φ : BMap} {v v' : Value} (h : RV φ v v') (ht : isTuple v = false) : Ones v.cells.toList := by
  cases h with
  | agg _ _ ho => exact fun i a ha => ho i a (by simpa [Value.cells] using ha)
  | tuple => cases ht
  | _ => exact fun i a ha => by cases i <;> simp [Value.cells] at ha; subst ha; rfl

theorem RV.oneCell {φ : BMap} {v v' : Value} (h : RV φ v v') : v'.oneCell' = v.oneCell' := by cases h <;> rfl

/-! ## Abstract heaps -/
inductive ABlk where
  | cells (cs : List Value) (e : TypeId) (rw : Bool)
  | map (k : TypeId) (m : Value → Option Value)

def ABlk.rw : ABlk → Bool
  | .cells _ _ r => r
  | .map _ _ => true

/-- Has it cells that another block's writes must not meet? -/
def ABlk.solid : ABlk → Bool
  | .cells cs _ r => r || !cs.isEmpty
  | .map _ _ => true

structure AHeap where
  next : Nat
  blk : Nat → Option ABlk

def AHeap.set (σ : AHeap) (b : Nat) (x : ABlk) : AHeap := ⟨σ.next, fun i => if i = b then some x else σ.blk i⟩
def AHeap.del (σ : AHeap) (b : Nat) : AHeap := ⟨σ.next, fun i => if i = b then none else σ.blk i⟩
def AHeap.bump (σ : AHeap) (n : Nat) : AHeap := ⟨σ.next + n, σ.blk⟩

@[simp] theorem AHeap.set_next (σ : AHeap) (b x) : (σ.set b x).next = σ.next := rfl
@[simp] theorem AHeap.del_next (σ : AHeap) (b) : (σ.del b).next = σ.next := rfl
@[simp] theorem AHeap.bump_next (σ : AHeap) (n) : (σ.bump n).next = σ.next + n := rfl
theorem AHeap.set_blk (σ : AHeap) (b x i) : (σ.set b x).blk i = if i = b then some x else σ.blk i := rfl
theorem AHeap.del_blk (σ : AHeap) (b i) : (σ.del b).blk i = if i = b then none else σ.blk i := rfl
theorem AHeap.bump_blk (σ : AHeap) (n i) : (σ.bump n).blk i = σ.blk i := rfl

/-- A key that the abstract machine takes: numbers, bools and strings, alone or side by side. -/
def plainCell : Value → Bool
  | .int .. | .bool _ | .string _ => true
  | _ => false
def plainKey : Value → Bool
  | .agg cs => cs.all plainCell
  | v => plainCell v

/-- A type whose values serve as keys and are compared as data: what the library shows of it. -/
structure KeyOk (P : Program) (k : TypeId) : Prop where
  law : WideMaps.KeyLaw P k
  eq : ∀ (w : World) (x y : Value), (keyOf P k x).isSome = true → (keyOf P k y).isSome = true → ∃ r : Bool, (Op.equal k x y).run P w = .ok r w ∧ (r = true ↔ x = y)
  guard : P.eqGuardType P.depth k = false

def BlkOk (P : Program) (φ : BMap) (w : World) (B : Nat) (p : Pl) : ABlk → Prop
  | .cells cs e rw => Ones cs ∧ (∀ (i : Nat) (v : Value), cs[i]? = some v → ∃ v', w.cell? ⟨p.g, p.o + i, none⟩ = some v' ∧ RV φ v v') ∧ tsz P e = some p.sz ∧
      (rw = true → p.o = 0 ∧ B ≤ p.g ∧ ∃ cur, w.heap[p.g]? = some (.cells cur e (0, 0)) ∧ cur.size = p.room ∧ cs.length ≤ p.room)
  | .map k m => B ≤ p.g ∧ ∃ es c, w.heap[p.g]? = some (.map es c) ∧ (∀ e ∈ es.toList, (keyOf P k e.key).isSome = true) ∧
      (∀ (i j : Nat) (x y : MapEntry), es[i]? = some x → es[j]? = some y → x.key = y.key → i = j) ∧
      (∀ e ∈ es.toList, ∃ v, m e.key = some v ∧ RV φ v e.val) ∧ (∀ key v, m key = some v → ∃ e ∈ es.toList, e.key = key)

structure RH (P : Program) (φ : BMap) (σ : AHeap) (w : World) (B : Nat) : Prop where
  base : B ≤ w.heap.size
  fresh : ∀ b, σ.next ≤ b → φ b = none
  dom : ∀ b x, σ.blk b = some x → ∃ p, φ b = some p ∧ BlkOk P φ w B p x
  inj : ∀ b c x y p q, σ.blk b = some x → σ.blk c = some y → x.rw = true → y.solid = true → φ b = some p → φ c = some q → p.g = q.g → b = c

/-- The block g is one that the abstract heap may write. -/
def Owns (φ : BMap) (σ : AHeap) (g : Nat) : Prop := ∃ b x p, σ.blk b = some x ∧ x.rw = true ∧ φ b = some p ∧ p.g = g

/-- What a run does: from one pair of heap and world to another. -/
structure Step (n0 : Nat) (φ : BMap) (σ : AHeap) (w : World) (φ' : BMap) (σ' : AHeap) (w' : World) : Prop where
  ext : Ext φ φ'
  old : ∀ b, b < n0 → φ' b = φ b
  next : σ.next ≤ σ'.next
  os : w'.os = w.os
  tape : w'.tape = w.tape
  output : w'.output = w.output
  size : w.heap.size ≤ w'.heap.size
  kept : ∀ g, g < w.heap.size → ¬ Owns φ σ g → w'.heap[g]? = w.heap[g]?
  own : ∀ g, g < w.heap.size → Owns φ' σ' g → Owns φ σ g
  dead : ∀ b, b < n0 → σ.blk b = none → σ'.blk b = none
  ro : ∀ b x, σ'.blk b = some x → x.rw = false → σ.blk b = some x

theorem Step.refl (n0 : Nat) (φ : BMap) (σ : AHeap) (w : World) : Step n0 φ σ w φ σ w :=
  ⟨.refl _, fun _ _ => rfl, Nat.le_refl _, rfl, rfl, rfl, Nat.le_refl _, fun _ _ _ => rfl, fun _ _ h => h, fun _ _ h => h, fun _ _ h _ => h⟩

theorem Step.trans {n0 n1 : Nat} {φ φ1 φ2 : BMap} {σ σ1 σ2 : AHeap} {w w1 w2 : World} (h : Step n0 φ σ w φ1 σ1 w1) (k : Step n1 φ1 σ1 w1 φ2 σ2 w2) (hn : n0 ≤ n1) :
    Step n0 φ σ w φ2 σ2 w2 where
  ext := h.ext.trans k.ext
  old b hb := (k.old b (Nat.lt_of_lt_of_le hb hn)).trans (h.old b hb)
  next := Nat.le_trans h.next k.next
  os := k.os.trans h.os
  tape := k.tape.trans h.tape
  output := k.output.trans h.output
  size := Nat.le_trans h.size k.size
  kept g hg ho := (k.kept g (Nat.lt_of_lt_of_le hg h.size) (fun o => ho (h.own g hg o))).trans (h.kept g hg ho)
  own g hg o := h.own g hg (k.own g (Nat.lt_of_lt_of_le hg h.size) o)
  dead b hb hd := k.dead b (Nat.lt_of_lt_of_le hb hn) (h.dead b hb hd)
  ro b x hx hr := h.ro b x (k.ro b x hx hr) hr

theorem Step.mono {n0 n1 : Nat} {φ φ' : BMap} {σ σ' : AHeap} {w w' : World} (h : Step n1 φ σ w φ' σ' w') (hn : n0 ≤ n1) : Step n0 φ σ w φ' σ' w' :=
  { h with old := fun b hb => h.old b (Nat.lt_of_lt_of_le hb hn), dead := fun b hb hd => h.dead b (Nat.lt_of_lt_of_le hb hn) hd }

/-! ## Abstract frames -/
abbrev Fr := List (Nat × Value)
def aget : Fr → Nat → Option Value
  | [], _ => none
  | (s, v) :: r, t => match s == t with
    | true => some v
    | false => aget r t
def aput : Fr → Nat → Value → Fr
  | [], t, v => [(t, v)]
  | (s, u) :: r, t, v => match s == t with
    | true => (s, v) :: r
    | false => (s, u) :: aput r t v
/-- The slot is forgotten. -/
def adrop : Fr → Nat → Fr
  | [], _ => []
  | (s, u) :: r, t => if s = t then adrop r t else (s, u) :: adrop r t

theorem aget_cons (s : Nat) (v : Value) (r : Fr) (t : Nat) : aget ((s, v) :: r) t = if s = t then some v else aget r t := by
  simp only [aget]
  split
  · rename_i h; rw [if_pos (by simpa using h)]
  · rename_i h; rw [if_neg (by simpa using h)]
theorem aput_cons (s : Nat) (u : Value) (r : Fr) (t : Nat) (v : Value) : aput ((s, u) :: r) t v = if s = t then (s, v) :: r else (s, u) :: aput r t v := by
  simp only [aput]
  split
  · rename_i h; rw [if_pos (by simpa using h)]
  · rename_i h; rw [if_neg (by simpa using h)]

theorem aget_aput (fr : Fr) (t : Nat) (v : Value) (s : Nat) : aget (aput fr t v) s = if t = s then some v else aget fr s := by
  induction fr with
  | nil => simp only [aput, aget_cons]
  | cons x r ih =>
    obtain ⟨a, u⟩ := x
    rw [aput_cons]
    split
    · subst a; simp only [aget_cons]; split <;> simp_all
    · simp only [aget_cons, ih]; split <;> simp_all
      intro h; subst h; contradiction
theorem aget_adrop (fr : Fr) (t s : Nat) : aget (adrop fr t) s = if t = s then none else aget fr s := by
  induction fr with
  | nil => simp [adrop, aget]
  | cons x r ih =>
    obtain ⟨a, u⟩ := x
    simp only [adrop]
    split
    · subst a; rw [ih]; simp only [aget_cons]; split <;> simp_all
    · simp only [aget_cons, ih]; split <;> simp_all
      intro h; subst h; contradiction

structure RF (φ : BMap) (N : Nat) (fr : Fr) (tmps : Array Value) : Prop where
  size : tmps.size = N
  get : ∀ t v, aget fr t = some v → ∃ v', tmps[t]? = some v' ∧ RV φ v v'

theorem RF.ext {φ φ' : BMap} (hφ : Ext φ φ') {N : Nat} {fr : Fr} {tmps : Array Value} (h : RF φ N fr tmps) : RF φ' N fr tmps :=
  ⟨h.size, fun t v hv => let ⟨v', a, b⟩ := h.get t v hv; ⟨v', a, b.ext hφ⟩⟩

theorem RF.put {φ : BMap} {N : Nat} {fr : Fr} {tmps : Array Value} (h : RF φ N fr tmps) {d : Nat} (hd : d < N) {v v' : Value} (hv : RV φ v v') :
    RF φ N (aput fr d v) (tmps.setIfInBounds d v') := by
  refine ⟨by simp [h.size], fun t u hu => ?_⟩
  rw [aget_aput] at hu
  split at hu
  · rename_i e; subst e; cases hu; exact ⟨v', by simp [h.size, hd], hv⟩
  · rename_i e; obtain ⟨u', a, b⟩ := h.get t u hu; exact ⟨u', by simpa [Array.getElem?_setIfInBounds_ne e] using a, b⟩

theorem RF.drop {φ : BMap} {N : Nat} {fr : Fr} {tmps : Array Value} (h : RF φ N fr tmps) {d : Nat} {v' : Value} :
    RF φ N (adrop fr d) (tmps.setIfInBounds d v') := by
  refine ⟨by simp [h.size], fun t u hu => ?_⟩
  rw [aget_adrop] at hu
  split at hu
  · cases hu
  · rename_i e; obtain ⟨u', a, b⟩ := h.get t u hu; exact ⟨u', by simpa [Array.getElem?_setIfInBounds_ne e] using a, b⟩

/-- Fewer slots are known. -/
theorem RF.weaken {φ : BMap} {N : Nat} {fr fr' : Fr} {tmps : Array Value} (h : RF φ N fr tmps) (hs : ∀ t v, aget fr' t = some v → aget fr t = some v) : RF φ N fr' tmps :=
  ⟨h.size, fun t v hv => h.get t v (hs t v hv)⟩

end Go.Abs
