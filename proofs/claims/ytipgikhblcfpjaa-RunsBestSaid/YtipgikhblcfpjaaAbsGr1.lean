/- A part of the proof: contracts of functions of the program, shown by walking through their code in an abstract machine. Condition: none. -/
import Derived.WalkKit
import Derived.Deep.AppendSrc
import Derived.Orders
import Derived.DeepKeys4
import Derived.IntWalk
set_option linter.unusedVariables false
set_option linter.unusedSimpArgs false
/- THE ABSTRACT MACHINE, part A: abstract heaps and frames, what an operation does to them, and how they stand to the model's worlds. -/
namespace Go.Abs
open Go

/-! ## Types, as far as the abstract machine looks at them -/
inductive AKind where
  | int (k : IntKind) | bool | string | slice (e : TypeId) | array (n : Nat) (e : TypeId) | struct (fields : List (Nat × TypeId))
  | pointer (e : TypeId) | map (k e : TypeId) | other

structure ATy where
  k : AKind
  size : Nat
  bytes : Nat
  zero : Option Value

def akind : TypeDesc → AKind
  | .int k => .int k
  | .bool => .bool
  | .string => .string
  | .slice e => .slice e
  | .array n e => .array n e
  | .struct fs => .struct (fs.toList.map fun f => (f.offset, f.type))
  | .pointer e => .pointer e
  | .map k e => .map k e
  | _ => .other

def ty (P : Program) (t : TypeId) : Option ATy :=
  match P.underlying t, P.info? t with
  | some d, some i => some ⟨akind d, i.size, i.bytes, i.zero⟩
  | _, _ => none

def tk (P : Program) (t : TypeId) : Option AKind := match ty P t with | some T => some T.k | none => none
def tsz (P : Program) (t : TypeId) : Option Nat := match ty P t with | some T => some T.size | none => none

def ATy.agg (T : ATy) : Bool := match T.k with | .struct _ | .array .. => true | _ => false

/-! ## Where an abstract block lies -/
structure Pl where
  g : Nat
  o : Nat
  room : Nat
  sz : Nat
abbrev BMap := Nat → Option Pl

/-- An abstract value and the model's value that it stands for. -/
inductive RV (φ : BMap) : Value → Value → Prop
  | bool (b) : RV φ (.bool b) (.bool b)
  | int (k n) : RV φ (.int k n) (.int k n)
  | string (s) : RV φ (.string s) (.string s)
  | nilptr : RV φ (.pointer none) (.pointer none)
  | ptr {b off p} (h : φ b = some p) : RV φ (.pointer (some ⟨b, off, none⟩)) (.pointer (some ⟨p.g, p.o + off, none⟩))
  | nilslice : RV φ (.slice none 0 0) (.slice none 0 0)
  | slice {b off p len c c'} (h : φ b = some p) (hl : len ≤ c) (hc : c ≤ c') (hr : c' = c ∨ off + c' * p.sz ≤ p.room) :
      RV φ (.slice (some ⟨b, off, none⟩) len c) (.slice (some ⟨p.g, p.o + off, none⟩) len c')
  | nilmap : RV φ (.map none) (.map none)
  | map {b p} (h : φ b = some p) : RV φ (.map (some b)) (.map (some p.g))
  | nilFunc : RV φ .nilFunc .nilFunc
  | nilIface : RV φ .nilIface .nilIface
  | func {f : FuncId} {xs xs' ys ys' : Array Value} (hx : xs.size = xs'.size) (h : ∀ (i : Nat) (v v' : Value), xs[i]? = some v → xs'[i]? = some v' → RV φ v v')
      (hy : ys.size = ys'.size) (h' : ∀ (i : Nat) (v v' : Value), ys[i]? = some v → ys'[i]? = some v' → RV φ v v') : RV φ (.func (.func f) xs ys) (.func (.func f) xs' ys')
  | yield {b p} (h : φ b = some p) : RV φ (.func (.yield b) #[] #[]) (.func (.yield p.g) #[] #[])
  | agg {xs xs' : Array Value} (hx : xs.size = xs'.size) (h : ∀ (i : Nat) (v v' : Value), xs[i]? = some v → xs'[i]? = some v' → RV φ v v')
      (ho : ∀ (i : Nat) (v : Value), xs[i]? = some v → v.oneCell' = true) : RV φ (.agg xs) (.agg xs')
  | tuple {xs xs' : Array Value} (hx : xs.size = xs'.size) (h : ∀ (i : Nat) (v v' : Value), xs[i]? = some v → xs'[i]? = some v' → RV φ v v') : RV φ (.tuple xs) (.tuple xs')

/-- More blocks are placed; none has moved. -/
def Ext (φ φ' : BMap) : Prop := ∀ b p, φ b = some p → φ' b = some p
theorem Ext.refl (φ : BMap) : Ext φ φ := fun _ _ h => h
theorem Ext.trans {φ φ' φ'' : BMap} (h : Ext φ φ') (h' : Ext φ' φ'') : Ext φ φ'' := fun b p hb => h' b p (h b p hb)

theorem RV.ext {φ φ' : BMap} (hφ : Ext φ φ') {v v' : Value} (h : RV φ v v') : RV φ' v v' := by
  induction h with
  | ptr h => exact .ptr (hφ _ _ h)
  | slice h hl hc hr => exact .slice (hφ _ _ h) hl hc hr
  | map h => exact .map (hφ _ _ h)
  | func hx _ hy _ ih ih' => exact .func hx ih hy ih'
  | yield h => exact .yield (hφ _ _ h)
  | agg hx _ ho ih => exact .agg hx ih ho
  | tuple hx _ ih => exact .tuple hx ih
  | bool => exact .bool _
  | int => exact .int _ _
  | string => exact .string _
  | nilptr => exact .nilptr
  | nilslice => exact .nilslice
  | nilmap => exact .nilmap
  | nilFunc => exact .nilFunc
  | nilIface => exact .nilIface

/-- Lists of values, one by one. -/
def RVs (φ : BMap) (xs xs' : List Value) : Prop := xs.length = xs'.length ∧ ∀ (i : Nat) (v v' : Value), xs[i]? = some v → xs'[i]? = some v' → RV φ v v'
theorem RVs.ext {φ φ' : BMap} (hφ : Ext φ φ') {xs xs' : List Value} (h : RVs φ xs xs') : RVs φ' xs xs' := ⟨h.1, fun i v v' a b => (h.2 i v v' a b).ext hφ⟩
theorem RVs.nil (φ : BMap) : RVs φ [] [] := ⟨rfl, fun i v v' h => by simp at h⟩
theorem RVs.cons {φ : BMap} {x x' : Value} {xs xs' : List Value} (h : RV φ x x') (hs : RVs φ xs xs') : RVs φ (x :: xs) (x' :: xs') := by
  refine ⟨by simp [hs.1], fun i v v' a b => ?_⟩
  cases i with
  | zero => simp at a b; subst a; subst b; exact h
  | succ i => exact hs.2 i v v' (by simpa using a) (by simpa using b)
theorem RVs.get {φ : BMap} {xs xs' : List Value} (h : RVs φ xs xs') {i : Nat} {v : Value} (hv : xs[i]? = some v) : ∃ v', xs'[i]? = some v' ∧ RV φ v v' := by
  have hi : i < xs.length := (List.getElem?_eq_some_iff.1 hv).1
  have hi' : i < xs'.length := h.1 ▸ hi
  exact ⟨xs'[i], List.getElem?_eq_getElem hi', h.2 i v _ hv (List.getElem?_eq_getElem hi')⟩
theorem RVs.append {φ : BMap} {xs xs' ys ys' : List Value} (h : RVs φ xs xs') (k : RVs φ ys ys') : RVs φ (xs ++ ys) (xs' ++ ys') := by
  refine ⟨by simp [h.1, k.1], fun i v v' a b => ?_⟩
  by_cases hi : i < xs.length
  · rw [List.getElem?_append_left hi] at a
    rw [List.getElem?_append_left (h.1 ▸ hi)] at b
    exact h.2 i v v' a b
  · rw [List.getElem?_append_right (by omega)] at a
    rw [List.getElem?_append_right (by have := h.1; omega), ← h.1] at b
    exact k.2 _ v v' a b
theorem RVs.take {φ : BMap} {xs xs' : List Value} (h : RVs φ xs xs') (n : Nat) : RVs φ (xs.take n) (xs'.take n) := by
  refine ⟨by simp [h.1], fun i v v' a b => ?_⟩
  rw [List.getElem?_take] at a b
  split at a
  · rename_i hi; rw [if_pos hi] at b; exact h.2 i v v' a b
  · cases a
theorem RVs.drop {φ : BMap} {xs xs' : List Value} (h : RVs φ xs xs') (n : Nat) : RVs φ (xs.drop n) (xs'.drop n) := by
  refine ⟨by simp [h.1], fun i v v' a b => ?_⟩
  rw [List.getElem?_drop] at a b
  exact h.2 _ v v' a b

def Ones (xs : List Value) : Prop := ∀ (i : Nat) (v : Value), xs[i]? = some v → v.oneCell' = true
theorem RV.agg_of {φ : BMap} {xs xs' : List Value} (h : RVs φ xs xs') (ho : Ones xs) : RV φ (.agg xs.toArray) (.agg xs'.toArray) :=
  .agg (by simpa using h.1) (fun i v v' a b => h.2 i v v' (by simpa using a) (by simpa using b)) (fun i v a => ho i v (by simpa using a))
theorem RV.tuple_of {φ : BMap} {xs xs' : List Value} (h : RVs φ xs xs') : RV φ (.tuple xs.toArray) (.tuple xs'.toArray) :=
  .tuple (by simpa using h.1) (fun i v v' a b => h.2 i v v' (by simpa using a) (by simpa using b))

/-- The cells of a value. -/
theorem RV.cells {φ : BMap} {v v' : Value} (h : RV φ v v') : RVs φ v.cells.toList v'.cells.toList := by
  cases h with
  | agg hx h _ => exact ⟨by simpa [Value.cells] using hx, fun i a b ha hb => h i a b (by simpa [Value.cells] using ha) (by simpa [Value.cells] using hb)⟩
  | _ => refine .cons ?_ (.nil φ); first | exact .bool _ | exact .int _ _ | exact .string _ | exact .nilptr | exact .nilslice | exact .nilmap | exact .nilFunc | exact .nilIface | (constructor <;> assumption)

def isTuple : Value → Bool
  | .tuple _ => true
  | _ => false
theorem RV.ones {φ : BMap} {v v' : Value} (h : RV φ v v') (ht : isTuple v = false) : Ones v.cells.toList := by
  cases h with
  | agg _ _ ho => exact fun i a ha => ho i a (by simpa [Value.cells] using ha)
  | tuple => cases ht
  | _ => exact fun i a ha => by cases i <;> simp [Value.cells] at ha; subst ha; rfl

theorem RV.oneCell {φ : BMap} {v v' : Value} (h : RV φ v v') : v'.oneCell' = v.oneCell' := by cases h <;> rfl

/-! ## Abstract frames -/
abbrev Fr := List (Nat × Value)
def aget : Fr → Nat → Option Value
  | [], _ => none
  | (s, v) :: r, t => match s == t with
    | true => some v
    | false => aget r t
def aput : Fr → Nat → Value → Fr
  | [], t, v => [(t, v)]
  | (s, u) :: r, t, v => match s == t with
    | true => (s, v) :: r
    | false => (s, u) :: aput r t v
/-- The slot is forgotten. -/
def adrop : Fr → Nat → Fr
  | [], _ => []
  | (s, u) :: r, t => if s = t then adrop r t else (s, u) :: adrop r t

theorem aget_cons (s : Nat) (v : Value) (r : Fr) (t : Nat) : aget ((s, v) :: r) t = if s = t then some v else aget r t := by
  simp only [aget]
  split
  · rename_i h; rw [if_pos (by simpa using h)]
  · rename_i h; rw [if_neg (by simpa using h)]
theorem aput_cons (s : Nat) (u : Value) (r : Fr) (t : Nat) (v : Value) : aput ((s, u) :: r) t v = if s = t then (s, v) :: r else (s, u) :: aput r t v := by
  simp only [aput]
  split
  · rename_i h; rw [if_pos (by simpa using h)]
  · rename_i h; rw [if_neg (by simpa using h)]

theorem aget_aput (fr : Fr) (t : Nat) (v : Value) (s : Nat) : aget (aput fr t v) s = if t = s then some v else aget fr s := by
  induction fr with
  | nil => simp only [aput, aget_cons]
  | cons x r ih =>
    obtain ⟨a, u⟩ := x
    rw [aput_cons]
    split
    · subst a; simp only [aget_cons]; split <;> simp_all
    · simp only [aget_cons, ih]; split <;> simp_all
      intro h; subst h; contradiction
theorem aget_adrop (fr : Fr) (t s : Nat) : aget (adrop fr t) s = if t = s then none else aget fr s := by
  induction fr with
  | nil => simp [adrop, aget]
  | cons x r ih =>
    obtain ⟨a, u⟩ := x
    simp only [adrop]
    split
    · subst a; rw [ih]; simp only [aget_cons]; split <;> simp_all
    · simp only [aget_cons, ih]; split <;> simp_all
      intro h; subst h; contradiction

structure RF (φ : BMap) (N : Nat) (fr : Fr) (tmps : Array Value) : Prop where
  size : tmps.size = N
  get : ∀ t v, aget fr t = some v → ∃ v', tmps[t]? = some v' ∧ RV φ v v'

theorem RF.ext {φ φ' : BMap} (hφ : Ext φ φ') {N : Nat} {fr : Fr} {tmps : Array Value} (h : RF φ N fr tmps) : RF φ' N fr tmps :=
  ⟨h.size, fun t v hv => let ⟨v', a, b⟩ := h.get t v hv; ⟨v', a, b.ext hφ⟩⟩

theorem RF.put {φ : BMap} {N : Nat} {fr : Fr} {tmps : Array Value} (h : RF φ N fr tmps) {d : Nat} (hd : d < N) {v v' : Value} (hv : RV φ v v') :
    RF φ N (aput fr d v) (tmps.setIfInBounds d v') := by
  refine ⟨by simp [h.size], fun t u hu => ?_⟩
  rw [aget_aput] at hu
  split at hu
  · rename_i e; subst e; cases hu; exact ⟨v', by simp [h.size, hd], hv⟩
  · rename_i e; obtain ⟨u', a, b⟩ := h.get t u hu; exact ⟨u', by simpa [Array.getElem?_setIfInBounds_ne e] using a, b⟩

theorem RF.drop {φ : BMap} {N : Nat} {fr : Fr} {tmps : Array Value} (h : RF φ N fr tmps) {d : Nat} {v' : Value} :
    RF φ N (adrop fr d) (tmps.setIfInBounds d v') := by
  refine ⟨by simp [h.size], fun t u hu => ?_⟩
  rw [aget_adrop] at hu
  split at hu
  · cases hu
  · rename_i e; obtain ⟨u', a, b⟩ := h.get t u hu; exact ⟨u', by simpa [Array.getElem?_setIfInBounds_ne e] using a, b⟩

/-- Fewer slots are known. -/
theorem RF.weaken {φ : BMap} {N : Nat} {fr fr' : Fr} {tmps : Array Value} (h : RF φ N fr tmps) (hs : ∀ t v, aget fr' t = some v → aget fr t = some v) : RF φ N fr' tmps :=
  ⟨h.size, fun t v hv => h.get t v (hs t v hv)⟩

/-! ## Abstract heaps -/
inductive ABlk where
  | cells (cs : List Value) (e : TypeId) (rw : Bool)
  | map (k : TypeId) (m : Value → Option Value)
  | loop (st : LoopState) (pd : Option Code) (f : FuncId) (N : Nat) (F : Fr) (ps : Array Tmp) (as bd : Code)

def ABlk.rw : ABlk → Bool
  | .cells _ _ r => r
  | .map _ _ => true
  | .loop .. => true

/-- Has it cells that another block's writes must not meet? -/
def ABlk.solid : ABlk → Bool
  | .cells cs _ r => r || !cs.isEmpty
  | .map _ _ => true
  | .loop .. => true

structure AHeap where
  next : Nat
  blk : Nat → Option ABlk

def AHeap.set (σ : AHeap) (b : Nat) (x : ABlk) : AHeap := ⟨σ.next, fun i => if i = b then some x else σ.blk i⟩
def AHeap.del (σ : AHeap) (b : Nat) : AHeap := ⟨σ.next, fun i => if i = b then none else σ.blk i⟩
def AHeap.bump (σ : AHeap) (n : Nat) : AHeap := ⟨σ.next + n, σ.blk⟩

@[simp] theorem AHeap.set_next (σ : AHeap) (b x) : (σ.set b x).next = σ.next := rfl
@[simp] theorem AHeap.del_next (σ : AHeap) (b) : (σ.del b).next = σ.next := rfl
@[simp] theorem AHeap.bump_next (σ : AHeap) (n) : (σ.bump n).next = σ.next + n := rfl
theorem AHeap.set_blk (σ : AHeap) (b x i) : (σ.set b x).blk i = if i = b then some x else σ.blk i := rfl
theorem AHeap.del_blk (σ : AHeap) (b i) : (σ.del b).blk i = if i = b then none else σ.blk i := rfl
theorem AHeap.bump_blk (σ : AHeap) (n i) : (σ.bump n).blk i = σ.blk i := rfl

/-- A key that the abstract machine takes: numbers, bools and strings, alone or side by side. -/
def plainCell : Value → Bool
  | .int .. | .bool _ | .string _ => true
  | _ => false
def plainKey : Value → Bool
  | .agg cs => cs.all plainCell
  | v => plainCell v

/-- A type whose values serve as keys and are compared as data: what the library shows of it. -/
structure KeyOk (P : Program) (k : TypeId) : Prop where
  law : WideMaps.KeyLaw P k
  eq : ∀ (w : World) (x y : Value), (keyOf P k x).isSome = true → (keyOf P k y).isSome = true → ∃ r : Bool, (Op.equal k x y).run P w = .ok r w ∧ (r = true ↔ x = y)
  guard : P.eqGuardType P.depth k = false

def BlkOk (P : Program) (φ : BMap) (w : World) (B : Nat) (p : Pl) : ABlk → Prop
  | .cells cs e rw => Ones cs ∧ (∀ (i : Nat) (v : Value), cs[i]? = some v → ∃ v', w.cell? ⟨p.g, p.o + i, none⟩ = some v' ∧ RV φ v v') ∧ tsz P e = some p.sz ∧
      (rw = true → p.o = 0 ∧ B ≤ p.g ∧ ∃ cur, w.heap[p.g]? = some (.cells cur e (0, 0)) ∧ cur.size = p.room ∧ cs.length ≤ p.room)
  | .map k m => B ≤ p.g ∧ ∃ es c, w.heap[p.g]? = some (.map es c) ∧ (∀ e ∈ es.toList, (keyOf P k e.key).isSome = true) ∧
      (∀ (i j : Nat) (x y : MapEntry), es[i]? = some x → es[j]? = some y → x.key = y.key → i = j) ∧
      (∀ e ∈ es.toList, ∃ v, m e.key = some v ∧ RV φ v e.val) ∧ (∀ key v, m key = some v → ∃ e ∈ es.toList, e.key = key)
  | .loop st pd f N F ps as bd => B ≤ p.g ∧ ∃ tmps d, w.heap[p.g]? = some (.loop ⟨st, pd, f, tmps, ps, as, bd, d⟩) ∧ RF φ N F tmps

structure RH (P : Program) (φ : BMap) (σ : AHeap) (w : World) (B : Nat) : Prop where
  base : B ≤ w.heap.size
  fresh : ∀ b, σ.next ≤ b → φ b = none
  dom : ∀ b x, σ.blk b = some x → ∃ p, φ b = some p ∧ BlkOk P φ w B p x
  inj : ∀ b c x y p q, σ.blk b = some x → σ.blk c = some y → x.rw = true → y.solid = true → φ b = some p → φ c = some q → p.g = q.g → b = c

/-- The block g is one that the abstract heap may write. -/
def Owns (φ : BMap) (σ : AHeap) (g : Nat) : Prop := ∃ b x p, σ.blk b = some x ∧ x.rw = true ∧ φ b = some p ∧ p.g = g

/-- What a run does: from one pair of heap and world to another. -/
structure Step (n0 : Nat) (φ : BMap) (σ : AHeap) (w : World) (φ' : BMap) (σ' : AHeap) (w' : World) : Prop where
  ext : Ext φ φ'
  old : ∀ b, b < n0 → φ' b = φ b
  next : σ.next ≤ σ'.next
  os : w'.os = w.os
  tape : w'.tape = w.tape
  output : w'.output = w.output
  size : w.heap.size ≤ w'.heap.size
  kept : ∀ g, g < w.heap.size → ¬ Owns φ σ g → w'.heap[g]? = w.heap[g]?
  own : ∀ g, g < w.heap.size → Owns φ' σ' g → Owns φ σ g
  dead : ∀ b, b < n0 → σ.blk b = none → σ'.blk b = none
  ro : ∀ b x, σ'.blk b = some x → x.rw = false → σ.blk b = some x

theorem Step.refl (n0 : Nat) (φ : BMap) (σ : AHeap) (w : World) : Step n0 φ σ w φ σ w :=
  ⟨.refl _, fun _ _ => rfl, Nat.le_refl _, rfl, rfl, rfl, Nat.le_refl _, fun _ _ _ => rfl, fun _ _ h => h, fun _ _ h => h, fun _ _ h _ => h⟩

theorem Step.trans {n0 n1 : Nat} {φ φ1 φ2 : BMap} {σ σ1 σ2 : AHeap} {w w1 w2 : World} (h : Step n0 φ σ w φ1 σ1 w1) (k : Step n1 φ1 σ1 w1 φ2 σ2 w2) (hn : n0 ≤ n1) :
    Step n0 φ σ w φ2 σ2 w2 where
  ext := h.ext.trans k.ext
  old b hb := (k.old b (Nat.lt_of_lt_of_le hb hn)).trans (h.old b hb)
  next := Nat.le_trans h.next k.next
  os := k.os.trans h.os
  tape := k.tape.trans h.tape
  output := k.output.trans h.output
  size := Nat.le_trans h.size k.size
  kept g hg ho := (k.kept g (Nat.lt_of_lt_of_le hg h.size) (fun o => ho (h.own g hg o))).trans (h.kept g hg ho)
  own g hg o := h.own g hg (k.own g (Nat.lt_of_lt_of_le hg h.size) o)
  dead b hb hd := k.dead b (Nat.lt_of_lt_of_le hb hn) (h.dead b hb hd)
  ro b x hx hr := h.ro b x (k.ro b x hx hr) hr

theorem Step.mono {n0 n1 : Nat} {φ φ' : BMap} {σ σ' : AHeap} {w w' : World} (h : Step n1 φ σ w φ' σ' w') (hn : n0 ≤ n1) : Step n0 φ σ w φ' σ' w' :=
  { h with old := fun b hb => h.old b (Nat.lt_of_lt_of_le hb hn), dead := fun b hb hd => h.dead b (Nat.lt_of_lt_of_le hb hn) hd }

end Go.Abs

/- THE ABSTRACT MACHINE, part B: what an operation of a region does to an abstract heap. -/
namespace Go.Abs
open Go

def closedCell : Value → Bool
  | .bool _ | .int .. | .string _ | .pointer none | .slice none 0 0 | .map none | .nilFunc | .nilIface => true
  | _ => false
def closedV : Value → Bool
  | .agg cs => cs.toList.all closedCell
  | v => closedCell v

def aeval (fr : Fr) : Operand → Option Value
  | .tmp t => aget fr t
  | .const v => if closedV v then some v else none
  | .global _ => none
  | .func f => some (.func (.func f) #[] #[])

def aevals (fr : Fr) : List Operand → Option (List Value)
  | [] => some []
  | x :: r => match aeval fr x, aevals fr r with
    | some v, some vs => some (v :: vs)
    | _, _ => none

def aevalO (fr : Fr) : Option Operand → Option (Option Value)
  | none => some none
  | some x => (aeval fr x).map some

def setRange (cs : List Value) (off : Nat) : List Value → List Value
  | [] => cs
  | v :: vs => setRange (cs.set off v) (off + 1) vs

def zerosL (z : Value) (n : Nat) : List Value := (List.replicate n z.cells.toList).flatten

/-! ### Memory -/
def aload (P : Program) (σ : AHeap) (t : TypeId) : Value → Option Value
  | .pointer (some ⟨b, off, none⟩) =>
    match σ.blk b, ty P t with
    | some (.cells cs _ _), some T => if T.agg then (if off + T.size ≤ cs.length then some (.agg ((cs.drop off).take T.size).toArray) else none) else cs[off]?
    | _, _ => none
  | _ => none

def astore (P : Program) (σ : AHeap) (t : TypeId) (p v : Value) : Option AHeap :=
  match p with
  | .pointer (some ⟨b, off, none⟩) =>
    match σ.blk b, ty P t with
    | some (.cells cs e true), some T =>
      if v.cells.size = T.size ∧ off + T.size ≤ cs.length ∧ isTuple v = false then some (σ.set b (.cells (setRange cs off v.cells.toList) e true)) else none
    | _, _ => none
  | _ => none

/-- A new block of cells. -/
def anew (P : Program) (σ : AHeap) (id : Nat) (e : TypeId) (cs : List Value) : Option AHeap :=
  if (ty P e).isSome then some (σ.set id (.cells cs e true)) else none

def aindexAddr (P : Program) (t : TypeId) (x ix : Value) : Option Value :=
  match ix with
  | .int _ i =>
    match ty P t, x with
    | some ⟨.slice e, _, _, _⟩, .slice (some ⟨b, off, none⟩) len _ =>
      match ty P e with
      | some E => if 0 ≤ i ∧ i < len then some (.pointer (some ⟨b, off + i.toNat * E.size, none⟩)) else none
      | none => none
    | some ⟨.array n e, _, _, _⟩, .pointer (some ⟨b, off, none⟩) =>
      match ty P e with
      | some E => if 0 ≤ i ∧ i < n then some (.pointer (some ⟨b, off + i.toNat * E.size, none⟩)) else none
      | none => none
    | _, _ => none
  | _ => none

def afieldAddr (P : Program) (s : TypeId) (x : Value) (f : Nat) : Option Value :=
  match ty P s, x with
  | some ⟨.struct fs, _, _, _⟩, .pointer (some ⟨b, off, none⟩) =>
    match fs[f]? with
    | some (o, u) => match tsz P u with
      | some s => if s = 0 then none else some (.pointer (some ⟨b, off + o, none⟩))
      | none => none
    | none => none
  | _, _ => none

def aindex (P : Program) (t : TypeId) (x ix : Value) : Option Value :=
  match ix with
  | .int _ i =>
    match ty P t, x with
    | some ⟨.string, _, _, _⟩, .string s => if 0 ≤ i then (s[i.toNat]?).map fun b => .int .u8 b.toNat else none
    | some ⟨.array n e, _, _, _⟩, .agg cs =>
      match ty P e with
      | some E => if E.agg then none else if 0 ≤ i ∧ i < n then cs[i.toNat * E.size]? else none
      | none => none
    | _, _ => none
  | _ => none

def afield (P : Program) (t : TypeId) (x : Value) (f : Nat) : Option Value :=
  match ty P t, x with
  | some ⟨.struct fs, _, _, _⟩, .agg cs =>
    match fs[f]? with
    | some (o, u) => match ty P u with
      | some U => if U.agg then some (.agg (cs.toList.drop o |>.take U.size).toArray) else cs[o]?
      | none => none
    | none => none
  | _, _ => none

/-- The bound of a slice expression, if it is given. -/
def abound (d : Nat) (top : Nat) : Option Value → Option Nat
  | none => some d
  | some (.int _ i) => if 0 ≤ i ∧ i ≤ top then some i.toNat else none
  | _ => none

def aslice (P : Program) (t : TypeId) (x : Value) (lo hi : Option Value) : Option Value :=
  match ty P t, x with
  | some ⟨.string, _, _, _⟩, .string s =>
    match abound s.size s.size hi with
    | some h => match abound 0 h lo with
      | some l => some (.string (s.extract l h))
      | none => none
    | none => none
  | some ⟨.slice e, _, _, _⟩, .slice none 0 0 =>
    match ty P e, abound 0 0 hi with
    | some _, some h => match abound 0 h lo with
      | some _ => some (.slice none 0 0)
      | none => none
    | _, _ => none
  | some ⟨.array n e, _, _, _⟩, .pointer (some ⟨b, off, none⟩) =>
    match ty P e with
    | some E =>
      match abound n n hi with
      | some h => match abound 0 h lo with
        | some l => if l < n then some (.slice (some ⟨b, off + l * E.size, none⟩) (h - l) (n - l)) else none
        | none => none
      | none => none
    | none => none
  | _, _ => none

/-- A slice of a slice: the block tells how large an element is. -/
def aslice2 (P : Program) (σ : AHeap) (t : TypeId) (x : Value) (lo hi : Option Value) : Option Value :=
  match ty P t, x with
  | some ⟨.slice e, _, _, _⟩, .slice (some ⟨b, off, none⟩) len c =>
    match ty P e, σ.blk b with
    | some E, some (.cells _ e' _) =>
      if tsz P e' = some E.size then
        match abound len c hi with
        | some h => match abound 0 h lo with
          | some l => if l < c ∨ l = 0 then some (.slice (some ⟨b, off + l * E.size, none⟩) (h - l) (c - l)) else none
          | none => none
        | none => none
      else none
    | _, _ => none
  | _, _ => aslice P t x lo hi

/-- With a third index. -/
def aslice3 (P : Program) (σ : AHeap) (t : TypeId) (x : Value) (lo hi : Option Value) (m : Value) : Option Value :=
  match ty P t, x, hi with
  | some ⟨.slice e, _, _, _⟩, .slice (some ⟨b, off, none⟩) _ c, some hv =>
    match ty P e, σ.blk b with
    | some E, some (.cells _ e' _) =>
      if tsz P e' = some E.size then
        match abound c c (some m) with
        | some mm => match abound mm mm (some hv) with
          | some h => match abound 0 h lo with
            | some l => if l < mm then some (.slice (some ⟨b, off + l * E.size, none⟩) (h - l) (mm - l)) else none
            | none => none
          | none => none
        | none => none
      else none
    | _, _ => none
  | _, _, _ => none

/-! ### append, copy, clear -/
/-- What the second argument of append yields: how many elements, and their cells. -/
def asrc (P : Program) (σ : AHeap) (t : TypeId) (s : Nat) (z : Value) : Value → Option (Nat × List Value)
  | .slice none 0 0 => match tk P t with | some (.slice _) => some (0, []) | _ => none
  | .slice (some ⟨b, off, none⟩) n _ =>
    match (tk P t), σ.blk b with
    | some (.slice _), some (.cells cs _ _) => if off + n * s ≤ cs.length then some (n, (cs.drop off).take (n * s)) else none
    | _, _ => none
  | .string b => match tk P t with | some .string => if s = 1 then some (b.size, byteCells b) else none | _ => none
  | _ => none

def aappend (P : Program) (σ : AHeap) (id : Nat) (tS tX : TypeId) (v x : Value) : Option (Value × AHeap) :=
  match ty P tS with
  | some ⟨.slice e, _, _, _⟩ =>
    match ty P e with
    | some ⟨_, s, bytes, some z⟩ =>
      if z.cells.size = s then
      match asrc P σ tX s z x with
      | some (n, news) =>
        match v with
        | .slice none 0 0 =>
          if n = 0 then some (.slice none 0 0, σ)
          else if n * bytes ≤ 140737488355328 ∧ n ≤ 9223372036854775807 then some (.slice (some ⟨id, 0, none⟩) n n, σ.set id (.cells news e true)) else none
        | .slice (some ⟨b, off, none⟩) len c =>
          match σ.blk b with
          | some (.cells cs e' true) =>
            if e' = e then
              if len + n ≤ c then
                if off + (len + n) * s ≤ cs.length then some (.slice (some ⟨b, off, none⟩) (len + n) c, σ.set b (.cells (setRange cs (off + len * s) news) e' true)) else none
              else if off = 0 ∧ len * s = cs.length ∧ (len + n) * bytes ≤ 140737488355328 ∧ len + n ≤ 9223372036854775807 then
                some (.slice (some ⟨id, 0, none⟩) (len + n) (len + n), (σ.del b).set id (.cells (cs ++ news) e true))
              else none
            else none
          | _ => none
        | _ => none
      | none => none
      else none
    | _ => none
  | _ => none

def acopy (P : Program) (σ : AHeap) (tD tX : TypeId) (d x : Value) : Option (Value × AHeap) :=
  match ty P tD with
  | some ⟨.slice e, _, _, _⟩ =>
    match ty P e with
    | some E =>
      match d, x with
      | .slice (some ⟨b, off, none⟩) dl _, .slice (some ⟨b', off', none⟩) sl _ =>
        match σ.blk b, σ.blk b' with
        | some (.cells cs e' true), some (.cells cs' _ _) =>
          if off + Nat.min sl dl * E.size ≤ cs.length ∧ off' + Nat.min sl dl * E.size ≤ cs'.length then
            some (.int .i64 (Nat.min sl dl : Nat), σ.set b (.cells (setRange cs off ((cs'.drop off').take (Nat.min sl dl * E.size))) e' true))
          else none
        | _, _ => none
      | _, _ => none
    | none => none
  | _ => none

def aclear (P : Program) (σ : AHeap) (t : TypeId) : Value → Option AHeap
  | .slice none 0 0 => some σ
  | .slice (some _) 0 _ => some σ
  | .slice (some ⟨b, off, none⟩) n _ =>
    match ty P t with
    | some ⟨.slice e, _, _, _⟩ =>
      match ty P e, σ.blk b with
      | some ⟨_, s, _, some z⟩, some (.cells cs e' true) =>
        if closedV z ∧ z.cells.size = s ∧ off + n * s ≤ cs.length then some (σ.set b (.cells (setRange cs off (zerosL z n)) e' true)) else none
      | _, _ => none
    | _ => none
  | _ => none

/-! ### Numbers -/
def abin (op : BinOp) : Value → Value → Option Value
  | .int k a, .int k' b =>
    match op with
    | .shl => if 0 ≤ b then some (.int k (k.wrap (a * 2 ^ (min b.toNat k.bits)))) else none
    | .shr => if 0 ≤ b then some (.int k (a.fdiv (2 ^ (min b.toNat k.bits)))) else none
    | .add => if k = k' then some (.int k (k.wrap (a + b))) else none
    | .sub => if k = k' then some (.int k (k.wrap (a - b))) else none
    | .mul => if k = k' then some (.int k (k.wrap (a * b))) else none
    | .quo => if k = k' ∧ b ≠ 0 then some (.int k (k.wrap (a.tdiv b))) else none
    | .rem => if k = k' ∧ b ≠ 0 then some (.int k (a.tmod b)) else none
    | .and => if k = k' then some (.int k (k.wrap (BitVec.ofInt k.bits a &&& BitVec.ofInt k.bits b).toNat)) else none
    | .or => if k = k' then some (.int k (k.wrap (BitVec.ofInt k.bits a ||| BitVec.ofInt k.bits b).toNat)) else none
    | .xor => if k = k' then some (.int k (k.wrap (BitVec.ofInt k.bits a ^^^ BitVec.ofInt k.bits b).toNat)) else none
    | .eql => if k = k' then some (.bool (a == b)) else none
    | .neq => if k = k' then some (.bool (a != b)) else none
    | .lss => if k = k' then some (.bool (decide (a < b))) else none
    | .leq => if k = k' then some (.bool (decide (a ≤ b))) else none
    | .gtr => if k = k' then some (.bool (decide (a > b))) else none
    | .geq => if k = k' then some (.bool (decide (a ≥ b))) else none
    | _ => none
  | .string a, .string b =>
    match op with
    | .eql => some (.bool (a.toList == b.toList))
    | .neq => some (.bool !(a.toList == b.toList))
    | _ => none
  | _, _ => none

open Classical in
noncomputable def abinT (P : Program) (op : BinOp) (t : TypeId) (x y : Value) : Option Value :=
  match x, y with
  | .bool a, .bool b =>
    match tk P t, op with
    | some .bool, .eql => some (.bool (a == b))
    | some .bool, .neq => some (.bool (!(a == b)))
    | _, _ => none
  | .agg xs, .agg ys =>
    if KeyOk P t ∧ plainKey (.agg xs) = true ∧ plainKey (.agg ys) = true ∧ (keyOf P t (.agg xs)).isSome = true ∧ (keyOf P t (.agg ys)).isSome = true then
      match op with
      | .eql => some (.bool (decide (xs = ys)))
      | .neq => some (.bool (!decide (xs = ys)))
      | _ => none
    else none
  | x, y => abin op x y

def aun (op : UnOp) : Value → Option Value
  | .bool b => match op with | .not => some (.bool !b) | _ => none
  | .int k n => match op with | .neg => some (.int k (k.wrap (0 - n))) | _ => none
  | _ => none

def aconvert (P : Program) (σ : AHeap) (id : Nat) (src dst : TypeId) (x : Value) : Option (Value × AHeap) :=
  match ty P src, ty P dst with
  | some _, some D =>
    match x with
    | .int _ n => match D.k with
      | .int k => some (.int k (k.wrap n), σ)
      | _ => none
    | _ => none
  | _, _ => none

/-! ### Building -/
def aparts (fr : Fr) : List (Nat × Operand) → Option (List (Nat × Value))
  | [] => some []
  | (i, x) :: r => match aeval fr x, aparts fr r with
    | some v, some vs => if isTuple v then none else some ((i, v) :: vs)
    | _, _ => none

def afill (place : Nat → Option (Nat × Nat)) (cells : List Value) : List (Nat × Value) → Option (List Value)
  | [] => some cells
  | (i, v) :: rest =>
    match place i with
    | none => none
    | some (off, size) => if v.cells.size ≠ size || off + v.cells.size > cells.length then none else afill place (setRange cells off v.cells.toList) rest

def fieldPlaces (P : Program) (fs : List (Nat × TypeId)) : Option (List (Nat × Nat)) :=
  match fs with
  | [] => some []
  | (o, t) :: r => match ty P t, fieldPlaces P r with
    | some T, some ps => some ((o, T.size) :: ps)
    | _, _ => none

def abuild (P : Program) (t : TypeId) (parts : List (Nat × Value)) : Option Value :=
  match ty P t with
  | some ⟨.struct fs, _, _, some z⟩ =>
    if closedV z then
      match fieldPlaces P fs with
      | some ps => (afill (fun i => ps[i]?) z.cells.toList parts).map fun cs => .agg cs.toArray
      | none => none
    else none
  | some ⟨.array _ e, _, _, some z⟩ =>
    match ty P e with
    | some E => if closedV z then (afill (fun i => some (i * E.size, E.size)) z.cells.toList parts).map fun cs => .agg cs.toArray else none
    | none => none
  | _ => none

def abuildSlice (P : Program) (σ : AHeap) (id : Nat) (t : TypeId) (len : Nat) (parts : List (Nat × Value)) : Option (Value × AHeap) :=
  match ty P t with
  | some ⟨.slice e, _, _, _⟩ =>
    match ty P e with
    | some ⟨_, s, _, some z⟩ =>
      if closedV z ∧ z.cells.size = s ∧ len * s ≤ 16777216 then
        match afill (fun i => some (i * s, s)) (zerosL z len) parts with
        | some cs => some (.slice (some ⟨id, 0, none⟩) len len, σ.set id (.cells cs e true))
        | none => none
      else none
    | _ => none
  | _ => none

def amakeSlice (P : Program) (σ : AHeap) (id : Nat) (t : TypeId) (l c : Value) : Option (Value × AHeap) :=
  match ty P t, l, c with
  | some ⟨.slice e, _, _, _⟩, .int _ l, .int _ c =>
    match ty P e with
    | some ⟨_, s, bytes, some z⟩ =>
      if closedV z ∧ z.cells.size = s ∧ 0 ≤ l ∧ l ≤ c ∧ c ≤ 9223372036854775807 ∧ (bytes : Int) * c ≤ 140737488355328 then
        some (.slice (some ⟨id, 0, none⟩) l.toNat c.toNat, σ.set id (.cells (zerosL z c.toNat) e true))
      else none
    | _ => none
  | _, _, _ => none

/-! ### Maps -/
open Classical in
noncomputable def alookup (P : Program) (σ : AHeap) (t : TypeId) (m k : Value) (ok : Bool) : Option Value :=
  match ty P t with
  | some ⟨.map kt e, _, _, _⟩ =>
    match ty P e, m with
    | some ⟨_, _, _, some z⟩, .map (some b) =>
      match σ.blk b with
      | some (.map kt' f) => if kt' = kt ∧ KeyOk P kt ∧ closedV z = true ∧ plainKey k = true ∧ (keyOf P kt k).isSome = true then
          match f k with
          | some v => some (if ok then .tuple #[v, .bool true] else v)
          | none => some (if ok then .tuple #[z, .bool false] else z)
        else none
      | _ => none
    | _, _ => none
  | _ => none

open Classical in
noncomputable def amapUpdate (P : Program) (σ : AHeap) (t : TypeId) (m k v : Value) : Option AHeap :=
  match ty P t, m with
  | some ⟨.map kt _, _, _, _⟩, .map (some b) =>
    match σ.blk b with
    | some (.map kt' f) => if kt' = kt ∧ KeyOk P kt ∧ plainKey k = true ∧ (keyOf P kt k).isSome = true then some (σ.set b (.map kt (fun x => if x = k then some v else f x))) else none
    | _ => none
  | _, _ => none

/-! ### Builtins -/
def amin2 : Value → Value → Option Value
  | .int k x, .int _ y => some (.int k (if y < x then y else x))
  | _, _ => none
def amax2 : Value → Value → Option Value
  | .int k x, .int _ y => some (.int k (if y > x then y else x))
  | _, _ => none
def afold (f : Value → Value → Option Value) : Value → List Value → Option Value
  | x, [] => some x
  | x, y :: r => match f x y with
    | some z => afold f z r
    | none => none

def alen (P : Program) (t : TypeId) : Value → Option Value
  | .slice _ n _ => match tk P t with
    | some (.slice _) => some (.int .i64 n)
    | _ => none
  | .string s => match tk P t with
    | some .string => some (.int .i64 s.size)
    | _ => none
  | .pointer _ => none
  | .agg _ => match tk P t with
    | some (.array n _) => some (.int .i64 n)
    | _ => none
  | _ => none

def acap (P : Program) (t : TypeId) : Value → Option Value
  | .slice none 0 0 => match tk P t with
    | some (.slice _) => some (.int .i64 0)
    | _ => none
  | _ => none

def abuiltin (P : Program) (σ : AHeap) (id : Nat) (b : Builtin) (ts : Array TypeId) (args : List Value) : Option (Value × AHeap) :=
  match b, args with
  | .len, [x] => match ts[0]? with
    | some t => (alen P t x).map (·, σ)
    | none => none
  | .cap, [x] => match ts[0]? with
    | some t => (acap P t x).map (·, σ)
    | none => none
  | .append, [v, x] => match ts[0]?, ts[1]? with
    | some t, some u => aappend P σ id t u v x
    | _, _ => none
  | .copy, [d, x] => match ts[0]?, ts[1]? with
    | some t, some u => acopy P σ t u d x
    | _, _ => none
  | .clear, [x] => match ts[0]? with
    | some t => if (tk P t).isSome then (aclear P σ t x).map (.tuple #[], ·) else none
    | none => none
  | .min, x :: r => (afold amin2 x r).map (·, σ)
  | .max, x :: r => (afold amax2 x r).map (·, σ)
  | _, _ => none

/-! ### One operation (calls of Go functions apart) -/
def aextract (x : Value) (i : Nat) : Option Value :=
  match x with
  | .tuple vs => vs[i]?
  | _ => none

noncomputable def aexec (P : Program) (σ : AHeap) (id : Nat) (fr : Fr) (o : Op) : Option (Value × AHeap) :=
  match o with
  | .move x | .assign x => (aeval fr x).map (·, σ)
  | .pick c a b => match aeval fr c with
    | some (.bool t) => (if t then aeval fr a else aeval fr b).map (·, σ)
    | _ => none
  | .alloc e => match ty P e with
    | some ⟨_, _, _, some z⟩ => if closedV z then (anew P σ id e z.cells.toList).map (.pointer (some ⟨id, 0, none⟩), ·) else none
    | _ => none
  | .box e x => match aeval fr x with
    | some v => if isTuple v then none else (anew P σ id e v.cells.toList).map (.pointer (some ⟨id, 0, none⟩), ·)
    | none => none
  | .build t parts => match aparts fr parts.toList with
    | some ps => (abuild P t ps).map (·, σ)
    | none => none
  | .buildSlice t len parts => match aparts fr parts.toList with
    | some ps => abuildSlice P σ id t len ps
    | none => none
  | .load t a => match aeval fr a with
    | some p => (aload P σ t p).map (·, σ)
    | none => none
  | .store t a x => match aeval fr a, aeval fr x with
    | some p, some v => (astore P σ t p v).map (.tuple #[], ·)
    | _, _ => none
  | .nilCheck x => match aeval fr x with
    | some (.pointer (some p)) => some (.pointer (some p), σ)
    | some (.func (.func f) xs ys) => some (.func (.func f) xs ys, σ)
    | _ => none
  | .binOp op t x y _ => match aeval fr x, aeval fr y with
    | some a, some b => (abinT P op t a b).map (·, σ)
    | _, _ => none
  | .unOp op _ x => match aeval fr x with
    | some a => (aun op a).map (·, σ)
    | none => none
  | .convert s d x => match aeval fr x with
    | some v => aconvert P σ id s d v
    | none => none
  | .makeFunc (.func f) first captured => match aevals fr first.toList, aevals fr captured.toList with
    | some xs, some ys => some (.func (.func f) xs.toArray ys.toArray, σ)
    | _, _ => none
  | .makeMap t none => match ty P t with
    | some ⟨.map k _, _, _, _⟩ => some (.map (some id), σ.set id (.map k fun _ => none))
    | _ => none
  | .makeSlice t l c => match aeval fr l, aeval fr c with
    | some l, some c => amakeSlice P σ id t l c
    | _, _ => none
  | .slice t x lo hi none => match aeval fr x, aevalO fr lo, aevalO fr hi with
    | some x, some lo, some hi => (aslice2 P σ t x lo hi).map (·, σ)
    | _, _, _ => none
  | .slice t x lo hi (some m) => match aeval fr x, aevalO fr lo, aevalO fr hi, aeval fr m with
    | some x, some lo, some hi, some m => (aslice3 P σ t x lo hi m).map (·, σ)
    | _, _, _, _ => none
  | .fieldAddr s x f => match aeval fr x with
    | some p => (afieldAddr P s p f).map (·, σ)
    | none => none
  | .field t x f => match aeval fr x with
    | some p => (afield P t p f).map (·, σ)
    | none => none
  | .indexAddr t x ix => match aeval fr x, aeval fr ix with
    | some x, some i => (aindexAddr P t x i).map (·, σ)
    | _, _ => none
  | .index t x ix => match aeval fr x, aeval fr ix with
    | some x, some i => (aindex P t x i).map (·, σ)
    | _, _ => none
  | .lookup t m k ok => match aeval fr m, aeval fr k with
    | some m, some k => (alookup P σ t m k ok).map (·, σ)
    | _, _ => none
  | .mapUpdate t m k x => match aeval fr m, aeval fr k, aeval fr x with
    | some m, some k, some v => (amapUpdate P σ t m k v).map (.tuple #[], ·)
    | _, _, _ => none
  | .extract x i => match aeval fr x with
    | some v => (aextract v i).map (·, σ)
    | none => none
  | .call { callee := .builtin b, args, argTypes } => match aevals fr args.toList with
    | some vs => abuiltin P σ id b argTypes vs
    | none => none
  | _ => none

/-- The function and the arguments that a call comes to. -/
def acallee (fr : Fr) (o : Op) : Option (FuncId × List Value) :=
  match o with
  | .call { callee := .value f, args, .. } => match aeval fr f, aevals fr args.toList with
    | some (.func (.func k) xs ys), some vs => some (k, xs.toList ++ vs ++ ys.toList)
    | _, _ => none
  | _ => none

/-- What is looked at of an operation. -/
structure SOp where
  dst : Option Tmp
  op : Op
  guard : Option (Nat × Bool)
def slim (o : Oper) : SOp := ⟨o.dst, o.op, o.guard⟩

def nth (l : List (Option Tmp)) (i : Nat) : Option Tmp :=
  match l, i with
  | [], _ => none
  | x :: _, 0 => x
  | _ :: r, i + 1 => nth r i

/-- Is the operation wanted? gds: the destinations of the region's operations. -/
def awanted (gds : List (Option Tmp)) (fr : Fr) : Option (Nat × Bool) → Option Bool
  | none => some true
  | some (j, want) => match nth gds j with
    | none => some false
    | some d => match aget fr d with
      | some (.bool b) => some (b == want)
      | some (.tuple _) => some false
      | _ => none

def adst (fr : Fr) (dst : Option Tmp) (v : Value) : Fr :=
  match dst with
  | some d => aput fr d v
  | none => fr

/-- Does the destination lie in the frame? -/
def dstOk (N : Nat) (dst : Option Tmp) : Bool :=
  match dst with
  | some d => decide (d < N)
  | none => true

def isCall : Op → Bool
  | .call { callee := .value _, .. } => true
  | _ => false

/-- One operation that is no call of a Go function. -/
noncomputable def aop (P : Program) (N : Nat) (gds : List (Option Tmp)) (o : SOp) (fr : Fr) (σ : AHeap) : Option (Fr × AHeap) :=
  match dstOk N o.dst, awanted gds fr o.guard with
  | true, some false => some (adst fr o.dst (.tuple #[]), σ)
  | true, some true =>
    match aexec P (σ.bump 1) σ.next fr o.op with
    | some (v, σ') => some (adst fr o.dst v, σ')
    | none => none
  | _, _ => none

end Go.Abs

/- THE ABSTRACT MACHINE, part C: heaps that change, and the worlds that follow them. -/
namespace Go.Abs
open Go

theorem lt_of_cell {w : World} {g o : Nat} {v : Value} (h : w.cell? ⟨g, o, none⟩ = some v) : g < w.heap.size := World.block_lt_of_cell? w ⟨g, o, none⟩ h
theorem cell_of_heap {w w' : World} {g o : Nat} (h : w'.heap[g]? = w.heap[g]?) : w'.cell? ⟨g, o, none⟩ = w.cell? ⟨g, o, none⟩ := World.cell?_of_block (a := ⟨g, o, none⟩) h

theorem BlkOk.lt {P : Program} {φ : BMap} {w : World} {B : Nat} {p : Pl} {x : ABlk} (h : BlkOk P φ w B p x) (hs : x.solid = true) : p.g < w.heap.size := by
  cases x with
  | map k m => obtain ⟨_, es, c, he, _⟩ := h; exact (Array.getElem?_eq_some_iff.1 he).1
  | loop => obtain ⟨_, t, d, he, _⟩ := h; exact (Array.getElem?_eq_some_iff.1 he).1
  | cells cs e rw =>
    obtain ⟨_, hc, _, hr⟩ := h
    cases hrw : rw with
    | true => obtain ⟨_, _, cur, he, _⟩ := hr hrw; exact (Array.getElem?_eq_some_iff.1 he).1
    | false =>
      subst hrw
      cases cs with
      | nil => simp [ABlk.solid] at hs
      | cons v vs => obtain ⟨v', hv, _⟩ := hc 0 v rfl; exact lt_of_cell hv

/-- A block whose place has not changed. -/
theorem BlkOk.keep {P : Program} {φ φ' : BMap} {w w' : World} {B : Nat} {p : Pl} {x : ABlk} (h : BlkOk P φ w B p x) (hφ : Ext φ φ') (hw : x.solid = true → w'.heap[p.g]? = w.heap[p.g]?) : BlkOk P φ' w' B p x := by
  cases x with
  | map k m =>
    obtain ⟨h0, es, c, he, h1, h2, h3, h4⟩ := h
    exact ⟨h0, es, c, by rw [hw rfl]; exact he, h1, h2, fun e he => let ⟨v, a, b⟩ := h3 e he; ⟨v, a, b.ext hφ⟩, h4⟩
  | loop st pd f N F ps as bd =>
    obtain ⟨h0, t, d, he, h1⟩ := h
    exact ⟨h0, t, d, by rw [hw rfl]; exact he, h1.ext hφ⟩
  | cells cs e rw =>
    obtain ⟨h0, hc, hs, hr⟩ := h
    refine ⟨h0, fun i v hv => ?_, hs, fun hrw => ?_⟩
    · obtain ⟨v', a, b⟩ := hc i v hv
      refine ⟨v', ?_, b.ext hφ⟩
      rw [cell_of_heap (hw ?_)]; exact a
      cases cs with
      | nil => simp at hv
      | cons u us => simp [ABlk.solid]
    · obtain ⟨a, b, cur, hcur, c⟩ := hr hrw
      exact ⟨a, b, cur, by rw [hw (by simp [ABlk.solid, hrw])]; exact hcur, c⟩

/-- What one operation does: only the place of its own new block is laid. -/
structure OStep (id : Nat) (φ : BMap) (σ : AHeap) (w : World) (φ' : BMap) (σ' : AHeap) (w' : World) : Prop where
  ext : Ext φ φ'
  old : ∀ b, b ≠ id → φ' b = φ b
  next : σ'.next = σ.next
  os : w'.os = w.os
  tape : w'.tape = w.tape
  output : w'.output = w.output
  size : w.heap.size ≤ w'.heap.size
  kept : ∀ g, g < w.heap.size → ¬ Owns φ σ g → w'.heap[g]? = w.heap[g]?
  own : ∀ g, g < w.heap.size → Owns φ' σ' g → Owns φ σ g
  dead : ∀ b, b ≠ id → σ.blk b = none → σ'.blk b = none
  ro : ∀ b x, σ'.blk b = some x → x.rw = false → σ.blk b = some x

theorem OStep.refl (id : Nat) (φ : BMap) (σ : AHeap) (w : World) : OStep id φ σ w φ σ w :=
  ⟨.refl _, fun _ _ => rfl, rfl, rfl, rfl, rfl, Nat.le_refl _, fun _ _ _ => rfl, fun _ _ h => h, fun _ _ h => h, fun _ _ h _ => h⟩

def lay (φ : BMap) (id : Nat) (p : Pl) : BMap := fun b => if b = id then some p else φ b
theorem lay_ext {φ : BMap} {id : Nat} {p : Pl} (h : φ id = none) : Ext φ (lay φ id p) := by
  intro b q hb
  unfold lay
  split
  · subst b; rw [h] at hb; cases hb
  · exact hb
theorem lay_same (φ : BMap) (id : Nat) (p : Pl) : lay φ id p id = some p := by simp [lay]
theorem lay_other (φ : BMap) {id b : Nat} (p : Pl) (h : b ≠ id) : lay φ id p b = φ b := by simp [lay, h]

/-- A NEW BLOCK (of whatever kind), behind all others. -/
theorem RH.alloc {P : Program} {φ : BMap} {σ : AHeap} {w w' : World} {B id : Nat} {x : ABlk} {obj : Obj} {p : Pl} (hr : RH P φ σ w B) (hid : φ id = none) (hlt : id < σ.next)
    (hw : w'.heap = w.heap.push obj) (hos : w'.os = w.os) (htape : w'.tape = w.tape) (hout : w'.output = w.output) (hp : p.g = w.heap.size) (hxrw : x.rw = true)
    (hx : BlkOk P (lay φ id p) w' B p x) :
    RH P (lay φ id p) (σ.set id x) w' B ∧ OStep id φ σ w (lay φ id p) (σ.set id x) w' := by
  have hext : Ext φ (lay φ id p) := lay_ext hid
  have hsz : w'.heap.size = w.heap.size + 1 := by rw [hw]; simp
  have hold : ∀ g, g < w.heap.size → w'.heap[g]? = w.heap[g]? := fun g hg => by rw [hw, Array.getElem?_push, if_neg (by omega)]
  have hlive : ∀ b y, b ≠ id → (σ.set id x).blk b = some y → ∃ q, φ b = some q ∧ BlkOk P φ w B q y := fun b y hb hy => by
    rw [AHeap.set_blk, if_neg hb] at hy; exact hr.dom b y hy
  refine ⟨⟨by rw [hsz]; exact Nat.le_succ_of_le hr.base, fun b hb => ?_, fun b y hy => ?_, fun b c y z q r hy hz hrw hsol hq hrr he => ?_⟩, ⟨hext, fun b hb => lay_other _ _ hb, rfl, hos, htape, hout, by omega, fun g hg _ => hold g hg, fun g hg ho => ?_, fun b hb hd => by rw [AHeap.set_blk, if_neg hb]; exact hd, fun b y hy hyr => ?_⟩⟩
  · have : σ.next ≤ b := hb
    rw [lay_other _ _ (by omega)]; exact hr.fresh b hb
  · by_cases hb : b = id
    · subst hb; rw [AHeap.set_blk, if_pos rfl] at hy; cases hy; exact ⟨p, lay_same _ _ _, hx⟩
    · obtain ⟨q, hq, hok⟩ := hlive b y hb hy
      exact ⟨q, by rw [lay_other _ _ hb]; exact hq, hok.keep hext (fun hs => hold _ (hok.lt hs))⟩
  · have solid : ∀ {y : ABlk}, y.rw = true → y.solid = true := fun {y} h => by cases y <;> simp_all [ABlk.rw, ABlk.solid]
    by_cases hb : b = id <;> by_cases hc : c = id
    · rw [hb, hc]
    · subst hb
      obtain ⟨r', hr', hok⟩ := hlive c z hc hz
      rw [lay_same] at hq; cases hq
      rw [lay_other _ _ hc, hr'] at hrr; cases hrr
      have := hok.lt hsol; omega
    · subst hc
      obtain ⟨q', hq', hok⟩ := hlive b y hb hy
      rw [lay_same] at hrr; cases hrr
      rw [lay_other _ _ hb, hq'] at hq; cases hq
      have := hok.lt (solid hrw); omega
    · rw [lay_other _ _ hb] at hq
      rw [lay_other _ _ hc] at hrr
      rw [AHeap.set_blk, if_neg hb] at hy
      rw [AHeap.set_blk, if_neg hc] at hz
      exact hr.inj b c y z q r hy hz hrw hsol hq hrr he
  · obtain ⟨b, y, q, hy, hrw, hq, hg'⟩ := ho
    by_cases hb : b = id
    · subst hb; rw [lay_same] at hq; cases hq; omega
    · rw [lay_other _ _ hb] at hq
      rw [AHeap.set_blk, if_neg hb] at hy
      exact ⟨b, y, q, hy, hrw, hq, hg'⟩
  · rw [AHeap.set_blk] at hy
    split at hy
    · cases hy; rw [hxrw] at hyr; cases hyr
    · exact hy

theorem solid_of_rw {y : ABlk} (h : y.rw = true) : y.solid = true := by cases y <;> simp_all [ABlk.rw, ABlk.solid]

/-- A BLOCK IS WRITTEN IN PLACE. -/
theorem RH.write {P : Program} {φ : BMap} {σ : AHeap} {w w' : World} {B id b : Nat} {x y : ABlk} {p : Pl} (hr : RH P φ σ w B) (hb : σ.blk b = some x) (hrw : x.rw = true) (hp : φ b = some p) (hyrw : y.rw = true)
    (hw : ∀ g, g ≠ p.g → w'.heap[g]? = w.heap[g]?) (hsz : w'.heap.size = w.heap.size) (hos : w'.os = w.os) (htape : w'.tape = w.tape) (hout : w'.output = w.output)
    (hy : BlkOk P φ w' B p y) :
    RH P φ (σ.set b y) w' B ∧ OStep id φ σ w φ (σ.set b y) w' := by
  have hlive : ∀ c z, (σ.set b y).blk c = some z → ∃ z', σ.blk c = some z' ∧ (z.rw = true → z'.rw = true) ∧ (z.solid = true → z'.solid = true) := fun c z hz => by
    rw [AHeap.set_blk] at hz
    split at hz
    · rename_i e; subst e; exact ⟨x, hb, fun _ => hrw, fun _ => solid_of_rw hrw⟩
    · exact ⟨z, hz, fun h => h, fun h => h⟩
  refine ⟨⟨by rw [hsz]; exact hr.base, hr.fresh, fun c z hz => ?_, fun c d u v q r hu hv hurw hsol hq hrr he => ?_⟩, ⟨.refl _, fun _ _ => rfl, rfl, hos, htape, hout, Nat.le_of_eq hsz.symm, fun g hg hno => ?_, fun g hg ho => ?_, fun c _ hd => ?_, fun c z hz hzr => ?_⟩⟩
  · rw [AHeap.set_blk] at hz
    split at hz
    · rename_i e; subst e; cases hz; exact ⟨p, hp, hy⟩
    · rename_i e
      obtain ⟨q, hq, hok⟩ := hr.dom c z hz
      refine ⟨q, hq, hok.keep (.refl _) (fun hs => hw _ (fun e' => e ?_))⟩
      exact (hr.inj b c x z p q hb hz hrw hs hp hq e'.symm).symm
  · obtain ⟨u', hu', h1, _⟩ := hlive c u hu
    obtain ⟨v', hv', _, h2⟩ := hlive d v hv
    exact hr.inj c d u' v' q r hu' hv' (h1 hurw) (h2 hsol) hq hrr he
  · refine hw g (fun e => hno ⟨b, x, p, hb, hrw, hp, e.symm⟩)
  · obtain ⟨c, z, q, hz, hzrw, hq, hg'⟩ := ho
    obtain ⟨z', hz', h1, _⟩ := hlive c z hz
    exact ⟨c, z', q, hz', h1 hzrw, hq, hg'⟩
  · rw [AHeap.set_blk]; split
    · rename_i e; subst e; rw [hb] at hd; cases hd
    · exact hd
  · rw [AHeap.set_blk] at hz; split at hz
    · cases hz; rw [hyrw] at hzr; cases hzr
    · exact hz

/-- A BLOCK IS USED UP, AND ANOTHER TAKES ITS PLACE (append with room). -/
theorem RH.replace {P : Program} {φ : BMap} {σ : AHeap} {w w' : World} {B id b : Nat} {x y : ABlk} {p q : Pl} (hr : RH P φ σ w B) (hb : σ.blk b = some x) (hrw : x.rw = true) (hp : φ b = some p) (hyrw : y.rw = true)
    (hid : φ id = none) (hlt : id < σ.next) (hq : q.g = p.g)
    (hw : ∀ g, g ≠ p.g → w'.heap[g]? = w.heap[g]?) (hsz : w'.heap.size = w.heap.size) (hos : w'.os = w.os) (htape : w'.tape = w.tape) (hout : w'.output = w.output)
    (hy : BlkOk P (lay φ id q) w' B q y) :
    RH P (lay φ id q) ((σ.del b).set id y) w' B ∧ OStep id φ σ w (lay φ id q) ((σ.del b).set id y) w' := by
  have hext : Ext φ (lay φ id q) := lay_ext hid
  have hne : b ≠ id := fun e => by subst e; rw [hid] at hp; cases hp
  have hold : ∀ c z, c ≠ id → ((σ.del b).set id y).blk c = some z → c ≠ b ∧ σ.blk c = some z := fun c z hc hz => by
    rw [AHeap.set_blk, if_neg hc, AHeap.del_blk] at hz
    split at hz
    · cases hz
    · rename_i e; exact ⟨e, hz⟩
  refine ⟨⟨by rw [hsz]; exact hr.base, fun c hc => ?_, fun c z hz => ?_, fun c d u v s r hu hv hurw hsol hs hrr he => ?_⟩, ⟨hext, fun c hc => lay_other _ _ hc, rfl, hos, htape, hout, Nat.le_of_eq hsz.symm, fun g hg hno => ?_, fun g hg ho => ?_, fun c hc hd => ?_, fun c z hz hzr => ?_⟩⟩
  · have : σ.next ≤ c := hc
    rw [lay_other _ _ (by omega)]; exact hr.fresh c hc
  · by_cases hc : c = id
    · subst hc; rw [AHeap.set_blk, if_pos rfl] at hz; cases hz; exact ⟨q, lay_same _ _ _, hy⟩
    · obtain ⟨hcb, hz'⟩ := hold c z hc hz
      obtain ⟨s, hs, hok⟩ := hr.dom c z hz'
      refine ⟨s, by rw [lay_other _ _ hc]; exact hs, hok.keep hext (fun hsol => hw _ (fun e => hcb ?_))⟩
      exact (hr.inj b c x z p s hb hz' hrw hsol hp hs e.symm).symm
  · by_cases hc : c = id <;> by_cases hd : d = id
    · rw [hc, hd]
    · subst hc
      rw [lay_same] at hs; cases hs
      obtain ⟨hdb, hv'⟩ := hold d v hd hv
      rw [lay_other _ _ hd] at hrr
      exact absurd (hr.inj b d x v p r hb hv' hrw hsol hp hrr (by omega)) (fun e => hdb e.symm)
    · subst hd
      rw [lay_same] at hrr; cases hrr
      obtain ⟨hcb, hu'⟩ := hold c u hc hu
      rw [lay_other _ _ hc] at hs
      exact absurd (hr.inj b c x u p s hb hu' hrw (solid_of_rw hurw) hp hs (by omega)) (fun e => hcb e.symm)
    · obtain ⟨_, hu'⟩ := hold c u hc hu
      obtain ⟨_, hv'⟩ := hold d v hd hv
      rw [lay_other _ _ hc] at hs
      rw [lay_other _ _ hd] at hrr
      exact hr.inj c d u v s r hu' hv' hurw hsol hs hrr he
  · exact hw g (fun e => hno ⟨b, x, p, hb, hrw, hp, e.symm⟩)
  · obtain ⟨c, z, s, hz, hzrw, hs, hg'⟩ := ho
    by_cases hc : c = id
    · subst hc; rw [lay_same] at hs; cases hs
      exact ⟨b, x, p, hb, hrw, hp, by omega⟩
    · obtain ⟨_, hz'⟩ := hold c z hc hz
      rw [lay_other _ _ hc] at hs
      exact ⟨c, z, s, hz', hzrw, hs, hg'⟩
  · rw [AHeap.set_blk, if_neg hc, AHeap.del_blk]; split
    · rfl
    · exact hd
  · by_cases hc : c = id
    · subst hc; rw [AHeap.set_blk, if_pos rfl] at hz; cases hz; rw [hyrw] at hzr; cases hzr
    · exact (hold c z hc hz).2

/-- Blocks may be forgotten. -/
theorem RH.del {P : Program} {φ : BMap} {σ : AHeap} {w : World} {B b : Nat} (hr : RH P φ σ w B) : RH P φ (σ.del b) w B := by
  have hold : ∀ c z, (σ.del b).blk c = some z → σ.blk c = some z := fun c z hz => by
    rw [AHeap.del_blk] at hz; split at hz
    · cases hz
    · exact hz
  exact ⟨hr.base, hr.fresh, fun c z hz => hr.dom c z (hold c z hz), fun c d u v q r hu hv => hr.inj c d u v q r (hold c u hu) (hold d v hv)⟩

theorem OStep.del {id b : Nat} {φ φ' : BMap} {σ σ' : AHeap} {w w' : World} (h : OStep id φ (σ.del b) w φ' σ' w') : OStep id φ σ w φ' σ' w' where
  ext := h.ext
  old := h.old
  next := h.next
  os := h.os
  tape := h.tape
  output := h.output
  size := h.size
  kept g hg hno := h.kept g hg (fun ⟨c, x, p, hx, r⟩ => hno ⟨c, x, p, by rw [AHeap.del_blk] at hx; split at hx; cases hx; exact hx, r⟩)
  own g hg ho := let ⟨c, x, p, hx, r⟩ := h.own g hg ho; ⟨c, x, p, by rw [AHeap.del_blk] at hx; split at hx; cases hx; exact hx, r⟩
  dead c hc hd := h.dead c hc (by rw [AHeap.del_blk]; split; rfl; exact hd)
  ro c x hx hr := by have := h.ro c x hx hr; rw [AHeap.del_blk] at this; split at this; cases this; exact this

theorem RH.bump {P : Program} {φ : BMap} {σ : AHeap} {w : World} {B : Nat} (hr : RH P φ σ w B) (n : Nat) : RH P φ (σ.bump n) w B :=
  ⟨hr.base, fun b hb => hr.fresh b (by simp only [AHeap.bump_next] at hb; omega), hr.dom, hr.inj⟩

end Go.Abs

/- THE ABSTRACT MACHINE, part D: each operation of the model does what the abstract one says. -/
namespace Go.Abs
open Go

/-! ### Operands -/
theorem RV.closedCell {φ : BMap} {v : Value} (h : closedCell v = true) : RV φ v v := by
  unfold Abs.closedCell at h
  split at h <;> first | (constructor; done) | (cases h)
theorem ones_closed {xs : List Value} (h : xs.all closedCell = true) : Ones xs := by
  intro i v hv
  have := List.all_eq_true.1 h v (List.mem_of_getElem? hv)
  unfold Abs.closedCell at this
  split at this <;> first | rfl | (cases this)
theorem RVs.closed {φ : BMap} {xs : List Value} (h : xs.all closedCell = true) : RVs φ xs xs := by
  refine ⟨rfl, fun i v v' a b => ?_⟩
  rw [a] at b; cases b
  exact RV.closedCell (List.all_eq_true.1 h v (List.mem_of_getElem? a))
theorem RV.closed {φ : BMap} {v : Value} (h : closedV v = true) : RV φ v v := by
  unfold closedV at h
  split at h
  · rename_i cs
    exact .agg rfl (fun i v v' a b => by rw [a] at b; cases b; exact RV.closedCell (List.all_eq_true.1 h v (by simpa using Array.mem_of_getElem? a)))
      (fun i v a => ones_closed h i v (by simpa using a))
  · exact RV.closedCell h
theorem closed_cells {v : Value} (h : closedV v = true) : v.cells.toList.all closedCell = true := by
  unfold closedV at h
  split at h
  · exact h
  · rename_i hn
    have : v.cells = #[v] := by cases v <;> first | rfl | (rename_i cs; exact absurd rfl (hn cs))
    rw [this]; simpa using h

theorem tmps_getD {tmps : Array Value} {t : Nat} {v : Value} (h : tmps[t]? = some v) : tmps.getD t undef = v := by
  simp [Array.getD_eq_getD_getElem?, h]

theorem aeval_rv {φ : BMap} {N : Nat} {fr : Fr} {a : Act} (hf : RF φ N fr a.tmps) {x : Operand} {v : Value} (h : aeval fr x = some v) : RV φ v (a.eval x) := by
  cases x with
  | tmp t => obtain ⟨v', h1, h2⟩ := hf.get t v h; simp only [Act.eval, tmps_getD h1]; exact h2
  | const c =>
    simp only [aeval] at h
    split at h
    · rename_i hc; cases h; exact RV.closed hc
    · cases h
  | global g => simp [aeval] at h
  | func f => simp only [aeval, Option.some.injEq] at h; subst h; exact .func rfl (fun i v v' a => by simp at a) rfl (fun i v v' a => by simp at a)

theorem aevals_rv {φ : BMap} {N : Nat} {fr : Fr} {a : Act} (hf : RF φ N fr a.tmps) : ∀ {xs : List Operand} {vs : List Value}, aevals fr xs = some vs → RVs φ vs (xs.map a.eval)
  | [], vs, h => by simp only [aevals, Option.some.injEq] at h; subst h; exact .nil φ
  | x :: r, vs, h => by
    simp only [aevals] at h
    split at h
    · rename_i v vs' h1 h2; cases h; exact .cons (aeval_rv hf h1) (aevals_rv hf h2)
    · cases h

theorem aevalO_rv {φ : BMap} {N : Nat} {fr : Fr} {a : Act} (hf : RF φ N fr a.tmps) {x : Option Operand} {v : Option Value} (h : aevalO fr x = some v) :
    (v = none ∧ x.map a.eval = none) ∨ ∃ u u', v = some u ∧ x.map a.eval = some u' ∧ RV φ u u' := by
  cases x with
  | none => simp only [aevalO, Option.some.injEq] at h; subst h; exact .inl ⟨rfl, rfl⟩
  | some x =>
    simp only [aevalO, Option.map_eq_some_iff] at h
    obtain ⟨u, h1, rfl⟩ := h
    exact .inr ⟨u, _, rfl, rfl, aeval_rv hf h1⟩

/-! ### Types -/
theorem ty_spec {P : Program} {t : TypeId} {T : ATy} (h : ty P t = some T) :
    ∃ d i, P.underlying t = some d ∧ P.info? t = some i ∧ T = ⟨akind d, i.size, i.bytes, i.zero⟩ := by
  unfold ty at h
  split at h
  · rename_i d i h1 h2; cases h; exact ⟨d, i, h1, h2, rfl⟩
  · cases h
theorem akind_slice {d : TypeDesc} {e : TypeId} (h : akind d = .slice e) : d = .slice e := by cases d <;> simp [akind] at h; subst h; rfl
theorem akind_array {d : TypeDesc} {n : Nat} {e : TypeId} (h : akind d = .array n e) : d = .array n e := by cases d <;> simp [akind] at h; obtain ⟨rfl, rfl⟩ := h; rfl
theorem akind_map {d : TypeDesc} {k e : TypeId} (h : akind d = .map k e) : d = .map k e := by cases d <;> simp [akind] at h; obtain ⟨rfl, rfl⟩ := h; rfl
theorem akind_int {d : TypeDesc} {k : IntKind} (h : akind d = .int k) : d = .int k := by cases d <;> simp [akind] at h; subst h; rfl
theorem akind_bool {d : TypeDesc} (h : akind d = .bool) : d = .bool := by cases d <;> simp [akind] at h; rfl
theorem akind_string {d : TypeDesc} (h : akind d = .string) : d = .string := by cases d <;> simp [akind] at h; rfl
theorem akind_struct {d : TypeDesc} {fs : List (Nat × TypeId)} (h : akind d = .struct fs) : ∃ gs, d = .struct gs ∧ fs = gs.toList.map fun f => (f.offset, f.type) := by
  cases d <;> simp [akind] at h; rename_i gs; exact ⟨gs, rfl, h.symm⟩

/-- The outcome of an operation, abstract and in the model. -/
def OpOk (P : Program) (B id : Nat) (φ : BMap) (σ : AHeap) (w : World) (r : Result Next) (v : Value) (σ' : AHeap) : Prop :=
  ∃ v' w' φ', (r = .ok (.value v') w' ∨ (r = .ok .skip w' ∧ v' = undef)) ∧ RV φ' v v' ∧ RH P φ' σ' w' B ∧ OStep id φ σ w φ' σ' w'

theorem OpOk.pure {P : Program} {B id : Nat} {φ : BMap} {σ : AHeap} {w : World} {r : Result Next} {v v' : Value} (hr : RH P φ σ w B) (h : r = .ok (.value v') w) (hv : RV φ v v') : OpOk P B id φ σ w r v σ :=
  ⟨v', w, φ, .inl h, hv, hr, .refl _ _ _ _⟩

theorem run_sizeOf {P : Program} {t : TypeId} {i : TypeInfo} (h : P.info? t = some i) (w : World) : (sizeOf t).run P w = .ok i.size w := by simp [sizeOf, typeInfo, h]
theorem run_zeroValue {P : Program} {t : TypeId} {i : TypeInfo} {z : Value} (h : P.info? t = some i) (hz : i.zero = some z) (w : World) : (zeroValue t).run P w = .ok z w := by simp [zeroValue, typeInfo, h, hz]
theorem run_under {P : Program} {t : TypeId} {d : TypeDesc} (h : P.underlying t = some d) (w : World) : (underlying t).run P w = .ok d w := by simp [underlying, h]
theorem run_isAgg {P : Program} {t : TypeId} {T : ATy} (h : ty P t = some T) (w : World) : (isAgg t).run P w = .ok T.agg w := by
  obtain ⟨d, i, h1, _, rfl⟩ := ty_spec h
  simp only [isAgg, Sem.run_bind, run_under h1, Result.andThen_ok]
  cases d <;> simp [ATy.agg, akind]

/-! ### New blocks -/
theorem getElem?_map_range (n : Nat) (f : Nat → Value) (i : Nat) : ((Array.range n).map f)[i]? = if i < n then some (f i) else none := by
  rw [Array.getElem?_map]
  by_cases h : i < n
  · simp [h, Array.getElem?_eq_getElem]
  · simp [h]

/-- A new block of cells, in a world that may have drawn. -/
theorem RH.cells {P : Program} {φ : BMap} {σ : AHeap} {w w1 : World} {B id : Nat} {e : TypeId} {s : Nat} {cs : List Value} {cur : Array Value} (hr : RH P φ σ w B) (hid : φ id = none) (hlt : id < σ.next)
    (hw : w1.heap = w.heap) (hos : w1.os = w.os) (htape : w1.tape = w.tape) (hout : w1.output = w.output) (hs : tsz P e = some s) (hone : Ones cs)
    (hcs : ∀ (i : Nat) (v : Value), cs[i]? = some v → ∃ v', cur[i]? = some v' ∧ RV φ v v') (hlen : cs.length ≤ cur.size) :
    RH P (lay φ id ⟨w.heap.size, 0, cur.size, s⟩) (σ.set id (.cells cs e true)) (w1.alloc (.cells cur e)) B ∧
    OStep id φ σ w (lay φ id ⟨w.heap.size, 0, cur.size, s⟩) (σ.set id (.cells cs e true)) (w1.alloc (.cells cur e)) := by
  have hheap : (w1.alloc (.cells cur e)).heap = w.heap.push (.cells cur e) := by simp [World.alloc, hw]
  have hnew : (w1.alloc (.cells cur e)).heap[w.heap.size]? = some (.cells cur e (0, 0)) := by rw [hheap]; simp
  refine hr.alloc hid hlt hheap hos htape hout rfl rfl ⟨hone, fun i v hv => ?_, hs, fun _ => ⟨rfl, hr.base, cur, hnew, rfl, hlen⟩⟩
  obtain ⟨v', h1, h2⟩ := hcs i v hv
  refine ⟨v', ?_, h2.ext (lay_ext hid)⟩
  simp [World.cell?, hnew, h1]

theorem OpOk.box {P : Program} {B id : Nat} {φ : BMap} {σ σ' : AHeap} {w : World} {e : TypeId} {v v' : Value} {r : Result Next} (hr : RH P φ σ w B) (hid : φ id = none) (hlt : id < σ.next)
    (hv : RV φ v v') (ht : isTuple v = false) (hn : anew P σ id e v.cells.toList = some σ')
    (h : r = .ok (.value (.pointer (some ⟨w.heap.size, 0, none⟩))) (w.alloc (.cells v'.cells e))) : OpOk P B id φ σ w r (.pointer (some ⟨id, 0, none⟩)) σ' := by
  unfold anew at hn
  split at hn
  · rename_i hsome
    cases hn
    obtain ⟨T, hT⟩ := Option.isSome_iff_exists.1 hsome
    have hs : tsz P e = some T.size := by simp [tsz, hT]
    have hc := hv.cells
    obtain ⟨a, b⟩ := hr.cells (w1 := w) (cs := v.cells.toList) (cur := v'.cells) hid hlt rfl rfl rfl rfl hs (hv.ones ht)
      (fun i u hu => let ⟨u', p, q⟩ := hc.get hu; ⟨u', by simpa using p, q⟩) (by have := hc.1; simp at this ⊢; omega)
    refine ⟨_, _, _, .inl h, ?_, a, b⟩
    exact RV.ptr (p := ⟨w.heap.size, 0, v'.cells.size, T.size⟩) (lay_same _ _ _)
  · cases hn

/-! ### What a value is, by what it stands for -/
theorem RV.ptr_inv {φ : BMap} {b off : Nat} {p' : Value} (h : RV φ (.pointer (some ⟨b, off, none⟩)) p') : ∃ p, φ b = some p ∧ p' = .pointer (some ⟨p.g, p.o + off, none⟩) := by
  cases h with | ptr h => exact ⟨_, h, rfl⟩
theorem RV.slice_inv {φ : BMap} {b off len c : Nat} {p' : Value} (h : RV φ (.slice (some ⟨b, off, none⟩) len c) p') :
    ∃ p c', φ b = some p ∧ p' = .slice (some ⟨p.g, p.o + off, none⟩) len c' ∧ len ≤ c ∧ c ≤ c' ∧ (c' = c ∨ off + c' * p.sz ≤ p.room) := by
  cases h with | slice h hl hc hr => exact ⟨_, _, h, rfl, hl, hc, hr⟩
theorem RV.nil_inv {φ : BMap} {p' : Value} (h : RV φ (.slice none 0 0) p') : p' = .slice none 0 0 := by cases h; rfl
theorem RV.map_inv {φ : BMap} {b : Nat} {p' : Value} (h : RV φ (.map (some b)) p') : ∃ p, φ b = some p ∧ p' = .map (some p.g) := by
  cases h with | map h => exact ⟨_, h, rfl⟩
theorem RV.int_inv {φ : BMap} {k : IntKind} {n : Int} {p' : Value} (h : RV φ (.int k n) p') : p' = .int k n := by cases h; rfl
theorem RV.bool_inv {φ : BMap} {b : Bool} {p' : Value} (h : RV φ (.bool b) p') : p' = .bool b := by cases h; rfl
theorem RV.string_inv {φ : BMap} {b : ByteArray} {p' : Value} (h : RV φ (.string b) p') : p' = .string b := by cases h; rfl
theorem RV.agg_inv {φ : BMap} {xs : Array Value} {p' : Value} (h : RV φ (.agg xs) p') : ∃ xs', p' = .agg xs' ∧ RVs φ xs.toList xs'.toList ∧ Ones xs.toList := by
  cases h with | agg hx h ho => exact ⟨_, rfl, ⟨by simpa using hx, fun i a b ha hb => h i a b (by simpa using ha) (by simpa using hb)⟩, fun i a ha => ho i a (by simpa using ha)⟩
theorem RV.tuple_inv {φ : BMap} {xs : Array Value} {p' : Value} (h : RV φ (.tuple xs) p') : ∃ xs', p' = .tuple xs' ∧ RVs φ xs.toList xs'.toList := by
  cases h with | tuple hx h => exact ⟨_, rfl, ⟨by simpa using hx, fun i a b ha hb => h i a b (by simpa using ha) (by simpa using hb)⟩⟩
theorem RV.func_inv {φ : BMap} {f : FuncId} {xs ys : Array Value} {p' : Value} (h : RV φ (.func (.func f) xs ys) p') :
    ∃ xs' ys', p' = .func (.func f) xs' ys' ∧ RVs φ xs.toList xs'.toList ∧ RVs φ ys.toList ys'.toList := by
  cases h with
  | func hx h hy h' => exact ⟨_, _, rfl, ⟨by simpa using hx, fun i a b ha hb => h i a b (by simpa using ha) (by simpa using hb)⟩, ⟨by simpa using hy, fun i a b ha hb => h' i a b (by simpa using ha) (by simpa using hb)⟩⟩

/-! ### Loads -/
theorem Ones.take {xs : List Value} (h : Ones xs) (n : Nat) : Ones (xs.take n) := fun i v hv => by
  rw [List.getElem?_take] at hv; split at hv
  · exact h i v hv
  · cases hv
theorem Ones.drop {xs : List Value} (h : Ones xs) (n : Nat) : Ones (xs.drop n) := fun i v hv => by
  rw [List.getElem?_drop] at hv; exact h _ v hv
theorem Ones.append {xs ys : List Value} (h : Ones xs) (k : Ones ys) : Ones (xs ++ ys) := fun i v hv => by
  by_cases hi : i < xs.length
  · rw [List.getElem?_append_left hi] at hv; exact h i v hv
  · rw [List.getElem?_append_right (by omega)] at hv; exact k _ v hv
theorem Ones.set {xs : List Value} (h : Ones xs) (n : Nat) {u : Value} (hu : u.oneCell' = true) : Ones (xs.set n u) := fun i v hv => by
  rw [List.getElem?_set] at hv
  split at hv
  · split at hv
    · cases hv; exact hu
    · cases hv
  · exact h i v hv
theorem Ones.tail {x : Value} {xs : List Value} (h : Ones (x :: xs)) : Ones xs := fun i v hv => h (i + 1) v (by simpa using hv)

/-- The cells of a stretch of a block. -/
theorem cells_at {P : Program} {B : Nat} {φ : BMap} {w : World} {p : Pl} {cs : List Value} {e : TypeId} {rw : Bool} (h : BlkOk P φ w B p (.cells cs e rw)) {off n : Nat} (hn : off + n ≤ cs.length) :
    ∃ xs, RVs φ ((cs.drop off).take n) xs ∧ xs.length = n ∧ Ones ((cs.drop off).take n) ∧ ∀ (j : Nat) (v : Value), xs[j]? = some v → w.cell? ((⟨p.g, p.o + off, none⟩ : Addr).add j) = some v := by
  obtain ⟨hones, hcell, _⟩ := h
  let f : Nat → Value := fun j => (w.cell? ⟨p.g, p.o + off + j, none⟩).getD undef
  have hex : ∀ j, j < n → ∃ v', w.cell? ⟨p.g, p.o + off + j, none⟩ = some v' ∧ ∃ v, cs[off + j]? = some v ∧ RV φ v v' := fun j hj => by
    have hjl : off + j < cs.length := by omega
    obtain ⟨v', a, b⟩ := hcell (off + j) cs[off + j] (List.getElem?_eq_getElem hjl)
    exact ⟨v', by rw [show p.o + off + j = p.o + (off + j) by omega]; exact a, _, List.getElem?_eq_getElem hjl, b⟩
  refine ⟨(List.range n).map f, ⟨by simp; omega, fun j u u' hu hu' => ?_⟩, by simp, (hones.drop off).take n, fun j v hv => ?_⟩
  · rw [List.getElem?_take] at hu
    split at hu
    · rename_i hj
      rw [List.getElem?_drop] at hu
      rw [List.getElem?_map, List.getElem?_range hj] at hu'
      simp only [Option.map_some, Option.some.injEq] at hu'
      obtain ⟨v', a, v, b, c⟩ := hex j hj
      rw [hu] at b; cases b
      subst hu'
      simpa only [f, a, Option.getD_some] using c
    · cases hu
  · by_cases hj : j < n
    · rw [List.getElem?_map, List.getElem?_range hj] at hv
      simp only [Option.map_some, Option.some.injEq] at hv
      obtain ⟨v', a, _⟩ := hex j hj
      rw [Addr.add_lit]
      subst hv
      simp only [f, a, Option.getD_some]
    · simp [List.getElem?_eq_none (l := (List.range n).map f) (i := j) (by simp; omega)] at hv

theorem aload_rv {P : Program} {B : Nat} {φ : BMap} {σ : AHeap} {w : World} {t : TypeId} {p p' v : Value} (hr : RH P φ σ w B) (h : aload P σ t p = some v) (hp : RV φ p p') :
    ∃ v', (Instr.loadAt t p').run P w = .ok v' w ∧ RV φ v v' := by
  unfold aload at h
  split at h
  · rename_i b off
    split at h
    · rename_i cs e rw T hb hT
      obtain ⟨p, hφ, rfl⟩ := hp.ptr_inv
      obtain ⟨q, hq, hok⟩ := hr.dom b _ hb
      rw [hφ] at hq; cases hq
      have hagg := run_isAgg hT w
      obtain ⟨d, i, hd, hi, rfl⟩ := ty_spec hT
      split at h
      · rename_i ha
        rw [ha] at hagg
        split at h
        · rename_i hlen
          cases h
          obtain ⟨xs, h1, h2, h3, h4⟩ := cells_at hok hlen
          refine ⟨.agg xs.toArray, ?_, RV.agg_of h1 h3⟩
          have hl := run_loadCells_list (P := P) w (⟨p.g, p.o + off, none⟩ : Addr) xs h4
          rw [h2] at hl
          simp only [Instr.loadAt, Instr.sureAddr, loadVar, Sem.run_bind, Sem.run_pure, Result.andThen_ok, hagg, if_true, run_sizeOf hi]
          simp only [] at hl
          rw [hl]
          rfl
        · cases h
      · rename_i ha
        have ha' : (ATy.agg ⟨akind d, i.size, i.bytes, i.zero⟩) = false := by simpa using ha
        rw [ha'] at hagg
        obtain ⟨v', a, b⟩ := hok.2.1 off v h
        refine ⟨v', ?_, b⟩
        simp [Instr.loadAt, Instr.sureAddr, loadVar, hagg, a]
    · cases h
  · cases h

/-! ### Stores -/
theorem setRange_length (cs : List Value) : ∀ (vs : List Value) (off : Nat), (setRange cs off vs).length = cs.length := by
  intro vs
  induction vs generalizing cs with
  | nil => intro off; rfl
  | cons v vs ih => intro off; simp [setRange, ih]

theorem setRange_get : ∀ (vs cs : List Value) (off i : Nat), off + vs.length ≤ cs.length → (setRange cs off vs)[i]? = if off ≤ i ∧ i < off + vs.length then vs[i - off]? else cs[i]? := by
  intro vs
  induction vs with
  | nil => intro cs off i _; simp only [setRange, List.length_nil]; rw [if_neg (by omega)]
  | cons v vs ih =>
    intro cs off i h
    simp only [setRange, List.length_cons] at *
    rw [ih (cs.set off v) (off + 1) i (by rw [List.length_set]; omega)]
    by_cases h1 : off + 1 ≤ i ∧ i < off + 1 + vs.length
    · rw [if_pos h1, if_pos (by omega), show i - off = (i - (off + 1)) + 1 by omega]; rfl
    · rw [if_neg h1]
      by_cases h2 : i = off
      · subst h2
        rw [if_pos (by omega), List.getElem?_set, if_pos rfl, if_pos (by omega), Nat.sub_self]; rfl
      · rw [if_neg (by omega), List.getElem?_set, if_neg (by omega)]

theorem Ones.setRange {xs : List Value} (h : Ones xs) (n : Nat) {us : List Value} (hu : Ones us) : Ones (setRange xs n us) := by
  induction us generalizing xs n with
  | nil => exact h
  | cons u us ih => exact ih (h.set n (hu 0 u rfl)) (n + 1) hu.tail

/-- Cells are stored into a block of the heap's own. -/
theorem store_cells {P : Program} {B id b off : Nat} {φ : BMap} {σ : AHeap} {w : World} {p : Pl} {cs news news' : List Value} {e : TypeId} (hr : RH P φ σ w B) (hb : σ.blk b = some (.cells cs e true))
    (hp : φ b = some p) (hn : RVs φ news news') (hone : Ones news) (hlen : off + news.length ≤ cs.length) :
    ∃ w', (storeCells ⟨p.g, p.o + off, none⟩ news').run P w = .ok () w' ∧ RH P φ (σ.set b (.cells (setRange cs off news) e true)) w' B ∧ OStep id φ σ w φ (σ.set b (.cells (setRange cs off news) e true)) w' := by
  obtain ⟨q, hq, hok⟩ := hr.dom b _ hb
  rw [hp] at hq; cases hq
  obtain ⟨hones, hcell, hsz, hrw⟩ := hok
  obtain ⟨ho, hB, cur, hcur, hroom, hle⟩ := hrw rfl
  have hlen' : news'.length = news.length := hn.1.symm
  have hone' : ∀ v ∈ news', v.oneCell' = true := fun v hv => by
    obtain ⟨i, hi⟩ := List.mem_iff_getElem?.1 hv
    have hil : i < news'.length := (List.getElem?_eq_some_iff.1 hi).1
    have := hn.2 i news[i] v (List.getElem?_eq_getElem (by omega)) hi
    rw [this.oneCell]; exact hone i _ (List.getElem?_eq_getElem (by omega))
  have hst := run_storeCells_at P p.g off e news' 0 cur w hcur (by simp only [Nat.add_zero]; omega) hone'
  simp only [Nat.add_zero] at hst
  have hgl : p.g < w.heap.size := (Array.getElem?_eq_some_iff.1 hcur).1
  refine ⟨_, by rw [ho, Nat.zero_add]; exact hst, ?_⟩
  have hnew : (w.setRow p.g (cur.toList.take off ++ news' ++ cur.toList.drop (off + news'.length)).toArray).heap[p.g]? =
      some (.cells (cur.toList.take off ++ news' ++ cur.toList.drop (off + news'.length)).toArray e (0, 0)) := by
    simp only [World.setRow, Array.getElem?_modify, if_true, hcur, Option.map_some]
  refine hr.write (p := p) hb rfl hp rfl (fun g hg => ?_) ?_ rfl rfl rfl ⟨hones.setRange _ hone, fun i v hv => ?_, hsz, fun _ => ⟨ho, hB, _, hnew, ?_, ?_⟩⟩
  · simp only [World.setRow, Array.getElem?_modify]; rw [if_neg (by omega)]
  · simp [World.setRow]
  · rw [setRange_get _ _ _ _ hlen] at hv
    rw [ho, Nat.zero_add]
    have hcellnew : ∀ j, (w.setRow p.g (cur.toList.take off ++ news' ++ cur.toList.drop (off + news'.length)).toArray).cell? ⟨p.g, j, none⟩ = (cur.toList.take off ++ news' ++ cur.toList.drop (off + news'.length))[j]? := fun j => by
      simp only [World.cell?, hnew, Option.isSome_none, Bool.false_eq_true, if_false, List.getElem?_toArray]
    rw [hcellnew]
    have hoff : off ≤ cur.toList.length := by simp; omega
    split at hv
    · rename_i hi
      obtain ⟨v', h1, h2⟩ := hn.get hv
      refine ⟨v', ?_, h2⟩
      rw [List.append_assoc, List.getElem?_append_right (by simp; omega), List.getElem?_append_left (by simp; omega)]
      simp only [List.length_take, Nat.min_eq_left hoff]; exact h1
    · rename_i hi
      obtain ⟨v', h1, h2⟩ := hcell i v hv
      rw [ho, Nat.zero_add] at h1
      have h1' : cur[i]? = some v' := by simpa [World.cell?, hcur] using h1
      refine ⟨v', ?_, h2⟩
      by_cases hi1 : i < off
      · rw [List.append_assoc, List.getElem?_append_left (by simp; omega), List.getElem?_take, if_pos hi1]; simpa using h1'
      · rw [List.getElem?_append_right (by simp; omega), List.getElem?_drop]
        simp only [List.length_append, List.length_take, Nat.min_eq_left hoff]
        rw [show off + news'.length + (i - (off + news'.length)) = i by omega]; simpa using h1'
  · simp only [List.size_toArray, List.length_append, List.length_take, List.length_drop, Nat.min_eq_left (show off ≤ cur.toList.length by simp; omega)]
    simp only [Array.length_toList]; omega
  · rw [setRange_length]; exact hle

theorem astore_ok {P : Program} {B id : Nat} {φ : BMap} {σ σ' : AHeap} {w : World} {t : TypeId} {p p' v v' : Value} (hr : RH P φ σ w B) (h : astore P σ t p v = some σ') (hp : RV φ p p') (hv : RV φ v v') :
    ∃ w', (Instr.storeAt t p' v').run P w = .ok () w' ∧ RH P φ σ' w' B ∧ OStep id φ σ w φ σ' w' := by
  unfold astore at h
  split at h
  · rename_i b off
    split at h
    · rename_i cs e T hb hT
      split at h
      · rename_i hc
        obtain ⟨h1, h2, h3⟩ := hc
        cases h
        obtain ⟨p, hφ, rfl⟩ := hp.ptr_inv
        obtain ⟨d, i, hd, hi, rfl⟩ := ty_spec hT
        have hcl := hv.cells
        obtain ⟨w', a, b, c⟩ := store_cells (id := id) (off := off) hr hb hφ hcl (hv.ones h3) (by simp only [Array.length_toList]; simp only [] at h1 h2; omega)
        refine ⟨w', ?_, b, c⟩
        have hsz : v'.cells.size = i.size := by have := hcl.1; simp only [Array.length_toList] at this; rw [← this]; exact h1
        simp [Instr.storeAt, Instr.sureAddr, storeVar, run_sizeOf hi, hsz, a]
      · cases h
    · cases h
  · cases h

end Go.Abs

/- THE ABSTRACT MACHINE, part E: append, copy, clear, make, and what is built. -/
namespace Go.Abs
open Go

/-- Cells are stored into a row that is not frozen. -/
theorem world_store (P : Program) {w : World} {g off : Nat} {e : TypeId} {cur : Array Value} {news : List Value} (hcur : w.heap[g]? = some (.cells cur e (0, 0))) (hle : off + news.length ≤ cur.size) (hone : ∀ v ∈ news, v.oneCell' = true) :
    ∃ w' cur', (storeCells ⟨g, off, none⟩ news).run P w = .ok () w' ∧ w'.heap[g]? = some (.cells cur' e (0, 0)) ∧ cur'.size = cur.size ∧
      (∀ i : Nat, cur'[i]? = if off ≤ i ∧ i < off + news.length then news[i - off]? else cur[i]?) ∧ (∀ k, k ≠ g → w'.heap[k]? = w.heap[k]?) ∧ w'.heap.size = w.heap.size ∧
      w'.os = w.os ∧ w'.tape = w.tape ∧ w'.output = w.output := by
  have hst := run_storeCells_at P g off e news 0 cur w hcur (by simp only [Nat.add_zero]; omega) hone
  simp only [Nat.add_zero] at hst
  have hoff : off ≤ cur.toList.length := by simp; omega
  refine ⟨_, (cur.toList.take off ++ news ++ cur.toList.drop (off + news.length)).toArray, hst, ?_, ?_, fun i => ?_, fun k hk => ?_, ?_, rfl, rfl, rfl⟩
  · simp only [World.setRow, Array.getElem?_modify, if_true, hcur, Option.map_some]
  · simp only [List.size_toArray, List.length_append, List.length_take, List.length_drop, Nat.min_eq_left hoff]; simp only [Array.length_toList]; omega
  · simp only [List.getElem?_toArray]
    split
    · rename_i hi
      rw [List.append_assoc, List.getElem?_append_right (by simp; omega), List.getElem?_append_left (by simp; omega)]
      simp only [List.length_take, Nat.min_eq_left hoff]
    · rename_i hi
      by_cases hi1 : i < off
      · rw [List.append_assoc, List.getElem?_append_left (by simp; omega), List.getElem?_take, if_pos hi1]; simp
      · rw [List.getElem?_append_right (by simp; omega), List.getElem?_drop]
        simp only [List.length_append, List.length_take, Nat.min_eq_left hoff]
        rw [show off + news.length + (i - (off + news.length)) = i by omega]; simp
  · simp only [World.setRow, Array.getElem?_modify]; rw [if_neg (by omega)]
  · simp [World.setRow]

theorem RVs.ones {φ : BMap} {xs xs' : List Value} (h : RVs φ xs xs') (ho : Ones xs) : ∀ v ∈ xs', v.oneCell' = true := fun v hv => by
  obtain ⟨i, hi⟩ := List.mem_iff_getElem?.1 hv
  have hil : i < xs'.length := (List.getElem?_eq_some_iff.1 hi).1
  have hl := h.1
  have := h.2 i (xs[i]'(by omega)) v (List.getElem?_eq_getElem (by omega)) hi
  rw [this.oneCell]; exact ho i _ (List.getElem?_eq_getElem (by omega))

theorem tk_slice {P : Program} {t e : TypeId} (h : tk P t = some (.slice e)) : P.underlying t = some (.slice e) := by
  unfold tk at h
  split at h
  · rename_i T hT
    obtain ⟨d, i, hd, hi, rfl⟩ := ty_spec hT
    cases h' : d <;> simp [h', akind] at h
    subst h; subst h'; exact hd
  · cases h
theorem tk_string {P : Program} {t : TypeId} (h : tk P t = some .string) : P.underlying t = some .string := by
  unfold tk at h
  split at h
  · rename_i T hT
    obtain ⟨d, i, hd, hi, rfl⟩ := ty_spec hT
    cases h' : d <;> simp [h', akind] at h
    subst h'; exact hd
  · cases h
theorem tk_array {P : Program} {t e : TypeId} {n : Nat} (h : tk P t = some (.array n e)) : P.underlying t = some (.array n e) := by
  unfold tk at h
  split at h
  · rename_i T hT
    obtain ⟨d, i, hd, hi, rfl⟩ := ty_spec hT
    cases h' : d <;> simp [h', akind] at h
    obtain ⟨rfl, rfl⟩ := h; subst h'; exact hd
  · cases h
theorem tk_bool {P : Program} {t : TypeId} (h : tk P t = some .bool) : P.underlying t = some .bool := by
  unfold tk at h
  split at h
  · rename_i T hT
    obtain ⟨d, i, hd, hi, rfl⟩ := ty_spec hT
    cases h' : d <;> simp [h', akind] at h
    subst h'; exact hd
  · cases h

theorem RVs.bytes (φ : BMap) (s : ByteArray) : RVs φ (byteCells s) (byteCells s) := by
  refine ⟨rfl, fun i v v' a b => ?_⟩
  rw [a] at b; cases b
  obtain ⟨_, _, rfl⟩ := List.mem_map.1 (List.mem_of_getElem? a)
  exact .int _ _
theorem Ones.bytes (s : ByteArray) : Ones (byteCells s) := fun i v a => by
  obtain ⟨_, _, rfl⟩ := List.mem_map.1 (List.mem_of_getElem? a); rfl

theorem asrc_src {P : Program} {B : Nat} {φ : BMap} {σ : AHeap} {w : World} {t : TypeId} {s n : Nat} {z x x' : Value} {news : List Value} (hr : RH P φ σ w B) (h : asrc P σ t s z x = some (n, news)) (hx : RV φ x x') :
    ∃ news', Src P s t x' n news' w ∧ RVs φ news news' ∧ Ones news ∧ news.length = n * s := by
  unfold asrc at h
  split at h
  · split at h
    · rename_i e hk
      cases h; cases hx.nil_inv
      exact ⟨[], Src.ofNil w (tk_slice hk) 0, .nil _, fun i v a => by simp at a, by simp⟩
    · cases h
  · rename_i b off n' c
    split at h
    · rename_i e cs e' rw hk hb
      split at h
      · rename_i hlen
        cases h
        obtain ⟨p, c', hφ, rfl, h1, h2, h3⟩ := hx.slice_inv
        obtain ⟨q, hq, hok⟩ := hr.dom b _ hb
        rw [hφ] at hq; cases hq
        obtain ⟨xs, a1, a2, a3, a4⟩ := cells_at hok hlen
        exact ⟨xs, Src.ofSlice w (tk_slice hk) _ n c' xs a2 a4 (a1.ones a3), a1, a3, by rw [a1.1, a2]⟩
      · cases h
    · cases h
  · rename_i b
    split at h
    · rename_i hk
      split at h
      · rename_i hs
        cases h; subst hs; cases hx.string_inv
        exact ⟨byteCells b, Src.ofString w (tk_string hk) b, .bytes _ _, .bytes _, by rw [byteCells_length, Nat.mul_one]⟩
      · cases h
    · cases h
  · cases h

theorem run_append_zero (P : Program) (w : World) (t tx ty e : TypeId) (i : TypeInfo) (ht : P.underlying t = some (.slice e)) (hi : P.info? e = some i) (x : Value) (news : List Value) (hs : Src P i.size tx x 0 news w) :
    (Builtin.append_ #[t, tx] ty #[.slice none 0 0, x]).run P w = .ok (.slice none 0 0) w := by
  rcases hs.kind with ⟨e', hk⟩ | hk <;> simp [Builtin.append_, run_underlying ht, run_underlying hk, sizeOf, typeInfo, hi, hs.len, hs.cells]

theorem zero_cells_size (z : Array Value) (n : Nat) : (Builtin.zeroCells z n).size = n * z.size := by simp [Builtin.zeroCells]

theorem aappend_ok {P : Program} {B id : Nat} {φ : BMap} {σ σ' : AHeap} {w : World} {tS tX rt : TypeId} {v v' x x' u : Value} (hr : RH P φ σ w B) (hid : φ id = none) (hlt : id < σ.next)
    (h : aappend P σ id tS tX v x = some (u, σ')) (hv : RV φ v v') (hx : RV φ x x') :
    ∃ u' w' φ', (Builtin.append_ #[tS, tX] rt #[v', x']).run P w = .ok u' w' ∧ RV φ' u u' ∧ RH P φ' σ' w' B ∧ OStep id φ σ w φ' σ' w' := by
  unfold aappend at h
  split at h
  case h_2 => cases h
  rename_i e _ _ _ hS
  split at h
  case h_2 => cases h
  rename_i ek s bytes z hE
  obtain ⟨dS, iS, hdS, hiS, heS⟩ := ty_spec hS
  obtain ⟨d, i, hd, hi, heq⟩ := ty_spec hE
  have hkS : akind dS = .slice e := by injection heS with a; exact a.symm
  have hsl : P.underlying tS = some (.slice e) := by rw [hdS, akind_slice hkS]
  injection heq with _ hsz hby hz
  subst hsz; subst hby
  split at h
  case isFalse => cases h
  rename_i hzs
  split at h
  case h_2 => cases h
  rename_i n news hsrc
  obtain ⟨news', hs, hn, hone, hnl⟩ := asrc_src hr hsrc hx
  have htsz : tsz P e = some i.size := by simp [tsz, hE]
  have hn' : news'.length = n * i.size := by rw [← hn.1, hnl]
  split at h
  · -- nil
    cases hv.nil_inv
    split at h
    · rename_i h0
      cases h; subst h0
      exact ⟨_, w, φ, run_append_zero P w tS tX rt e i hsl hi x' news' hs, .nilslice, hr, .refl _ _ _ _⟩
    · rename_i h0
      split at h
      · rename_i hb
        cases h
        have hg := run_append_grow_src (P := P) w tS tX rt e i z hsl hi hz.symm none 0 0 [] (run_firstCells_none _ _ _ _ _) x' n news' hs (by omega) (by omega) (growslice_fits (by omega) (by rw [Nat.zero_add]; omega))
        rw [Nat.zero_add] at hg
        have hcap := grownCap_ge w n 0 e
        have hsize : (([] ++ news').toArray ++ Builtin.zeroCells z.cells (grownCap w n 0 e - n)).size = grownCap w n 0 e * i.size := by
          simp only [List.nil_append, Array.size_append, List.size_toArray, zero_cells_size, hzs, hn', ← Nat.add_mul]; congr 1; omega
        obtain ⟨a, b⟩ := hr.cells (w1 := w.drew) (cs := news) (cur := ([] ++ news').toArray ++ Builtin.zeroCells z.cells (grownCap w n 0 e - n)) hid hlt rfl rfl rfl rfl htsz hone
          (fun j u hu => let ⟨u', p, q⟩ := hn.get hu; ⟨u', by
            have hj : j < news'.length := (List.getElem?_eq_some_iff.1 p).1
            rw [List.nil_append, Array.getElem?_append_left (by simpa using hj)]; simpa using p, q⟩)
          (by rw [hsize, hnl]; exact Nat.mul_le_mul_right _ hcap)
        refine ⟨_, _, _, hg, ?_, a, b⟩
        exact RV.slice (p := ⟨w.heap.size, 0, _, i.size⟩) (lay_same _ _ _) (Nat.le_refl _) hcap (.inr (by simp only [Nat.zero_add]; exact Nat.le_of_eq hsize.symm))
      · cases h
  · rename_i b off len c
    split at h
    case h_2 => cases h
    rename_i cs e' hb
    split at h
    case isFalse => cases h
    rename_i he
    subst he
    obtain ⟨p, c', hφ, rfl, h1, h2, h3⟩ := hv.slice_inv
    obtain ⟨q, hq, hok⟩ := hr.dom b _ hb
    rw [hφ] at hq; cases hq
    obtain ⟨hones, hcell, hpsz, hrw⟩ := hok
    obtain ⟨ho, hB, cur, hcur, hroom, hle⟩ := hrw rfl
    have hpe : p.sz = i.size := by rw [htsz] at hpsz; exact (Option.some.inj hpsz).symm
    split at h
    · -- known room
      rename_i hc
      split at h
      · rename_i hlen
        cases h
        obtain ⟨w', a, b', c''⟩ := store_cells (id := id) (off := off + len * i.size) hr hb hφ hn hone (by rw [hnl, Nat.add_assoc, ← Nat.add_mul]; exact hlen)
        refine ⟨.slice (some ⟨p.g, p.o + off, none⟩) (len + n) c', w', φ, ?_, .slice hφ hc h2 h3, b', c''⟩
        have hroom' : len + n ≤ c' := by omega
        have hst : (storeCells ((⟨p.g, p.o + off, none⟩ : Addr).add (len * i.size)) news').run P w = .ok () w' := by rw [Addr.add_lit, Nat.add_assoc]; exact a
        rw [Addr.add_lit] at hst
        rcases hs.kind with ⟨e'', hk⟩ | hk <;> simp [Builtin.append_, run_underlying hsl, run_underlying hk, sizeOf, typeInfo, hi, hs.len, hroom', hs.cells, Addr.add_lit, hst]
      · cases h
    · rename_i hc
      split at h
      case isFalse => cases h
      rename_i hfull
      obtain ⟨hoff, hcl, hby, h63⟩ := hfull
      cases h
      subst hoff
      have hp0 : p.o + 0 = 0 := by omega
      by_cases hroom' : len + n ≤ c'
      · -- there is room behind
        have hcr : c' * p.sz ≤ p.room := by
          rcases h3 with h3 | h3
          · omega
          · omega
        have hneed : (len + n) * i.size ≤ cur.size := by
          rw [hroom]; rw [hpe] at hcr; exact Nat.le_trans (Nat.mul_le_mul_right _ hroom') hcr
        rw [Nat.add_mul] at hneed
        obtain ⟨w', cur', a1, a2, a3, a4, a5, a6, a7, a8, a9⟩ := world_store P (news := news') hcur (off := len * i.size) (by omega) (hn.ones hone)
        have hlne := lay_ext (φ := φ) (p := p) hid
        obtain ⟨b1, b2⟩ := hr.replace (id := id) (q := p) (y := .cells (cs ++ news) e' true) hb rfl hφ rfl hid hlt rfl a5 a6 a7 a8 a9
          ⟨hones.append hone, fun j u hu => by
            rw [ho, Nat.zero_add]
            have hcn : w'.cell? ⟨p.g, j, none⟩ = cur'[j]? := by simp [World.cell?, a2]
            rw [hcn, a4]
            by_cases hj : j < cs.length
            · rw [List.getElem?_append_left hj] at hu
              rw [if_neg (by omega)]
              obtain ⟨u', c1, c2⟩ := hcell j u hu
              rw [ho, Nat.zero_add] at c1
              exact ⟨u', by simpa [World.cell?, hcur] using c1, c2.ext hlne⟩
            · rw [List.getElem?_append_right (by omega)] at hu
              obtain ⟨u', c1, c2⟩ := hn.get hu
              have hj' : j - cs.length < news'.length := (List.getElem?_eq_some_iff.1 c1).1
              rw [if_pos (by omega)]
              exact ⟨u', by rw [hcl]; exact c1, c2.ext hlne⟩, hpsz, fun _ => ⟨ho, hB, cur', a2, by rw [a3]; exact hroom, by rw [List.length_append, hnl, ← hcl]; omega⟩⟩
        refine ⟨.slice (some ⟨p.g, p.o + 0, none⟩) (len + n) c', w', _, ?_, ?_, b1, b2⟩
        · have hst : (storeCells ⟨p.g, len * i.size, none⟩ news').run P w = .ok () w' := a1
          simp only [ho, Nat.zero_add]
          rcases hs.kind with ⟨e'', hk⟩ | hk <;> simp [Builtin.append_, run_underlying hsl, run_underlying hk, sizeOf, typeInfo, hi, hs.len, hroom', hs.cells, Addr.add_lit, hst]
        · exact RV.slice (p := p) (lay_same _ _ _) (Nat.le_refl _) hroom' (.inr (by omega))
      · -- a new row
        obtain ⟨xs, c1, c2, c3, c4⟩ := cells_at (P := P) (φ := φ) (w := w) (B := B) (p := p) ⟨hones, hcell, hpsz, hrw⟩ (off := 0) (n := len * i.size) (by omega)
        rw [List.drop_zero, List.take_of_length_le (by omega)] at c1 c3
        have hold := run_firstCells_some (P := P) w.drew i.size len ⟨p.g, p.o + 0, none⟩ len c' xs c2 (by simpa using c4)
        have hg := run_append_grow_src (P := P) w tS tX rt e' i z hsl hi hz.symm (some ⟨p.g, p.o + 0, none⟩) len c' xs hold x' n news' hs (by omega) (by omega) (growslice_fits (by omega) (by omega))
        have hcap := grownCap_ge w (len + n) c' e'
        have hsize : ((xs ++ news').toArray ++ Builtin.zeroCells z.cells (grownCap w (len + n) c' e' - (len + n))).size = grownCap w (len + n) c' e' * i.size := by
          simp only [Array.size_append, List.size_toArray, List.length_append, zero_cells_size, hzs, hn', c2, ← Nat.add_mul]; congr 1; omega
        have happ := c1.append hn
        obtain ⟨a, b'⟩ := (hr.del (b := b)).cells (w1 := w.drew) (cs := cs ++ news) (cur := (xs ++ news').toArray ++ Builtin.zeroCells z.cells (grownCap w (len + n) c' e' - (len + n))) hid hlt rfl rfl rfl rfl htsz (c3.append hone)
          (fun j u hu => let ⟨u', p, q⟩ := happ.get hu; ⟨u', by
            have hj : j < (xs ++ news').length := (List.getElem?_eq_some_iff.1 p).1
            rw [Array.getElem?_append_left (by simpa using hj)]; simpa using p, q⟩)
          (by rw [hsize, List.length_append, ← hcl, hnl, ← Nat.add_mul]; exact Nat.mul_le_mul_right _ hcap)
        refine ⟨_, _, _, hg, ?_, a, b'.del⟩
        exact RV.slice (p := ⟨w.heap.size, 0, _, i.size⟩) (lay_same _ _ _) (Nat.le_refl _) hcap (.inr (by simp only [Nat.zero_add]; exact Nat.le_of_eq hsize.symm))
  · cases h

end Go.Abs

/- THE ABSTRACT MACHINE, part F: copy, clear, make, build, addresses, slices. -/
namespace Go.Abs
open Go

theorem under_of {P : Program} {t : TypeId} {T : ATy} (h : ty P t = some T) : ∃ d i, P.underlying t = some d ∧ P.info? t = some i ∧ T.k = akind d ∧ T.size = i.size ∧ T.bytes = i.bytes ∧ T.zero = i.zero := by
  obtain ⟨d, i, a, b, rfl⟩ := ty_spec h
  exact ⟨d, i, a, b, rfl, rfl, rfl, rfl⟩

theorem slice_of {P : Program} {t e : TypeId} {a b : Nat} {z : Option Value} (h : ty P t = some ⟨.slice e, a, b, z⟩) : P.underlying t = some (.slice e) := tk_slice (by simp [tk, h])
theorem array_of {P : Program} {t e : TypeId} {n a b : Nat} {z : Option Value} (h : ty P t = some ⟨.array n e, a, b, z⟩) : P.underlying t = some (.array n e) := tk_array (by simp [tk, h])
theorem string_of {P : Program} {t : TypeId} {a b : Nat} {z : Option Value} (h : ty P t = some ⟨.string, a, b, z⟩) : P.underlying t = some .string := tk_string (by simp [tk, h])
theorem map_of {P : Program} {t k e : TypeId} {a b : Nat} {z : Option Value} (h : ty P t = some ⟨.map k e, a, b, z⟩) : P.underlying t = some (.map k e) := by
  obtain ⟨d, i, hd, hi, hk, _⟩ := under_of h
  rw [hd, akind_map hk.symm]
theorem struct_of {P : Program} {t : TypeId} {fs : List (Nat × TypeId)} {a b : Nat} {z : Option Value} (h : ty P t = some ⟨.struct fs, a, b, z⟩) : ∃ gs, P.underlying t = some (.struct gs) ∧ fs = gs.toList.map fun f => (f.offset, f.type) := by
  obtain ⟨d, i, hd, hi, hk, _⟩ := under_of h
  obtain ⟨gs, rfl, hf⟩ := akind_struct hk.symm
  exact ⟨gs, hd, hf⟩
theorem size_of {P : Program} {t : TypeId} {T : ATy} (h : ty P t = some T) (w : World) : (sizeOf t).run P w = .ok T.size w := by
  obtain ⟨d, i, _, hi, _, hs, _⟩ := under_of h
  rw [hs]; exact run_sizeOf hi w
theorem zero_of {P : Program} {t : TypeId} {T : ATy} {z : Value} (h : ty P t = some T) (hz : T.zero = some z) (w : World) : (zeroValue t).run P w = .ok z w := by
  obtain ⟨d, i, _, hi, _, _, _, h0⟩ := under_of h
  exact run_zeroValue hi (by rw [← h0]; exact hz) w

/-! ### copy -/
theorem acopy_ok {P : Program} {B id : Nat} {φ : BMap} {σ σ' : AHeap} {w : World} {tD tX rt : TypeId} {d d' x x' u : Value} (hr : RH P φ σ w B)
    (h : acopy P σ tD tX d x = some (u, σ')) (hd : RV φ d d') (hx : RV φ x x') :
    ∃ u' w', (Builtin.copy_ #[tD, tX] rt #[d', x']).run P w = .ok u' w' ∧ RV φ u u' ∧ RH P φ σ' w' B ∧ OStep id φ σ w φ σ' w' := by
  unfold acopy at h
  split at h
  case h_2 => cases h
  rename_i e _ _ _ hS
  split at h
  case h_2 => cases h
  rename_i E hE
  split at h
  case h_2 => cases h
  rename_i b off dl _ b' off' sl _
  split at h
  case h_2 => cases h
  rename_i cs e' cs' e'' rw' hb hb'
  split at h
  case isFalse => cases h
  rename_i hlen
  obtain ⟨hl1, hl2⟩ := hlen
  cases h
  obtain ⟨p, c', hφ, rfl, h1, h2, h3⟩ := hd.slice_inv
  obtain ⟨p', c'', hφ', rfl, h1', h2', h3'⟩ := hx.slice_inv
  obtain ⟨q, hq, hok⟩ := hr.dom b' _ hb'
  rw [hφ'] at hq; cases hq
  obtain ⟨xs, a1, a2, a3, a4⟩ := cells_at hok hl2
  obtain ⟨w', s1, s2, s3⟩ := store_cells (id := id) (off := off) hr hb hφ a1 a3 (by rw [a1.1, a2]; exact hl1)
  refine ⟨.int .i64 (Nat.min sl dl : Nat), w', ?_, .int _ _, s2, s3⟩
  have hc := run_firstCells_some (P := P) w E.size (Nat.min sl dl) ⟨p'.g, p'.o + off', none⟩ sl c'' xs a2 a4
  simp [Builtin.copy_, run_underlying (slice_of hS), Builtin.lenOf, size_of hE, hc, s1, goInt]

theorem toArray_map_range (n : Nat) (f : Nat → Value) : (Array.range n).map f = ((List.range n).map f).toArray := by
  apply Array.ext'; simp

theorem zeros_map (z : Array Value) : ∀ n : Nat, (Array.range (n * z.size)).map (fun i => z[i % z.size]!) = ((List.replicate n z.toList).flatten).toArray
  | 0 => by simp
  | n + 1 => by
    have ih := zeros_map z n
    rw [toArray_map_range] at ih ⊢
    congr 1
    have ih' := congrArg Array.toList ih
    simp only at ih'
    rw [Nat.add_mul, Nat.one_mul, List.range_add, List.map_append, ih', List.replicate_succ', List.flatten_append]
    congr 1
    simp only [List.map_map, List.flatten_cons, List.flatten_nil, List.append_nil]
    apply List.ext_getElem
    · simp
    · intro i hi1 hi2
      simp only [List.length_map, List.length_range] at hi1
      simp only [List.getElem_map, List.getElem_range, Function.comp, Nat.mul_add_mod_self_right, Nat.mod_eq_of_lt hi1]
      rw [getElem!_pos z i hi1]; simp

theorem zerosL_length (z : Value) (n : Nat) : (zerosL z n).length = n * z.cells.size := by simp [zerosL]
theorem zerosL_closed {z : Value} (h : closedV z = true) (n : Nat) : (zerosL z n).all closedCell = true := by
  simp only [zerosL, List.all_flatten, List.all_replicate, closed_cells h]
  simp

theorem zeroCells_eq (z : Value) (n : Nat) : Builtin.zeroCells z.cells n = (zerosL z n).toArray := by
  unfold Builtin.zeroCells zerosL; exact zeros_map z.cells n

theorem aclear_ok {P : Program} {B id : Nat} {φ : BMap} {σ σ' : AHeap} {w : World} {t rt : TypeId} {x x' : Value} {tx : Array TypeId} (hr : RH P φ σ w B) (ht : tx[0]? = some t)
    (h : aclear P σ t x = some σ') (hx : RV φ x x') (hty : (P.underlying t).isSome = true) :
    ∃ w', (Builtin.clear_ tx rt #[x']).run P w = .ok (.tuple #[]) w' ∧ RH P φ σ' w' B ∧ OStep id φ σ w φ σ' w' := by
  obtain ⟨dd, hdd⟩ := Option.isSome_iff_exists.1 hty
  unfold aclear at h
  split at h
  · cases h; cases hx.nil_inv
    exact ⟨w, by simp [Builtin.clear_, ht, run_underlying hdd], hr, .refl _ _ _ _⟩
  · rename_i a c
    cases h
    have hx' : ∃ a' c', x' = .slice a' 0 c' := by cases hx; exact ⟨_, _, rfl⟩
    obtain ⟨a', c', rfl⟩ := hx'
    refine ⟨w, ?_, hr, .refl _ _ _ _⟩
    cases a' <;> simp [Builtin.clear_, ht, run_underlying hdd]
  · rename_i b off n c hn
    split at h
    case h_2 => cases h
    rename_i e _ _ _ hS
    split at h
    case h_2 => cases h
    rename_i ek s by' z cs e' hE hb
    split at h
    case isFalse => cases h
    rename_i hc
    obtain ⟨hz, hzs, hlen⟩ := hc
    cases h
    obtain ⟨p, c', hφ, rfl, h1, h2, h3⟩ := hx.slice_inv
    obtain ⟨w', s1, s2, s3⟩ := store_cells (id := id) (off := off) hr hb hφ (RVs.closed (zerosL_closed hz n)) (ones_closed (zerosL_closed hz n)) (by rw [zerosL_length, hzs]; exact hlen)
    refine ⟨w', ?_, s2, s3⟩
    have hn0 : n ≠ 0 := fun e0 => by subst e0; first | exact hn rfl | exact hn _ rfl | exact hn _ _ rfl | exact hn _ rfl rfl
    cases n with
    | zero => exact absurd rfl hn0
    | succ n => simp [Builtin.clear_, ht, run_underlying (slice_of hS), zero_of hE rfl, zeroCells_eq, s1]
  · cases h

/-! ### make -/
theorem amakeSlice_ok {P : Program} {B id : Nat} {φ : BMap} {σ σ' : AHeap} {w : World} {t : TypeId} {l l' c c' u : Value} (hr : RH P φ σ w B) (hid : φ id = none) (hlt : id < σ.next)
    (h : amakeSlice P σ id t l c = some (u, σ')) (hl : RV φ l l') (hc : RV φ c c') :
    ∃ u' w' φ', (Instr.makeSlice t l' c').run P w = .ok u' w' ∧ RV φ' u u' ∧ RH P φ' σ' w' B ∧ OStep id φ σ w φ' σ' w' := by
  unfold amakeSlice at h
  split at h
  case h_2 => cases h
  rename_i e _ _ _ _ l _ c hS
  split at h
  case h_2 => cases h
  rename_i ek s bytes z hE
  split at h
  case isFalse => cases h
  rename_i hcond
  obtain ⟨hz, hzs, h0, h1, h2, h3⟩ := hcond
  cases h
  cases hl.int_inv; cases hc.int_inv
  have hw : ∀ n : Int, 0 ≤ n → n ≤ 9223372036854775807 → IntKind.i64.wrap n = n := fun n a b => by
    exact IntWalk.i64_in _ (by omega)
  have htsz : tsz P e = some s := by simp [tsz, hE]
  have hsize : ((zerosL z c.toNat).toArray : Array Value).size = c.toNat * s := by simp [zerosL_length, hzs]
  obtain ⟨a, b⟩ := hr.cells (w1 := w) (cs := zerosL z c.toNat) (cur := (zerosL z c.toNat).toArray) hid hlt rfl rfl rfl rfl htsz (ones_closed (zerosL_closed hz _))
    (fun j u hu => ⟨u, by simpa using hu, RV.closedCell (List.all_eq_true.1 (zerosL_closed hz c.toNat) u (List.mem_of_getElem? hu))⟩) (by simp)
  obtain ⟨d, i, hd, hi, _, hs', hb', _⟩ := under_of hE
  simp only at hs' hb'
  refine ⟨.slice (some ⟨w.heap.size, 0, none⟩) l.toNat c.toNat, _, _, ?_, ?_, a, b⟩
  · have hnot : ¬ (281474976710656 < (bytes : Int) * c) := by omega
    have hnot' : ¬ (281474976710656 < (i.bytes : Int) * c) := by rw [← hb']; exact hnot
    have hbs : (decide (c < 0) || decide (281474976710656 < (i.bytes : Int) * c)) = false := by simp; omega
    simp only [Instr.makeSlice, Sem.run_bind, run_under (slice_of hS), Result.andThen_ok, asInt, asIntOf, Sem.run_pure, typeInfo, run_program, hi, hw l h0 (by omega), hw c (by omega) h2]
    rw [if_neg (by simp; omega)]
    simp only [Sem.run_bind, run_askRoom, Result.andThen_ok, size_of hE]
    by_cases h00 : c.toNat * s = 0
    · have hzl : zerosL z c.toNat = [] := List.length_eq_zero_iff.1 (by rw [zerosL_length, hzs, h00])
      simp only [h00, if_true, Sem.run_bind, Sem.run_pure, Result.andThen_ok, newRow, run_newObj, hzl]
      have hemp : ∀ f : Nat → Value, Array.map f (Array.range 0) = #[] := fun f => by simp
      rw [hemp]; rfl
    · have hcells : (Array.range (c.toNat * s)).map (fun k => z.cells[k % z.cells.size]!) = (zerosL z c.toNat).toArray := by
        unfold zerosL
        rw [← zeros_map, hzs]
      simp only [h00, if_false, Sem.run_bind, zero_of hE rfl, Result.andThen_ok, newRow, run_newObj, Sem.run_pure, hcells]
      rfl
  · exact RV.slice (p := ⟨w.heap.size, 0, _, s⟩) (lay_same _ _ _) (by omega) (Nat.le_refl _) (.inl rfl)

end Go.Abs

/- THE ABSTRACT MACHINE, part G: addresses, slices, numbers, maps, what is built. -/
namespace Go.Abs
open Go

theorem RV.ptr_add {φ : BMap} {b off n : Nat} {p : Pl} (h : φ b = some p) : RV φ (.pointer (some ⟨b, off + n, none⟩)) (.pointer (some ((⟨p.g, p.o + off, none⟩ : Addr).add n))) := by
  rw [Addr.add_lit, Nat.add_assoc]; exact .ptr h

theorem aindexAddr_ok {P : Program} {φ : BMap} {w : World} {t : TypeId} {x x' ix ix' v : Value} (h : aindexAddr P t x ix = some v) (hx : RV φ x x') (hi : RV φ ix ix') :
    ∃ v', (Instr.indexAt t x' ix').run P w = .ok v' w ∧ RV φ v v' := by
  unfold aindexAddr at h
  split at h
  case h_2 => cases h
  rename_i k i
  cases hi.int_inv
  split at h
  · rename_i e _ _ _ b off len _ hT
    split at h
    case h_2 => cases h
    rename_i E hE
    split at h
    case isFalse => cases h
    rename_i hb
    cases h
    obtain ⟨p, c', hφ, rfl, h1, h2, h3⟩ := hx.slice_inv
    refine ⟨.pointer (some ((⟨p.g, p.o + off, none⟩ : Addr).add (i.toNat * E.size))), ?_, RV.ptr_add hφ⟩
    simp [Instr.indexAt, asIntOf, run_underlying (slice_of hT), hb, size_of hE]
  · rename_i n e _ _ _ b off hT
    split at h
    case h_2 => cases h
    rename_i E hE
    split at h
    case isFalse => cases h
    rename_i hb
    cases h
    obtain ⟨p, hφ, rfl⟩ := hx.ptr_inv
    refine ⟨.pointer (some ((⟨p.g, p.o + off, none⟩ : Addr).add (i.toNat * E.size))), ?_, RV.ptr_add hφ⟩
    simp [Instr.indexAt, asIntOf, run_underlying (array_of hT), Instr.sureAddr, hb, size_of hE]
  · cases h

theorem tsz_of {P : Program} {t : TypeId} {s : Nat} (h : tsz P t = some s) (w : World) : (sizeOf t).run P w = .ok s w := by
  unfold tsz at h
  split at h
  · rename_i T hT; cases h; exact size_of hT w
  · cases h

theorem afieldAddr_ok {P : Program} {φ : BMap} {w : World} {t : TypeId} {x x' v : Value} {f : Nat} (h : afieldAddr P t x f = some v) (hx : RV φ x x') :
    ∃ v', (Instr.fieldAt t x' f).run P w = .ok v' w ∧ RV φ v v' := by
  unfold afieldAddr at h
  split at h
  case h_2 => cases h
  rename_i fs _ _ _ b off hT
  split at h
  case h_2 => cases h
  rename_i o u hf
  split at h
  case h_2 => cases h
  rename_i s hs
  split at h
  case isTrue => cases h
  rename_i h0
  cases h
  obtain ⟨p, hφ, rfl⟩ := hx.ptr_inv
  obtain ⟨gs, hg, rfl⟩ := struct_of hT
  rw [List.getElem?_map, Option.map_eq_some_iff] at hf
  obtain ⟨fd, hfd, heq⟩ := hf
  cases heq
  have hfd' : gs[f]? = some fd := by simpa using hfd
  refine ⟨.pointer (some ((⟨p.g, p.o + off, none⟩ : Addr).add fd.offset)), ?_, RV.ptr_add hφ⟩
  simp [Instr.fieldAt, run_underlying hg, hfd', Instr.sureAddr, fieldPlace, tsz_of hs, h0]

theorem part_plain {P : Program} {t : TypeId} {T : ATy} (hT : ty P t = some T) (ha : T.agg = false) {cs : Array Value} {o : Nat} {v : Value} (hv : cs[o]? = some v) (w : World) : (part t cs o).run P w = .ok v w := by
  have := run_isAgg hT w
  rw [ha] at this
  simp [part, this, hv]
theorem part_agg {P : Program} {t : TypeId} {T : ATy} (hT : ty P t = some T) (ha : T.agg = true) {cs : Array Value} {o : Nat} (w : World) : (part t cs o).run P w = .ok (.agg ((cs.toList.drop o).take T.size).toArray) w := by
  have := run_isAgg hT w
  rw [ha] at this
  simp only [part, Sem.run_bind, this, Result.andThen_ok, if_true, size_of hT, Sem.run_pure]
  congr 2
  apply Array.ext'
  simp [List.extract]

theorem aindex_ok {P : Program} {φ : BMap} {w : World} {t : TypeId} {x x' ix ix' v : Value} (h : aindex P t x ix = some v) (hx : RV φ x x') (hi : RV φ ix ix') :
    ∃ v', (Instr.index t x' ix').run P w = .ok v' w ∧ RV φ v v' := by
  unfold aindex at h
  split at h
  case h_2 => cases h
  rename_i k i
  cases hi.int_inv
  split at h
  · rename_i _ _ _ s hT
    split at h
    case isFalse => cases h
    rename_i h0
    rw [Option.map_eq_some_iff] at h
    obtain ⟨b, hb, rfl⟩ := h
    cases hx.string_inv
    refine ⟨_, ?_, .int _ _⟩
    simp [Instr.index, asIntOf, run_underlying (string_of hT), h0, hb]
  · rename_i n e _ _ _ cs hT
    split at h
    case h_2 => cases h
    rename_i E hE
    split at h
    case isTrue => cases h
    rename_i ha
    split at h
    case isFalse => cases h
    rename_i hb
    obtain ⟨cs', rfl, h1, h2⟩ := hx.agg_inv
    obtain ⟨v', a, b⟩ := h1.get (i := i.toNat * E.size) (v := v) (by simpa using h)
    refine ⟨v', ?_, b⟩
    have hp := part_plain hE (by simpa using ha) (cs := cs') (o := i.toNat * E.size) (v := v') (by simpa using a) w
    simp [Instr.index, asIntOf, run_underlying (array_of hT), hb, size_of hE, hp]
  · cases h

theorem afield_ok {P : Program} {φ : BMap} {w : World} {t : TypeId} {x x' v : Value} {f : Nat} (h : afield P t x f = some v) (hx : RV φ x x') :
    ∃ v', (Instr.field t x' f).run P w = .ok v' w ∧ RV φ v v' := by
  unfold afield at h
  split at h
  case h_2 => cases h
  rename_i fs _ _ _ cs hT
  split at h
  case h_2 => cases h
  rename_i o u hf
  split at h
  case h_2 => cases h
  rename_i U hU
  obtain ⟨cs', rfl, h1, h2⟩ := hx.agg_inv
  obtain ⟨gs, hg, rfl⟩ := struct_of hT
  rw [List.getElem?_map, Option.map_eq_some_iff] at hf
  obtain ⟨fd, hfd, heq⟩ := hf
  cases heq
  have hfd' : gs[f]? = some fd := by simpa using hfd
  split at h
  · rename_i ha
    cases h
    refine ⟨_, ?_, RV.agg_of ((h1.drop fd.offset).take U.size) ((h2.drop _).take _)⟩
    simp [Instr.field, run_underlying hg, hfd', asAgg, part_agg hU ha]
  · rename_i ha
    obtain ⟨v', a, b⟩ := h1.get (i := fd.offset) (v := v) (by simpa using h)
    refine ⟨v', ?_, b⟩
    simp [Instr.field, run_underlying hg, hfd', asAgg, part_plain hU (by simpa using ha) (cs := cs') (v := v') (by simpa using a)]

/-! ### Slices -/
theorem abound_run {P : Program} {φ : BMap} {w : World} {d top n : Nat} {v v' : Option Value} {c : BoundsCode} (h : abound d top v = some n) (hv : (v = none ∧ v' = none) ∨ ∃ u u', v = some u ∧ v' = some u' ∧ RV φ u u') :
    (v' = none ∧ n = d) ∨ ∃ u', v' = some u' ∧ (Instr.sliceBound u' top c).run P w = .ok n w ∧ n ≤ top := by
  rcases hv with ⟨rfl, rfl⟩ | ⟨u, u', rfl, rfl, hu⟩
  · simp only [abound, Option.some.injEq] at h; exact .inl ⟨rfl, h.symm⟩
  · right
    refine ⟨u', rfl, ?_⟩
    unfold abound at h
    split at h
    · rename_i he; cases he
    · rename_i k i he
      cases he
      cases hu.int_inv
      split at h
      · rename_i hi
        cases h
        exact ⟨by simp [Instr.sliceBound, asIntOf, hi], by omega⟩
      · cases h
    · cases h

theorem sliceBounds_run {P : Program} {φ : BMap} {w : World} {s : Bool} {len cap h l : Nat} {lo lo' hi hi' : Option Value} (h1 : abound len cap hi = some h) (h2 : abound 0 h lo = some l)
    (hlo : (lo = none ∧ lo' = none) ∨ ∃ u u', lo = some u ∧ lo' = some u' ∧ RV φ u u') (hhi : (hi = none ∧ hi' = none) ∨ ∃ u u', hi = some u ∧ hi' = some u' ∧ RV φ u u') :
    (Instr.sliceBounds s len cap lo' hi' none).run P w = .ok (l, h, cap) w ∧ (lo = none → l = 0) := by
  have a1 := abound_run (P := P) (w := w) (c := if s then .sliceAcap else .sliceAlen) h1 hhi
  have a2 := abound_run (P := P) (w := w) (c := .sliceB) h2 hlo
  constructor
  · unfold Instr.sliceBounds
    rcases a1 with ⟨rfl, rfl⟩ | ⟨u', rfl, hr, _⟩ <;> rcases a2 with ⟨rfl, rfl⟩ | ⟨t', rfl, hr', _⟩ <;> simp [*]
  · rintro rfl
    rcases hlo with ⟨_, rfl⟩ | ⟨_, _, h, _⟩
    · simp only [abound, Option.some.injEq] at h2; exact h2.symm
    · cases h

theorem abound_le {d top n : Nat} {v : Option Value} (h : abound d top v = some n) (hd : d ≤ top) : n ≤ top := by
  unfold abound at h
  split at h
  · cases h; exact hd
  · split at h
    · cases h; omega
    · cases h
  · cases h

theorem aslice_ok {P : Program} {φ : BMap} {w : World} {t : TypeId} {x x' v : Value} {lo lo' hi hi' : Option Value} (h : aslice P t x lo hi = some v) (hx : RV φ x x')
    (hlo : (lo = none ∧ lo' = none) ∨ ∃ u u', lo = some u ∧ lo' = some u' ∧ RV φ u u') (hhi : (hi = none ∧ hi' = none) ∨ ∃ u u', hi = some u ∧ hi' = some u' ∧ RV φ u u') :
    ∃ v', (Instr.sliceAt t x' lo' hi' none).run P w = .ok v' w ∧ RV φ v v' := by
  unfold aslice at h
  split at h
  · rename_i _ _ _ s hT
    split at h
    case h_2 => cases h
    rename_i hh h1
    split at h
    case h_2 => cases h
    rename_i l h2
    cases h
    cases hx.string_inv
    refine ⟨_, ?_, .string _⟩
    have := (sliceBounds_run (P := P) (w := w) (s := false) h1 h2 hlo hhi).1
    simp [Instr.sliceAt, run_underlying (string_of hT), Instr.slice, this]
  · rename_i e _ _ _ hT
    split at h
    case h_2 => cases h
    rename_i E hh hE h1
    split at h
    case h_2 => cases h
    rename_i l h2
    cases h
    cases hx.nil_inv
    have := (sliceBounds_run (P := P) (w := w) (s := true) h1 h2 hlo hhi).1
    have e1 : hh = 0 := by have := abound_le h1 (Nat.le_refl _); omega
    have e2 : l = 0 := by have := abound_le h2 (Nat.zero_le _); omega
    subst e1; subst e2
    exact ⟨.slice none 0 0, by simp [Instr.sliceAt, run_underlying (slice_of hT), Instr.slice, this, size_of hE], .nilslice⟩
  · rename_i n e _ _ _ b off hT
    split at h
    case h_2 => cases h
    rename_i E hE
    split at h
    case h_2 => cases h
    rename_i hh h1
    split at h
    case h_2 => cases h
    rename_i l h2
    split at h
    case isFalse => cases h
    rename_i hln
    cases h
    obtain ⟨p, hφ, rfl⟩ := hx.ptr_inv
    have := (sliceBounds_run (P := P) (w := w) (s := false) h1 h2 hlo hhi).1
    have hn : n ≠ l := by omega
    have hle := abound_le h1 (Nat.le_refl _)
    refine ⟨.slice (some ((⟨p.g, p.o + off, none⟩ : Addr).add (l * E.size))) (hh - l) (n - l), ?_, ?_⟩
    · simp [Instr.sliceAt, run_underlying (array_of hT), Instr.sureAddr, this, size_of hE, hn]
    · rw [Addr.add_lit, Nat.add_assoc]
      exact .slice hφ (by omega) (Nat.le_refl _) (.inl rfl)
  · cases h

theorem aslice2_ok {P : Program} {B : Nat} {φ : BMap} {σ : AHeap} {w : World} {t : TypeId} {x x' v : Value} {lo lo' hi hi' : Option Value} (hr : RH P φ σ w B) (h : aslice2 P σ t x lo hi = some v) (hx : RV φ x x')
    (hlo : (lo = none ∧ lo' = none) ∨ ∃ u u', lo = some u ∧ lo' = some u' ∧ RV φ u u') (hhi : (hi = none ∧ hi' = none) ∨ ∃ u u', hi = some u ∧ hi' = some u' ∧ RV φ u u') :
    ∃ v', (Instr.sliceAt t x' lo' hi' none).run P w = .ok v' w ∧ RV φ v v' := by
  unfold aslice2 at h
  split at h
  case h_2 => exact aslice_ok h hx hlo hhi
  rename_i e _ _ _ b off len c hT
  split at h
  case h_2 => cases h
  rename_i E cs e' rw hE hb
  split at h
  case isFalse => cases h
  rename_i hse
  split at h
  case h_2 => cases h
  rename_i hh h1
  split at h
  case h_2 => cases h
  rename_i l h2
  split at h
  case isFalse => cases h
  rename_i hlc
  cases h
  obtain ⟨p, c', hφ, rfl, hlen, hcc, hroom⟩ := hx.slice_inv
  obtain ⟨q, hq, hok⟩ := hr.dom b _ hb
  rw [hφ] at hq; cases hq
  have hps : p.sz = E.size := by have := hok.2.2.1; rw [hse] at this; exact (Option.some.inj this).symm
  -- the bounds hold for the model's capacity too
  have h1' : abound len c' hi = some hh := by
    cases hi with
    | none => exact h1
    | some u =>
      cases u <;> simp only [abound] at h1 ⊢ <;> first
        | (cases h1; done)
        | (split at h1
           · rename_i hc1; rw [if_pos (by omega)]; exact h1
           · cases h1)
  have hb2 := sliceBounds_run (P := P) (w := w) (s := true) h1' h2 hlo hhi
  have hle := abound_le h1 hlen
  have hll := abound_le h2 (Nat.zero_le _)
  refine ⟨.slice (some ((⟨p.g, p.o + off, none⟩ : Addr).add (l * E.size))) (hh - l) (c' - l), ?_, ?_⟩
  · simp only [Instr.sliceAt, Sem.run_bind, run_under (slice_of hT), Result.andThen_ok, Instr.slice, hb2.1, size_of hE, Sem.run_pure]
    by_cases hcl : c' = l
    · have h0 : l = 0 := by omega
      rw [if_pos hcl, h0, Nat.zero_mul]; rfl
    · rw [if_neg hcl]; rfl
  · rw [Addr.add_lit, Nat.add_assoc]
    refine .slice hφ (by omega) (by omega) ?_
    rcases hroom with hroom | hroom
    · left; omega
    · right; rw [hps] at hroom ⊢
      have : l * E.size + (c' - l) * E.size = c' * E.size := by rw [← Nat.add_mul]; congr 1; omega
      omega

theorem aslice3_ok {P : Program} {B : Nat} {φ : BMap} {σ : AHeap} {w : World} {t : TypeId} {x x' v m m' : Value} {lo lo' hi hi' : Option Value} (hr : RH P φ σ w B) (h : aslice3 P σ t x lo hi m = some v) (hx : RV φ x x')
    (hlo : (lo = none ∧ lo' = none) ∨ ∃ u u', lo = some u ∧ lo' = some u' ∧ RV φ u u') (hhi : (hi = none ∧ hi' = none) ∨ ∃ u u', hi = some u ∧ hi' = some u' ∧ RV φ u u') (hm : RV φ m m') :
    ∃ v', (Instr.sliceAt t x' lo' hi' (some m')).run P w = .ok v' w ∧ RV φ v v' := by
  unfold aslice3 at h
  split at h
  case h_2 => cases h
  rename_i e _ _ _ b off len c hv hT
  split at h
  case h_2 => cases h
  rename_i E cs e' rw hE hb
  split at h
  case isFalse => cases h
  rename_i hse
  split at h
  case h_2 => cases h
  rename_i mm h0
  split at h
  case h_2 => cases h
  rename_i hh h1
  split at h
  case h_2 => cases h
  rename_i l h2
  split at h
  case isFalse => cases h
  rename_i hlc
  cases h
  obtain ⟨p, c', hφ, rfl, hlen, hcc, hroom⟩ := hx.slice_inv
  have hmm := abound_le h0 (Nat.le_refl _)
  have hhm := abound_le h1 (Nat.le_refl _)
  have hll := abound_le h2 (Nat.zero_le _)
  have r0 : (Instr.sliceBound m' c' .slice3Acap).run P w = .ok mm w := by
    unfold abound at h0
    split at h0
    · rename_i he; cases he
    · rename_i k i he
      cases he; cases hm.int_inv
      split at h0
      · cases h0; rename_i hi0; simp [Instr.sliceBound, asIntOf, show 0 ≤ i ∧ i ≤ (c' : Int) from by omega]
      · cases h0
    · cases h0
  have r1 := abound_run (P := P) (w := w) (c := .slice3B) h1 hhi
  have r2 := abound_run (P := P) (w := w) (c := .slice3C) h2 hlo
  rcases r1 with ⟨rfl, _⟩ | ⟨u1, rfl, r1, _⟩
  · rcases hhi with ⟨hc, _⟩ | ⟨_, _, _, hc, _⟩ <;> cases hc
  have hsb : (Instr.sliceBounds true len c' lo' (some u1) (some m')).run P w = .ok (l, hh, mm) w := by
    unfold Instr.sliceBounds
    rcases r2 with ⟨rfl, rfl⟩ | ⟨t', rfl, r2, _⟩ <;> simp [*]
  refine ⟨.slice (some ((⟨p.g, p.o + off, none⟩ : Addr).add (l * E.size))) (hh - l) (mm - l), ?_, ?_⟩
  · simp only [Instr.sliceAt, Sem.run_bind, run_under (slice_of hT), Result.andThen_ok, Instr.slice, hsb, size_of hE, Sem.run_pure]
    rw [if_neg (by omega)]; rfl
  · rw [Addr.add_lit, Nat.add_assoc]
    exact .slice hφ (by omega) (Nat.le_refl _) (.inl rfl)

/-! ### Numbers -/
theorem abin_ok {P : Program} {φ : BMap} {w : World} {op : BinOp} {t : TypeId} {x x' y y' v : Value} (h : abin op x y = some v) (hx : RV φ x x') (hy : RV φ y y') :
    (binOp op t x' y').run P w = .ok v w ∧ RV φ v v := by
  unfold abin at h
  split at h
  · cases hx.int_inv; cases hy.int_inv
    split at h <;> first
      | (cases h; done)
      | (split at h
         · rename_i hc
           cases h
           first | (obtain ⟨rfl, hc⟩ := hc) | subst hc | skip
           refine ⟨?_, by first | exact .int _ _ | exact .bool _⟩
           first
             | (simp [binOp, Op.intArith, Op.intDiv, Op.intBits, Op.intCmp]; done)
             | (simp [binOp, Op.intArith, Op.intDiv, Op.intBits, Op.intCmp, hc]; done)
             | (have hc' : ¬ _ := Int.not_lt.2 hc; simp [binOp, Op.shift, hc']; done)
         · cases h)
  · cases hx.string_inv; cases hy.string_inv
    split at h <;> first
      | (cases h; done)
      | (cases h; exact ⟨by simp [binOp, Op.stringOp], .bool _⟩)
  · cases h

end Go.Abs

/- THE ABSTRACT MACHINE, part H: equality, conversions, what is built, maps. -/
namespace Go.Abs
open Go

theorem plainCell_eq {φ : BMap} {v v' : Value} (h : RV φ v v') (hp : plainCell v = true) : v' = v := by
  cases h <;> first | rfl | (simp [plainCell] at hp)
theorem plainKey_eq {φ : BMap} {v v' : Value} (h : RV φ v v') (hp : plainKey v = true) : v' = v := by
  unfold plainKey at hp
  split at hp
  · rename_i cs
    obtain ⟨cs', rfl, h1, _⟩ := h.agg_inv
    congr 1
    apply Array.ext
    · have := h1.1; simp at this; exact this.symm
    · intro i hi hi'
      have hp' := (Array.all_eq_true.1 hp) i hi'
      exact plainCell_eq (h1.2 i cs[i] cs'[i] (by simp) (by simp)) hp'
  · exact plainCell_eq h hp

open Classical in
theorem abinT_ok {P : Program} {φ : BMap} {w : World} {op : BinOp} {t : TypeId} {xo yo : Operand} {x x' y y' v : Value} (h : abinT P op t x y = some v) (hx : RV φ x x') (hy : RV φ y y') :
    (do eqGuard op t xo yo x' y'; binOp op t x' y' : Sem Value).run P w = .ok v w ∧ RV φ v v := by
  have guard_ok : ∀ {a b : Value}, (∀ xs, a ≠ .agg xs) → a ≠ .nilIface → (eqGuard op t xo yo a b).run P w = .ok () w := by
    intro a b h1 h2
    unfold eqGuard
    cases op <;> cases a <;> first | rfl | (exact absurd rfl (h1 _)) | (exact absurd rfl h2)
  unfold abinT at h
  split at h
  · rename_i a b
    cases hx.bool_inv; cases hy.bool_inv
    have hg := guard_ok (a := .bool a) (b := .bool b) (fun _ h => by cases h) (fun h => by cases h)
    split at h
    · rename_i hk
      cases h
      have hb := run_equal_bool (P := P) w t a b (tk_bool hk)
      exact ⟨by simp only [Sem.run_bind, hg, Result.andThen_ok, binOp, hb, Sem.run_pure], .bool _⟩
    · rename_i hk
      cases h
      have hb := run_equal_bool (P := P) w t a b (tk_bool hk)
      exact ⟨by simp only [Sem.run_bind, hg, Result.andThen_ok, binOp, hb, Sem.run_pure], .bool _⟩
    · cases h
  · rename_i xs ys
    split at h
    case isFalse => cases h
    rename_i hc
    obtain ⟨hk, hpx, hpy, hkx, hky⟩ := hc
    cases plainKey_eq hx hpx; cases plainKey_eq hy hpy
    obtain ⟨r, hr, hiff⟩ := hk.eq w (.agg xs) (.agg ys) hkx hky
    have hr' : r = decide (xs = ys) := by
      cases r
      · symm; rw [decide_eq_false_iff_not]; intro e; have := hiff.2 (by rw [e]); cases this
      · symm; rw [decide_eq_true_iff]; have := hiff.1 rfl; injection this
    have hg := run_eqGuard_agg (P := P) w op t xo yo xs ys hk.guard
    split at h
    · cases h
      refine ⟨?_, .bool _⟩
      simp only [Sem.run_bind, hg, Result.andThen_ok, binOp, hr, Sem.run_pure, hr']
    · cases h
      refine ⟨?_, .bool _⟩
      simp only [Sem.run_bind, hg, Result.andThen_ok, binOp, hr, Sem.run_pure, hr']
    · cases h
  · obtain ⟨a, b⟩ := abin_ok (P := P) (w := w) (t := t) h hx hy
    have hg : (eqGuard op t xo yo x' y').run P w = .ok () w := by
      apply guard_ok
      · intro xs e; subst e
        cases hx; unfold abin at h; simp at h
      · intro e; subst e
        cases hx; unfold abin at h; simp at h
    exact ⟨by simp only [Sem.run_bind, hg, Result.andThen_ok, a], b⟩

theorem aun_ok {P : Program} {φ : BMap} {w : World} {op : UnOp} {x x' v : Value} (h : aun op x = some v) (hx : RV φ x x') : (Op.unary op x').run P w = .ok v w ∧ RV φ v v := by
  unfold aun at h
  split at h
  · cases hx.bool_inv
    split at h
    · cases h; exact ⟨by simp [Op.unary], .bool _⟩
    · cases h
  · cases hx.int_inv
    split at h
    · cases h; exact ⟨by simp [Op.unary, Op.intArith], .int _ _⟩
    · cases h
  · cases h

theorem akind_of {P : Program} {t : TypeId} {T : ATy} (h : ty P t = some T) : ∃ d, P.underlying t = some d ∧ T.k = akind d := by
  obtain ⟨d, i, a, _, b, _⟩ := under_of h; exact ⟨d, a, b⟩

theorem aconvert_ok {P : Program} {id : Nat} {φ : BMap} {σ σ' : AHeap} {w : World} {s t : TypeId} {x x' u : Value} (h : aconvert P σ id s t x = some (u, σ')) (hx : RV φ x x') :
    (convert s t x').run P w = .ok u w ∧ RV φ u u ∧ σ' = σ := by
  unfold aconvert at h
  split at h
  case h_2 => cases h
  rename_i S D hS hD
  split at h
  case h_2 => cases h
  cases hx.int_inv
  split at h
  · rename_i k hk
    cases h
    obtain ⟨ds, hds, _⟩ := akind_of hS
    obtain ⟨dd, hdd, hkd⟩ := akind_of hD
    have hke : akind dd = .int k := by rw [← hkd]; exact hk
    have : P.underlying t = some (.int k) := by rw [hdd, akind_int hke]
    exact ⟨by simp [convert, run_underlying hds, run_underlying this, Conv.intToInt], .int _ _, rfl⟩
  · cases h

/-! ### What is built -/
theorem foldl_set (vs : List Value) : ∀ (k off : Nat) (arr : Array Value), ((vs.zipIdx k).foldl (fun (cs : Array Value) (x : Value × Nat) => cs.setIfInBounds (off + x.2) x.1) arr).toList = setRange arr.toList (off + k) vs := by
  induction vs with
  | nil => intro k off arr; rfl
  | cons v vs ih =>
    intro k off arr
    simp only [List.zipIdx_cons, List.foldl_cons, setRange]
    rw [ih (k + 1) off, ← Nat.add_assoc]
    simp

theorem setRange_rvs {φ : BMap} : ∀ {vs vs' cs cs' : List Value} (off : Nat), RVs φ cs cs' → RVs φ vs vs' → RVs φ (setRange cs off vs) (setRange cs' off vs')
  | [], vs', cs, cs', off, h, hv => by
    have : vs' = [] := List.length_eq_zero_iff.1 hv.1.symm
    subst this; exact h
  | v :: vs, [], cs, cs', off, h, hv => absurd hv.1 (by simp)
  | v :: vs, v' :: vs', cs, cs', off, h, hv => by
    simp only [setRange]
    refine setRange_rvs (off + 1) ⟨by simp [h.1], fun i a b ha hb => ?_⟩ ⟨by simpa using hv.1, fun i a b ha hb => hv.2 (i + 1) a b (by simpa using ha) (by simpa using hb)⟩
    rw [List.getElem?_set] at ha hb
    split at ha
    · rename_i e
      rw [if_pos e] at hb
      split at ha
      · split at hb
        · cases ha; cases hb; exact hv.2 0 _ _ rfl rfl
        · cases hb
      · cases ha
    · rename_i e
      rw [if_neg e] at hb
      exact h.2 i a b ha hb

/-- Parts: each with its place's number. -/
def PVs (φ : BMap) (ps ps' : List (Nat × Value)) : Prop := ps.map (·.1) = ps'.map (·.1) ∧ RVs φ (ps.map (·.2)) (ps'.map (·.2)) ∧ ∀ p ∈ ps, isTuple p.2 = false

theorem aparts_rv {φ : BMap} {N : Nat} {fr : Fr} {a : Act} (hf : RF φ N fr a.tmps) : ∀ {xs : List (Nat × Operand)} {ps : List (Nat × Value)}, aparts fr xs = some ps → PVs φ ps (xs.map fun (i, x) => (i, a.eval x))
  | [], ps, h => by simp only [aparts, Option.some.injEq] at h; subst h; exact ⟨rfl, .nil φ, fun _ h => by cases h⟩
  | (i, x) :: r, ps, h => by
    simp only [aparts] at h
    split at h
    · rename_i v vs h1 h2
      split at h
      · cases h
      · rename_i ht
        cases h
        obtain ⟨a1, a2, a3⟩ := aparts_rv hf h2
        refine ⟨by simpa using a1, .cons (aeval_rv hf h1) a2, fun p hp => ?_⟩
        cases hp with
        | head => simpa using ht
        | tail _ hp => exact a3 p hp
    · cases h

theorem afill_ok {φ : BMap} {place : Nat → Option (Nat × Nat)} : ∀ {ps ps' : List (Nat × Value)} {cs r : List Value} {arr : Array Value}, afill place cs ps = some r → PVs φ ps ps' → RVs φ cs arr.toList → Ones cs →
    ∃ arr', Instr.fill place arr ps' = some arr' ∧ RVs φ r arr'.toList ∧ Ones r
  | [], ps', cs, r, arr, h, hp, hc, ho => by
    have : ps' = [] := by have := hp.1; simp at this; exact this
    subst this
    simp only [afill, Option.some.injEq] at h
    subst h
    exact ⟨arr, rfl, hc, ho⟩
  | (i, v) :: ps, ps', cs, r, arr, h, hp, hc, ho => by
    obtain ⟨p1, p2, p3⟩ := hp
    cases ps' with
    | nil => simp at p1
    | cons q ps' =>
      obtain ⟨j, v'⟩ := q
      simp only [List.map_cons, List.cons.injEq] at p1
      obtain ⟨rfl, p1⟩ := p1
      simp only [afill] at h
      split at h
      · cases h
      · rename_i off size hpl
        split at h
        · cases h
        · rename_i hc1
          have hv : RV φ v v' := p2.2 0 v v' rfl rfl
          have ht := p3 (i, v) (List.mem_cons_self ..)
          have hcl := hv.cells
          have hsz : v'.cells.size = v.cells.size := by have := hcl.1; simp at this; exact this.symm
          have hlen : arr.size = cs.length := by have := hc.1; simp at this; exact this.symm
          have hset := setRange_rvs off hc hcl
          have key := foldl_set v'.cells.toList 0 off arr
          obtain ⟨arr', a1, a2, a3⟩ := afill_ok (ps := ps) (ps' := ps') (arr := (setRange arr.toList off v'.cells.toList).toArray) h
            ⟨p1, ⟨by simpa using p2.1, fun k a b ha hb => p2.2 (k + 1) a b (by simpa using ha) (by simpa using hb)⟩, fun p hp => p3 p (List.mem_cons_of_mem _ hp)⟩ (by simpa using hset) (ho.setRange _ (hv.ones ht))
          refine ⟨arr', ?_, a2, a3⟩
          simp only [Instr.fill, hpl, hsz, hlen]
          rw [if_neg hc1]
          rw [← a1]
          congr 1
          apply Array.ext'
          simp only [Nat.add_zero] at key
          rw [← key, ← Array.foldl_toList, Array.toList_zipIdx]

theorem mapM_places {P : Program} {w : World} : ∀ {gs : List Field} {ps : List (Nat × Nat)}, fieldPlaces P (gs.map fun f => (f.offset, f.type)) = some ps →
    (gs.mapM fun f => do pure (f.offset, ← sizeOf f.type) : Sem (List (Nat × Nat))).run P w = .ok ps w
  | [], ps, h => by simp only [List.map_nil, fieldPlaces, Option.some.injEq] at h; subst h; simp
  | f :: gs, ps, h => by
    simp only [List.map_cons, fieldPlaces] at h
    split at h
    · rename_i T qs hT hq
      cases h
      have ih := mapM_places (P := P) (w := w) hq
      simp only [List.mapM_cons, Sem.run_bind, size_of hT, Result.andThen_ok, Sem.run_pure] at ih ⊢
      rw [ih]; rfl
    · cases h

theorem abuild_ok {P : Program} {φ : BMap} {w : World} {t : TypeId} {ps ps' : List (Nat × Value)} {v : Value} (h : abuild P t ps = some v) (hp : PVs φ ps ps') :
    ∃ v', (Instr.build t ps'.toArray).run P w = .ok v' w ∧ RV φ v v' := by
  unfold abuild at h
  split at h
  · rename_i fs _ _ z hT
    split at h
    case isFalse => cases h
    rename_i hz
    split at h
    case h_2 => cases h
    rename_i qs hq
    rw [Option.map_eq_some_iff] at h
    obtain ⟨cs, hc, rfl⟩ := h
    obtain ⟨gs, hg, rfl⟩ := struct_of hT
    obtain ⟨arr', a1, a2, a3⟩ := afill_ok (arr := z.cells) hc hp (RVs.closed (closed_cells hz)) (ones_closed (closed_cells hz))
    refine ⟨.agg arr', ?_, by have := RV.agg_of a2 a3; simpa using this⟩
    have hm := mapM_places (P := P) (w := w) hq
    have hm' : (gs.mapM fun f => do pure (f.offset, ← sizeOf f.type) : Sem (Array (Nat × Nat))).run P w = .ok qs.toArray w := by
      rw [Array.mapM_eq_mapM_toList, Sem.run_map, hm]; rfl
    simp only [Instr.build, Sem.run_bind, zero_of hT rfl, Result.andThen_ok, run_under hg, hm', List.getElem?_toArray, a1, Sem.run_pure]
  · rename_i n e _ _ z hT
    split at h
    case h_2 => cases h
    rename_i E hE
    split at h
    case isFalse => cases h
    rename_i hz
    rw [Option.map_eq_some_iff] at h
    obtain ⟨cs, hc, rfl⟩ := h
    obtain ⟨arr', a1, a2, a3⟩ := afill_ok (arr := z.cells) hc hp (RVs.closed (closed_cells hz)) (ones_closed (closed_cells hz))
    refine ⟨.agg arr', ?_, by have := RV.agg_of a2 a3; simpa using this⟩
    simp only [Instr.build, Sem.run_bind, zero_of hT rfl, Result.andThen_ok, run_under (array_of hT), size_of hE, a1, Sem.run_pure]
  · cases h

theorem afill_length {place : Nat → Option (Nat × Nat)} : ∀ {ps : List (Nat × Value)} {cs r : List Value}, afill place cs ps = some r → r.length = cs.length
  | [], cs, r, h => by simp only [afill, Option.some.injEq] at h; subst h; rfl
  | (i, v) :: ps, cs, r, h => by
    simp only [afill] at h
    split at h
    · cases h
    · split at h
      · cases h
      · rw [afill_length h, setRange_length]

theorem abuildSlice_ok {P : Program} {B id : Nat} {φ : BMap} {σ σ' : AHeap} {w : World} {t : TypeId} {len : Nat} {ps ps' : List (Nat × Value)} {u : Value} (hr : RH P φ σ w B) (hid : φ id = none) (hlt : id < σ.next)
    (h : abuildSlice P σ id t len ps = some (u, σ')) (hp : PVs φ ps ps') :
    ∃ u' w' φ', (Instr.buildSlice t len ps'.toArray).run P w = .ok u' w' ∧ RV φ' u u' ∧ RH P φ' σ' w' B ∧ OStep id φ σ w φ' σ' w' := by
  unfold abuildSlice at h
  split at h
  case h_2 => cases h
  rename_i e _ _ _ hS
  split at h
  case h_2 => cases h
  rename_i ek s bytes z hE
  split at h
  case isFalse => cases h
  rename_i hc
  obtain ⟨hz, hzs, h24⟩ := hc
  split at h
  case h_2 => cases h
  rename_i cs hf
  cases h
  obtain ⟨arr', a1, a2, a3⟩ := afill_ok (arr := (zerosL z len).toArray) hf hp (by simpa using RVs.closed (zerosL_closed hz len)) (ones_closed (zerosL_closed hz len))
  have htsz : tsz P e = some s := by simp [tsz, hE]
  have hlen : arr'.size = cs.length := by have := a2.1; simp at this; exact this.symm
  have hcl : cs.length = len * s := by rw [afill_length hf, zerosL_length, hzs]
  obtain ⟨b1, b2⟩ := hr.cells (w1 := w) (cs := cs) (cur := arr') hid hlt rfl rfl rfl rfl htsz a3 (fun j v hv => let ⟨v', p, q⟩ := a2.get hv; ⟨v', by simpa using p, q⟩) (by omega)
  refine ⟨.slice (some ⟨w.heap.size, 0, none⟩) len len, _, _, ?_, ?_, b1, b2⟩
  · simp only [Instr.buildSlice, Sem.run_bind, run_under (slice_of hS), Result.andThen_ok, size_of hE]
    rw [if_neg (by omega)]
    by_cases h00 : len * s = 0
    · have hzl : zerosL z len = [] := List.length_eq_zero_iff.1 (by rw [zerosL_length, hzs, h00])
      rw [hzl] at a1
      have hemp : ∀ f : Nat → Value, Array.map f (Array.range 0) = #[] := fun f => by simp
      simp only [h00, if_true, Sem.run_bind, Sem.run_pure, Result.andThen_ok, hemp, a1, newRow, run_newObj]
      rfl
    · have hcells : (Array.range (len * s)).map (fun k => z.cells[k % z.cells.size]!) = (zerosL z len).toArray := by
        unfold zerosL
        rw [← zeros_map, hzs]
      simp only [h00, if_false, Sem.run_bind, zero_of hE rfl, Result.andThen_ok, Sem.run_pure, hcells, a1, newRow, run_newObj]
      rfl
  · exact RV.slice (p := ⟨w.heap.size, 0, _, s⟩) (lay_same _ _ _) (Nat.le_refl _) (Nat.le_refl _) (.inl rfl)

end Go.Abs

