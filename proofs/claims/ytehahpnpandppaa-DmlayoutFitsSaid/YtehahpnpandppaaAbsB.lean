/- THE ABSTRACT MACHINE, part B: what an operation of a region does to an abstract heap. -/
import Derived.Test.YtehahpnpandppaaAbsA
set_option linter.unusedVariables false
set_option linter.unusedSimpArgs false
namespace Go.Abs
open Go

def closedCell : Value → Bool
  | .bool _ | .int .. | .string _ | .pointer none | .slice none 0 0 | .map none | .nilFunc | .nilIface => true
  | _ => false
def closedV : Value → Bool
  | .agg cs => cs.toList.all closedCell
  | v => closedCell v

def aeval (fr : Fr) : Operand → Option Value
  | .tmp t => aget fr t
  | .const v => if closedV v then some v else none
  | .global _ => none
  | .func f => some (.func (.func f) #[] #[])

def aevals (fr : Fr) : List Operand → Option (List Value)
  | [] => some []
  | x :: r => match aeval fr x, aevals fr r with
    | some v, some vs => some (v :: vs)
    | _, _ => none

def aevalO (fr : Fr) : Option Operand → Option (Option Value)
  | none => some none
  | some x => (aeval fr x).map some

def setRange (cs : List Value) (off : Nat) : List Value → List Value
  | [] => cs
  | v :: vs => setRange (cs.set off v) (off + 1) vs

def zerosL (z : Value) (n : Nat) : List Value := (List.replicate n z.cells.toList).flatten

/-! ### Memory -/
def aload (P : Program) (σ : AHeap) (t : TypeId) : Value → Option Value
  | .pointer (some ⟨b, off, none⟩) =>
    match σ.blk b, ty P t with
    | some (.cells cs _ _), some T => if T.agg then (if off + T.size ≤ cs.length then some (.agg ((cs.drop off).take T.size).toArray) else none) else cs[off]?
    | _, _ => none
  | _ => none

def astore (P : Program) (σ : AHeap) (t : TypeId) (p v : Value) : Option AHeap :=
  match p with
  | .pointer (some ⟨b, off, none⟩) =>
    match σ.blk b, ty P t with
    | some (.cells cs e true), some T =>
      if v.cells.size = T.size ∧ off + T.size ≤ cs.length ∧ isTuple v = false then some (σ.set b (.cells (setRange cs off v.cells.toList) e true)) else none
    | _, _ => none
  | _ => none

/-- A new block of cells. -/
def anew (P : Program) (σ : AHeap) (id : Nat) (e : TypeId) (cs : List Value) : Option AHeap :=
  if (ty P e).isSome then some (σ.set id (.cells cs e true)) else none

def aindexAddr (P : Program) (t : TypeId) (x ix : Value) : Option Value :=
  match ix with
  | .int _ i =>
    match ty P t, x with
    | some ⟨.slice e, _, _, _⟩, .slice (some ⟨b, off, none⟩) len _ =>
      match ty P e with
      | some E => if 0 ≤ i ∧ i < len then some (.pointer (some ⟨b, off + i.toNat * E.size, none⟩)) else none
      | none => none
    | some ⟨.array n e, _, _, _⟩, .pointer (some ⟨b, off, none⟩) =>
      match ty P e with
      | some E => if 0 ≤ i ∧ i < n then some (.pointer (some ⟨b, off + i.toNat * E.size, none⟩)) else none
      | none => none
    | _, _ => none
  | _ => none

def afieldAddr (P : Program) (s : TypeId) (x : Value) (f : Nat) : Option Value :=
  match ty P s, x with
  | some ⟨.struct fs, _, _, _⟩, .pointer (some ⟨b, off, none⟩) =>
    match fs[f]? with
    | some (o, u) => match tsz P u with
      | some s => if s = 0 then none else some (.pointer (some ⟨b, off + o, none⟩))
      | none => none
    | none => none
  | _, _ => none

def aindex (P : Program) (t : TypeId) (x ix : Value) : Option Value :=
  match ix with
  | .int _ i =>
    match ty P t, x with
    | some ⟨.string, _, _, _⟩, .string s => if 0 ≤ i then (s[i.toNat]?).map fun b => .int .u8 b.toNat else none
    | some ⟨.array n e, _, _, _⟩, .agg cs =>
      match ty P e with
      | some E => if E.agg then none else if 0 ≤ i ∧ i < n then cs[i.toNat * E.size]? else none
      | none => none
    | _, _ => none
  | _ => none

def afield (P : Program) (t : TypeId) (x : Value) (f : Nat) : Option Value :=
  match ty P t, x with
  | some ⟨.struct fs, _, _, _⟩, .agg cs =>
    match fs[f]? with
    | some (o, u) => match ty P u with
      | some U => if U.agg then some (.agg (cs.toList.drop o |>.take U.size).toArray) else cs[o]?
      | none => none
    | none => none
  | _, _ => none

/-- The bound of a slice expression, if it is given. -/
def abound (d : Nat) (top : Nat) : Option Value → Option Nat
  | none => some d
  | some (.int _ i) => if 0 ≤ i ∧ i ≤ top then some i.toNat else none
  | _ => none

def aslice (P : Program) (t : TypeId) (x : Value) (lo hi : Option Value) : Option Value :=
  match ty P t, x with
  | some ⟨.string, _, _, _⟩, .string s =>
    match abound s.size s.size hi with
    | some h => match abound 0 h lo with
      | some l => some (.string (s.extract l h))
      | none => none
    | none => none
  | some ⟨.slice e, _, _, _⟩, .slice none 0 0 =>
    match ty P e, abound 0 0 hi with
    | some _, some h => match abound 0 h lo with
      | some _ => some (.slice none 0 0)
      | none => none
    | _, _ => none
  | some ⟨.array n e, _, _, _⟩, .pointer (some ⟨b, off, none⟩) =>
    match ty P e with
    | some E =>
      match abound n n hi with
      | some h => match abound 0 h lo with
        | some l => if l < n then some (.slice (some ⟨b, off + l * E.size, none⟩) (h - l) (n - l)) else none
        | none => none
      | none => none
    | none => none
  | _, _ => none

/-- A slice of a slice: the block tells how large an element is. -/
def aslice2 (P : Program) (σ : AHeap) (t : TypeId) (x : Value) (lo hi : Option Value) : Option Value :=
  match ty P t, x with
  | some ⟨.slice e, _, _, _⟩, .slice (some ⟨b, off, none⟩) len c =>
    match ty P e, σ.blk b with
    | some E, some (.cells _ e' _) =>
      if tsz P e' = some E.size then
        match abound len c hi with
        | some h => match abound 0 h lo with
          | some l => if l < c ∨ l = 0 then some (.slice (some ⟨b, off + l * E.size, none⟩) (h - l) (c - l)) else none
          | none => none
        | none => none
      else none
    | _, _ => none
  | _, _ => aslice P t x lo hi

/-- With a third index. -/
def aslice3 (P : Program) (σ : AHeap) (t : TypeId) (x : Value) (lo hi : Option Value) (m : Value) : Option Value :=
  match ty P t, x, hi with
  | some ⟨.slice e, _, _, _⟩, .slice (some ⟨b, off, none⟩) _ c, some hv =>
    match ty P e, σ.blk b with
    | some E, some (.cells _ e' _) =>
      if tsz P e' = some E.size then
        match abound c c (some m) with
        | some mm => match abound mm mm (some hv) with
          | some h => match abound 0 h lo with
            | some l => if l < mm then some (.slice (some ⟨b, off + l * E.size, none⟩) (h - l) (mm - l)) else none
            | none => none
          | none => none
        | none => none
      else none
    | _, _ => none
  | _, _, _ => none

/-! ### append, copy, clear -/
/-- What the second argument of append yields: how many elements, and their cells. -/
def asrc (P : Program) (σ : AHeap) (t : TypeId) (s : Nat) (z : Value) : Value → Option (Nat × List Value)
  | .slice none 0 0 => match tk P t with | some (.slice _) => some (0, []) | _ => none
  | .slice (some ⟨b, off, none⟩) n _ =>
    match (tk P t), σ.blk b with
    | some (.slice _), some (.cells cs _ _) => if off + n * s ≤ cs.length then some (n, (cs.drop off).take (n * s)) else none
    | _, _ => none
  | .string b => match tk P t with | some .string => if s = 1 then some (b.size, byteCells b) else none | _ => none
  | _ => none

def aappend (P : Program) (σ : AHeap) (id : Nat) (tS tX : TypeId) (v x : Value) : Option (Value × AHeap) :=
  match ty P tS with
  | some ⟨.slice e, _, _, _⟩ =>
    match ty P e with
    | some ⟨_, s, bytes, some z⟩ =>
      if z.cells.size = s then
      match asrc P σ tX s z x with
      | some (n, news) =>
        match v with
        | .slice none 0 0 =>
          if n = 0 then some (.slice none 0 0, σ)
          else if n * bytes ≤ 140737488355328 ∧ n ≤ 9223372036854775807 then some (.slice (some ⟨id, 0, none⟩) n n, σ.set id (.cells news e true)) else none
        | .slice (some ⟨b, off, none⟩) len c =>
          match σ.blk b with
          | some (.cells cs e' true) =>
            if e' = e then
              if len + n ≤ c then
                if off + (len + n) * s ≤ cs.length then some (.slice (some ⟨b, off, none⟩) (len + n) c, σ.set b (.cells (setRange cs (off + len * s) news) e' true)) else none
              else if off = 0 ∧ len * s = cs.length ∧ (len + n) * bytes ≤ 140737488355328 ∧ len + n ≤ 9223372036854775807 then
                some (.slice (some ⟨id, 0, none⟩) (len + n) (len + n), (σ.del b).set id (.cells (cs ++ news) e true))
              else none
            else none
          | _ => none
        | _ => none
      | none => none
      else none
    | _ => none
  | _ => none

def acopy (P : Program) (σ : AHeap) (tD tX : TypeId) (d x : Value) : Option (Value × AHeap) :=
  match ty P tD with
  | some ⟨.slice e, _, _, _⟩ =>
    match ty P e with
    | some E =>
      match d, x with
      | .slice (some ⟨b, off, none⟩) dl _, .slice (some ⟨b', off', none⟩) sl _ =>
        match σ.blk b, σ.blk b' with
        | some (.cells cs e' true), some (.cells cs' _ _) =>
          if off + Nat.min sl dl * E.size ≤ cs.length ∧ off' + Nat.min sl dl * E.size ≤ cs'.length then
            some (.int .i64 (Nat.min sl dl : Nat), σ.set b (.cells (setRange cs off ((cs'.drop off').take (Nat.min sl dl * E.size))) e' true))
          else none
        | _, _ => none
      | _, _ => none
    | none => none
  | _ => none

def aclear (P : Program) (σ : AHeap) (t : TypeId) : Value → Option AHeap
  | .slice none 0 0 => some σ
  | .slice (some _) 0 _ => some σ
  | .slice (some ⟨b, off, none⟩) n _ =>
    match ty P t with
    | some ⟨.slice e, _, _, _⟩ =>
      match ty P e, σ.blk b with
      | some ⟨_, s, _, some z⟩, some (.cells cs e' true) =>
        if closedV z ∧ z.cells.size = s ∧ off + n * s ≤ cs.length then some (σ.set b (.cells (setRange cs off (zerosL z n)) e' true)) else none
      | _, _ => none
    | _ => none
  | _ => none

/-! ### Numbers -/
def abin (op : BinOp) : Value → Value → Option Value
  | .int k a, .int k' b =>
    match op with
    | .shl => if 0 ≤ b then some (.int k (k.wrap (a * 2 ^ (min b.toNat k.bits)))) else none
    | .shr => if 0 ≤ b then some (.int k (a.fdiv (2 ^ (min b.toNat k.bits)))) else none
    | .add => if k = k' then some (.int k (k.wrap (a + b))) else none
    | .sub => if k = k' then some (.int k (k.wrap (a - b))) else none
    | .mul => if k = k' then some (.int k (k.wrap (a * b))) else none
    | .quo => if k = k' ∧ b ≠ 0 then some (.int k (k.wrap (a.tdiv b))) else none
    | .rem => if k = k' ∧ b ≠ 0 then some (.int k (a.tmod b)) else none
    | .and => if k = k' then some (.int k (k.wrap (BitVec.ofInt k.bits a &&& BitVec.ofInt k.bits b).toNat)) else none
    | .or => if k = k' then some (.int k (k.wrap (BitVec.ofInt k.bits a ||| BitVec.ofInt k.bits b).toNat)) else none
    | .xor => if k = k' then some (.int k (k.wrap (BitVec.ofInt k.bits a ^^^ BitVec.ofInt k.bits b).toNat)) else none
    | .eql => if k = k' then some (.bool (a == b)) else none
    | .neq => if k = k' then some (.bool (a != b)) else none
    | .lss => if k = k' then some (.bool (decide (a < b))) else none
    | .leq => if k = k' then some (.bool (decide (a ≤ b))) else none
    | .gtr => if k = k' then some (.bool (decide (a > b))) else none
    | .geq => if k = k' then some (.bool (decide (a ≥ b))) else none
    | _ => none
  | .string a, .string b =>
    match op with
    | .eql => some (.bool (a.toList == b.toList))
    | .neq => some (.bool !(a.toList == b.toList))
    | _ => none
  | _, _ => none

open Classical in
noncomputable def abinT (P : Program) (op : BinOp) (t : TypeId) (x y : Value) : Option Value :=
  match x, y with
  | .bool a, .bool b =>
    match tk P t, op with
    | some .bool, .eql => some (.bool (a == b))
    | some .bool, .neq => some (.bool (!(a == b)))
    | _, _ => none
  | .agg xs, .agg ys =>
    if KeyOk P t ∧ plainKey (.agg xs) = true ∧ plainKey (.agg ys) = true ∧ (keyOf P t (.agg xs)).isSome = true ∧ (keyOf P t (.agg ys)).isSome = true then
      match op with
      | .eql => some (.bool (decide (xs = ys)))
      | .neq => some (.bool (!decide (xs = ys)))
      | _ => none
    else none
  | x, y => abin op x y

def aun (op : UnOp) : Value → Option Value
  | .bool b => match op with | .not => some (.bool !b) | _ => none
  | .int k n => match op with | .neg => some (.int k (k.wrap (0 - n))) | _ => none
  | _ => none

def aconvert (P : Program) (σ : AHeap) (id : Nat) (src dst : TypeId) (x : Value) : Option (Value × AHeap) :=
  match ty P src, ty P dst with
  | some _, some D =>
    match x with
    | .int _ n => match D.k with
      | .int k => some (.int k (k.wrap n), σ)
      | _ => none
    | _ => none
  | _, _ => none

/-! ### Building -/
def aparts (fr : Fr) : List (Nat × Operand) → Option (List (Nat × Value))
  | [] => some []
  | (i, x) :: r => match aeval fr x, aparts fr r with
    | some v, some vs => if isTuple v then none else some ((i, v) :: vs)
    | _, _ => none

def afill (place : Nat → Option (Nat × Nat)) (cells : List Value) : List (Nat × Value) → Option (List Value)
  | [] => some cells
  | (i, v) :: rest =>
    match place i with
    | none => none
    | some (off, size) => if v.cells.size ≠ size || off + v.cells.size > cells.length then none else afill place (setRange cells off v.cells.toList) rest

def fieldPlaces (P : Program) (fs : List (Nat × TypeId)) : Option (List (Nat × Nat)) :=
  match fs with
  | [] => some []
  | (o, t) :: r => match ty P t, fieldPlaces P r with
    | some T, some ps => some ((o, T.size) :: ps)
    | _, _ => none

def abuild (P : Program) (t : TypeId) (parts : List (Nat × Value)) : Option Value :=
  match ty P t with
  | some ⟨.struct fs, _, _, some z⟩ =>
    if closedV z then
      match fieldPlaces P fs with
      | some ps => (afill (fun i => ps[i]?) z.cells.toList parts).map fun cs => .agg cs.toArray
      | none => none
    else none
  | some ⟨.array _ e, _, _, some z⟩ =>
    match ty P e with
    | some E => if closedV z then (afill (fun i => some (i * E.size, E.size)) z.cells.toList parts).map fun cs => .agg cs.toArray else none
    | none => none
  | _ => none

def abuildSlice (P : Program) (σ : AHeap) (id : Nat) (t : TypeId) (len : Nat) (parts : List (Nat × Value)) : Option (Value × AHeap) :=
  match ty P t with
  | some ⟨.slice e, _, _, _⟩ =>
    match ty P e with
    | some ⟨_, s, _, some z⟩ =>
      if closedV z ∧ z.cells.size = s ∧ len * s ≤ 16777216 then
        match afill (fun i => some (i * s, s)) (zerosL z len) parts with
        | some cs => some (.slice (some ⟨id, 0, none⟩) len len, σ.set id (.cells cs e true))
        | none => none
      else none
    | _ => none
  | _ => none

def amakeSlice (P : Program) (σ : AHeap) (id : Nat) (t : TypeId) (l c : Value) : Option (Value × AHeap) :=
  match ty P t, l, c with
  | some ⟨.slice e, _, _, _⟩, .int _ l, .int _ c =>
    match ty P e with
    | some ⟨_, s, bytes, some z⟩ =>
      if closedV z ∧ z.cells.size = s ∧ 0 ≤ l ∧ l ≤ c ∧ c ≤ 9223372036854775807 ∧ (bytes : Int) * c ≤ 140737488355328 then
        some (.slice (some ⟨id, 0, none⟩) l.toNat c.toNat, σ.set id (.cells (zerosL z c.toNat) e true))
      else none
    | _ => none
  | _, _, _ => none

/-! ### Maps -/
open Classical in
noncomputable def alookup (P : Program) (σ : AHeap) (t : TypeId) (m k : Value) (ok : Bool) : Option Value :=
  match ty P t with
  | some ⟨.map kt e, _, _, _⟩ =>
    match ty P e, m with
    | some ⟨_, _, _, some z⟩, .map (some b) =>
      match σ.blk b with
      | some (.map kt' f) => if kt' = kt ∧ KeyOk P kt ∧ closedV z = true ∧ plainKey k = true ∧ (keyOf P kt k).isSome = true then
          match f k with
          | some v => some (if ok then .tuple #[v, .bool true] else v)
          | none => some (if ok then .tuple #[z, .bool false] else z)
        else none
      | _ => none
    | _, _ => none
  | _ => none

open Classical in
noncomputable def amapUpdate (P : Program) (σ : AHeap) (t : TypeId) (m k v : Value) : Option AHeap :=
  match ty P t, m with
  | some ⟨.map kt _, _, _, _⟩, .map (some b) =>
    match σ.blk b with
    | some (.map kt' f) => if kt' = kt ∧ KeyOk P kt ∧ plainKey k = true ∧ (keyOf P kt k).isSome = true then some (σ.set b (.map kt (fun x => if x = k then some v else f x))) else none
    | _ => none
  | _, _ => none

/-! ### Builtins -/
def amin2 : Value → Value → Option Value
  | .int k x, .int _ y => some (.int k (if y < x then y else x))
  | _, _ => none
def amax2 : Value → Value → Option Value
  | .int k x, .int _ y => some (.int k (if y > x then y else x))
  | _, _ => none
def afold (f : Value → Value → Option Value) : Value → List Value → Option Value
  | x, [] => some x
  | x, y :: r => match f x y with
    | some z => afold f z r
    | none => none

def alen (P : Program) (t : TypeId) : Value → Option Value
  | .slice _ n _ => match tk P t with
    | some (.slice _) => some (.int .i64 n)
    | _ => none
  | .string s => match tk P t with
    | some .string => some (.int .i64 s.size)
    | _ => none
  | .pointer _ => none
  | .agg _ => match tk P t with
    | some (.array n _) => some (.int .i64 n)
    | _ => none
  | _ => none

def acap (P : Program) (t : TypeId) : Value → Option Value
  | .slice none 0 0 => match tk P t with
    | some (.slice _) => some (.int .i64 0)
    | _ => none
  | _ => none

def abuiltin (P : Program) (σ : AHeap) (id : Nat) (b : Builtin) (ts : Array TypeId) (args : List Value) : Option (Value × AHeap) :=
  match b, args with
  | .len, [x] => match ts[0]? with
    | some t => (alen P t x).map (·, σ)
    | none => none
  | .cap, [x] => match ts[0]? with
    | some t => (acap P t x).map (·, σ)
    | none => none
  | .append, [v, x] => match ts[0]?, ts[1]? with
    | some t, some u => aappend P σ id t u v x
    | _, _ => none
  | .copy, [d, x] => match ts[0]?, ts[1]? with
    | some t, some u => acopy P σ t u d x
    | _, _ => none
  | .clear, [x] => match ts[0]? with
    | some t => if (tk P t).isSome then (aclear P σ t x).map (.tuple #[], ·) else none
    | none => none
  | .min, x :: r => (afold amin2 x r).map (·, σ)
  | .max, x :: r => (afold amax2 x r).map (·, σ)
  | _, _ => none

/-! ### One operation (calls of Go functions apart) -/
def aextract (x : Value) (i : Nat) : Option Value :=
  match x with
  | .tuple vs => vs[i]?
  | _ => none

noncomputable def aexec (P : Program) (σ : AHeap) (id : Nat) (fr : Fr) (o : Op) : Option (Value × AHeap) :=
  match o with
  | .move x | .assign x => (aeval fr x).map (·, σ)
  | .pick c a b => match aeval fr c with
    | some (.bool t) => (if t then aeval fr a else aeval fr b).map (·, σ)
    | _ => none
  | .alloc e => match ty P e with
    | some ⟨_, _, _, some z⟩ => if closedV z then (anew P σ id e z.cells.toList).map (.pointer (some ⟨id, 0, none⟩), ·) else none
    | _ => none
  | .box e x => match aeval fr x with
    | some v => if isTuple v then none else (anew P σ id e v.cells.toList).map (.pointer (some ⟨id, 0, none⟩), ·)
    | none => none
  | .build t parts => match aparts fr parts.toList with
    | some ps => (abuild P t ps).map (·, σ)
    | none => none
  | .buildSlice t len parts => match aparts fr parts.toList with
    | some ps => abuildSlice P σ id t len ps
    | none => none
  | .load t a => match aeval fr a with
    | some p => (aload P σ t p).map (·, σ)
    | none => none
  | .store t a x => match aeval fr a, aeval fr x with
    | some p, some v => (astore P σ t p v).map (.tuple #[], ·)
    | _, _ => none
  | .nilCheck x => match aeval fr x with
    | some (.pointer (some p)) => some (.pointer (some p), σ)
    | some (.func (.func f) xs ys) => some (.func (.func f) xs ys, σ)
    | _ => none
  | .binOp op t x y _ => match aeval fr x, aeval fr y with
    | some a, some b => (abinT P op t a b).map (·, σ)
    | _, _ => none
  | .unOp op _ x => match aeval fr x with
    | some a => (aun op a).map (·, σ)
    | none => none
  | .convert s d x => match aeval fr x with
    | some v => aconvert P σ id s d v
    | none => none
  | .makeFunc (.func f) first captured => match aevals fr first.toList, aevals fr captured.toList with
    | some xs, some ys => some (.func (.func f) xs.toArray ys.toArray, σ)
    | _, _ => none
  | .makeMap t none => match ty P t with
    | some ⟨.map k _, _, _, _⟩ => some (.map (some id), σ.set id (.map k fun _ => none))
    | _ => none
  | .makeSlice t l c => match aeval fr l, aeval fr c with
    | some l, some c => amakeSlice P σ id t l c
    | _, _ => none
  | .slice t x lo hi none => match aeval fr x, aevalO fr lo, aevalO fr hi with
    | some x, some lo, some hi => (aslice2 P σ t x lo hi).map (·, σ)
    | _, _, _ => none
  | .slice t x lo hi (some m) => match aeval fr x, aevalO fr lo, aevalO fr hi, aeval fr m with
    | some x, some lo, some hi, some m => (aslice3 P σ t x lo hi m).map (·, σ)
    | _, _, _, _ => none
  | .fieldAddr s x f => match aeval fr x with
    | some p => (afieldAddr P s p f).map (·, σ)
    | none => none
  | .field t x f => match aeval fr x with
    | some p => (afield P t p f).map (·, σ)
    | none => none
  | .indexAddr t x ix => match aeval fr x, aeval fr ix with
    | some x, some i => (aindexAddr P t x i).map (·, σ)
    | _, _ => none
  | .index t x ix => match aeval fr x, aeval fr ix with
    | some x, some i => (aindex P t x i).map (·, σ)
    | _, _ => none
  | .lookup t m k ok => match aeval fr m, aeval fr k with
    | some m, some k => (alookup P σ t m k ok).map (·, σ)
    | _, _ => none
  | .mapUpdate t m k x => match aeval fr m, aeval fr k, aeval fr x with
    | some m, some k, some v => (amapUpdate P σ t m k v).map (.tuple #[], ·)
    | _, _, _ => none
  | .extract x i => match aeval fr x with
    | some v => (aextract v i).map (·, σ)
    | none => none
  | .call { callee := .builtin b, args, argTypes } => match aevals fr args.toList with
    | some vs => abuiltin P σ id b argTypes vs
    | none => none
  | _ => none

/-- The function and the arguments that a call comes to. -/
def acallee (fr : Fr) (o : Op) : Option (FuncId × List Value) :=
  match o with
  | .call { callee := .value f, args, .. } => match aeval fr f, aevals fr args.toList with
    | some (.func (.func k) xs ys), some vs => some (k, xs.toList ++ vs ++ ys.toList)
    | _, _ => none
  | _ => none

/-- What is looked at of an operation. -/
structure SOp where
  dst : Option Tmp
  op : Op
  guard : Option (Nat × Bool)
def slim (o : Oper) : SOp := ⟨o.dst, o.op, o.guard⟩

def nth (l : List (Option Tmp)) (i : Nat) : Option Tmp :=
  match l, i with
  | [], _ => none
  | x :: _, 0 => x
  | _ :: r, i + 1 => nth r i

/-- Is the operation wanted? gds: the destinations of the region's operations. -/
def awanted (gds : List (Option Tmp)) (fr : Fr) : Option (Nat × Bool) → Option Bool
  | none => some true
  | some (j, want) => match nth gds j with
    | none => some false
    | some d => match aget fr d with
      | some (.bool b) => some (b == want)
      | some (.tuple _) => some false
      | _ => none

def adst (fr : Fr) (dst : Option Tmp) (v : Value) : Fr :=
  match dst with
  | some d => aput fr d v
  | none => fr

/-- Does the destination lie in the frame? -/
def dstOk (N : Nat) (dst : Option Tmp) : Bool :=
  match dst with
  | some d => decide (d < N)
  | none => true

def isCall : Op → Bool
  | .call { callee := .value _, .. } => true
  | _ => false

/-- One operation that is no call of a Go function. -/
noncomputable def aop (P : Program) (N : Nat) (gds : List (Option Tmp)) (o : SOp) (fr : Fr) (σ : AHeap) : Option (Fr × AHeap) :=
  match dstOk N o.dst, awanted gds fr o.guard with
  | true, some false => some (adst fr o.dst (.tuple #[]), σ)
  | true, some true =>
    match aexec P (σ.bump 1) σ.next fr o.op with
    | some (v, σ') => some (adst fr o.dst v, σ')
    | none => none
  | _, _ => none

end Go.Abs
