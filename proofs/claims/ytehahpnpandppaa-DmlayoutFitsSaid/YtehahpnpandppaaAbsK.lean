/- THE ABSTRACT MACHINE, part K: the rest of a function's run, step by step. -/
import Derived.Test.YtehahpnpandppaaAbsJ
import Derived.Scope
set_option linter.unusedVariables false
set_option linter.unusedSimpArgs false
namespace Go.Abs
open Go

/-- The frame b with its temporaries and what is left to do; ro: the loop whose round it runs, if it runs one. -/
def fat (b : Frame) (a : Act) (ro : Option Nat) (todo : List Item) : Frame := { b.at a todo with roundOf := ro }

theorem fat_none (b : Frame) (a : Act) (todo : List Item) : fat b a none todo = b.at a todo := rfl

theorem fat_eval (b : Frame) (a : Act) (ro : Option Nat) (todo : List Item) : (fat b a ro todo).eval = a.eval := by funext x; cases x <;> rfl

/-- How a frame ends. -/
def Fin (P : Program) (ro : Option Nat) (f : FuncId) (frm : Frame) (w : World) (v : Value) (w' : World) : Prop :=
  match ro with
  | none => frm.fn = f ∧ frm.leaving P w (.returned v) ∧ w' = w
  | some _ => ∀ (c : Frame) (cs : List Frame), step P (lone frm (c :: cs) w) = .next (lone (c.finish v) cs w')

theorem Fin.step {P : Program} {ro : Option Nat} {f : FuncId} {frm : Frame} {w w' : World} {v : Value} (h : Fin P ro f frm w v w') (c : Frame) (cs : List Frame) :
    step P (lone frm (c :: cs) w) = .next (lone (c.finish v) cs w') := by
  cases ro with
  | none => obtain ⟨_, h2, rfl⟩ := h; exact step_leave_returned h2
  | some l => exact h c cs

/-- What a run comes to. -/
def Ends (P : Program) (ro : Option Nat) (f : FuncId) (B : Nat) (φ : BMap) (σ : AHeap) (w : World) (fr0 : Frame) (cs : List Frame) (R : Value → AHeap → Prop) : Prop :=
  ∃ v v' σ' φ' w1 w' frm, R v σ' ∧ RV φ' v v' ∧ RH P φ' σ' w' B ∧ Step σ.next φ σ w φ' σ' w' ∧ Steps P (lone fr0 cs w) (lone frm cs w1) ∧ Fin P ro f frm w1 v' w'

/-- THE REST OF A FUNCTION: from an abstract frame and heap, with 'todo' left to do, it returns a value and a heap of which R holds. -/
def AGo (P : Program) (ro : Option Nat) (f : FuncId) (N : Nat) (todo : List Item) (R : Value → AHeap → Prop) (fr : Fr) (σ : AHeap) : Prop :=
  ∀ (B : Nat) (φ : BMap) (w : World) (a : Act) (b : Frame) (cs : List Frame), RH P φ σ w B → RF φ N fr a.tmps → a.defers = [] → b.fn = f → b.kind = .normal →
    Ends P ro f B φ σ w (fat b a ro todo) cs R

/-- A CONTRACT: called with these arguments in this heap, the function returns a value and a heap of which R holds. -/
def ACalls (P : Program) (f : FuncId) (args : List Value) (σ : AHeap) (R : Value → AHeap → Prop) : Prop :=
  ∀ (B : Nat) (φ : BMap) (w : World) (args' : List Value) (cs : List Frame), RH P φ σ w B → RVs φ args args' →
    Ends P none f B φ σ w (Frame.enter P f args'.toArray .normal) cs R

theorem Ends.mono {P : Program} {ro : Option Nat} {f : FuncId} {B : Nat} {φ : BMap} {σ : AHeap} {w : World} {fr0 : Frame} {cs : List Frame} {R R' : Value → AHeap → Prop}
    (h : Ends P ro f B φ σ w fr0 cs R) (hr : ∀ v σ', R v σ' → R' v σ') : Ends P ro f B φ σ w fr0 cs R' :=
  let ⟨v, v', σ', φ', w1, w', frm, h1, h2⟩ := h; ⟨v, v', σ', φ', w1, w', frm, hr _ _ h1, h2⟩

theorem ACalls.mono {P : Program} {f : FuncId} {args : List Value} {σ : AHeap} {R R' : Value → AHeap → Prop} (h : ACalls P f args σ R) (hr : ∀ v σ', R v σ' → R' v σ') : ACalls P f args σ R' :=
  fun B φ w args' cs h1 h2 => (h B φ w args' cs h1 h2).mono hr
theorem AGo.mono {P : Program} {ro : Option Nat} {f : FuncId} {N : Nat} {todo : List Item} {fr : Fr} {σ : AHeap} {R R' : Value → AHeap → Prop} (h : AGo P ro f N todo R fr σ) (hr : ∀ v σ', R v σ' → R' v σ') : AGo P ro f N todo R' fr σ :=
  fun B φ w a b cs h1 h2 h3 h4 h5 => (h B φ w a b cs h1 h2 h3 h4 h5).mono hr

theorem Ends.of_steps {P : Program} {ro : Option Nat} {f : FuncId} {B : Nat} {φ φ1 : BMap} {σ σ1 : AHeap} {w w1 : World} {fr0 fr1 : Frame} {cs : List Frame} {R : Value → AHeap → Prop}
    (hs : Steps P (lone fr0 cs w) (lone fr1 cs w1)) (hst : Step σ.next φ σ w φ1 σ1 w1) (h : Ends P ro f B φ1 σ1 w1 fr1 cs R) : Ends P ro f B φ σ w fr0 cs R := by
  obtain ⟨v, v', σ', φ', w2, w', frm, h1, h2, h3, h4, h5, h6⟩ := h
  exact ⟨v, v', σ', φ', w2, w', frm, h1, h2, h3, hst.trans h4 hst.next, hs.trans h5, h6⟩

section
variable {P : Program} {ro : Option Nat} {f : FuncId} {N : Nat} {R : Value → AHeap → Prop} {fr : Fr} {σ : AHeap} {k : List Item}

/-- A step that only changes what is left to do. -/
theorem AGo.goto {todo todo' : List Item} (hs : ∀ (b : Frame) (a : Act) (cs : List Frame) (w : World), step P (lone (fat b a ro todo) cs w) = .next (lone (fat b a ro todo') cs w)) (h : AGo P ro f N todo' R fr σ) : AGo P ro f N todo R fr σ :=
  fun B φ w a b cs h1 h2 h3 h4 h5 => Ends.of_steps (.one (hs b a cs w)) (.refl _ _ _ _) (h B φ w a b cs h1 h2 h3 h4 h5)

theorem AGo.skip (h : AGo P ro f N k R fr σ) : AGo P ro f N (.code .skip :: k) R fr σ :=
  AGo.goto (fun b a cs w => step_lone_go (by simp [stepG, stepG.exec, Frame.at, fat])) h
theorem AGo.label {l : Nat} (h : AGo P ro f N k R fr σ) : AGo P ro f N (.code (.label l) :: k) R fr σ :=
  AGo.goto (fun b a cs w => step_lone_go (by simp [stepG, stepG.exec, Frame.at, fat])) h
theorem AGo.inBlock {id : Nat} (h : AGo P ro f N k R fr σ) : AGo P ro f N (.inBlock id :: k) R fr σ :=
  AGo.goto (fun b a cs w => step_lone_go (by simp [stepG, stepG.exec, Frame.at, fat])) h
theorem AGo.inScope {c : Code} (h : AGo P ro f N k R fr σ) : AGo P ro f N (.inScope c :: k) R fr σ :=
  AGo.goto (fun b a cs w => step_lone_go (by simp [stepG, stepG.exec, Frame.at, fat])) h
theorem AGo.seq {x y : Code} (h : AGo P ro f N (.code x :: .code y :: k) R fr σ) : AGo P ro f N (.code (.seq x y) :: k) R fr σ :=
  AGo.goto (fun b a cs w => step_lone_go (by simp [stepG, stepG.exec, Frame.at, fat])) h
theorem AGo.block {id : Nat} {c : Code} (h : AGo P ro f N (.code c :: .inBlock id :: k) R fr σ) : AGo P ro f N (.code (.block id c) :: k) R fr σ :=
  AGo.goto (fun b a cs w => step_lone_go (by simp [stepG, stepG.exec, Frame.at, fat])) h
theorem AGo.scope {c : Code} (h : AGo P ro f N (.code c :: .inScope c :: k) R fr σ) : AGo P ro f N (.code (.scope c) :: k) R fr σ :=
  AGo.goto (fun b a cs w => step_lone_go (by simp [stepG, stepG.exec, Frame.at, fat])) h
theorem AGo.loop {c : Code} (h : AGo P ro f N (.inLoop c :: k) R fr σ) : AGo P ro f N (.code (.loop c) :: k) R fr σ := by
  -- both lead to the same place
  intro B φ w a b cs h1 h2 h3 h4 h5
  have s1 : step P (lone (fat b a ro (.code (.loop c) :: k)) cs w) = .next (lone (fat b a ro (.code c :: .inLoop c :: k)) cs w) := step_lone_go (by simp [stepG, stepG.exec, Frame.at, fat])
  have s2 : step P (lone (fat b a ro (.inLoop c :: k)) cs w) = .next (lone (fat b a ro (.code c :: .inLoop c :: k)) cs w) := step_lone_go (by simp [stepG, stepG.exec, Frame.at, fat])
  obtain ⟨v, v', σ', φ', w1, w', frm, a1, a2, a3, a4, ⟨n, hn⟩, a6⟩ := h B φ w a b cs h1 h2 h3 h4 h5
  cases n with
  | zero =>
    -- the frame at the loop's head is not one that leaves
    simp only [runN] at hn
    injection hn with hn
    exfalso
    have hfrm : frm = fat b a ro (.inLoop c :: k) ∧ w1 = w := by
      simp only [lone, Machine.mk.injEq, Array.mk.injEq, List.cons.injEq, Goroutine.mk.injEq, and_true] at hn
      exact ⟨hn.2.symm, hn.1.symm⟩
    obtain ⟨rfl, rfl⟩ := hfrm
    have hst := a6.step default []
    rw [show step P (lone (fat b a ro (.inLoop c :: k)) [default] w1) = .next (lone (fat b a ro (.code c :: .inLoop c :: k)) [default] w1) from step_lone_go (by simp [stepG, stepG.exec, Frame.at, fat])] at hst
    injection hst with hst
    simp [lone] at hst
  | succ n =>
    simp only [runN, s2] at hn
    exact ⟨v, v', σ', φ', w1, w', frm, a1, a2, a3, a4, ⟨n + 1, by simp only [runN, s1]; exact hn⟩, a6⟩
theorem AGo.inLoop {c : Code} (h : AGo P ro f N (.code c :: .inLoop c :: k) R fr σ) : AGo P ro f N (.inLoop c :: k) R fr σ :=
  AGo.goto (fun b a cs w => step_lone_go (by simp [stepG, stepG.exec, Frame.at, fat])) h
theorem AGo.exit {id : Nat} {k' : List Item} (hk : exitTo id k = some k') (h : AGo P ro f N k' R fr σ) : AGo P ro f N (.code (.exit id) :: k) R fr σ :=
  AGo.goto (fun b a cs w => step_lone_go (by simp [stepG, stepG.exec, Frame.at, fat, hk])) h
theorem AGo.gotoL {l : Nat} {k' : List Item} (hk : gotoIn l k = some k') (h : AGo P ro f N k' R fr σ) : AGo P ro f N (.code (.goto l) :: k) R fr σ :=
  AGo.goto (fun b a cs w => step_lone_go (by simp [stepG, stepG.exec, Frame.at, fat, hk])) h
theorem AGo.region {id : Nat} {ops : Array Oper} (h : AGo P ro f N (.inRegion ops (List.range ops.size) :: k) R fr σ) : AGo P ro f N (.code (.region id ops false) :: k) R fr σ :=
  AGo.goto (fun b a cs w => step_lone_go (by simp [stepG, stepG.exec, Frame.at, fat])) h
theorem AGo.regionEnd {ops : Array Oper} (h : AGo P ro f N k R fr σ) : AGo P ro f N (.inRegion ops [] :: k) R fr σ :=
  AGo.goto (fun b a cs w => step_lone_go (by simp [stepG, stepG.exec, Frame.at, fat])) h

theorem AGo.cond {c : Operand} {x y : Code} {t : Bool} (hc : aeval fr c = some (.bool t)) (h : AGo P ro f N (.code (if t then x else y) :: k) R fr σ) : AGo P ro f N (.code (.cond c x y) :: k) R fr σ := by
  intro B φ w a b cs h1 h2 h3 h4 h5
  have hv := (aeval_rv h2 hc).bool_inv
  have he := congrFun (fat_eval b a ro (.code (.cond c x y) :: k)) c
  have hs : step P (lone (fat b a ro (.code (.cond c x y) :: k)) cs w) = .next (lone (fat b a ro (.code (if t then x else y) :: k)) cs w) := step_lone_go (by
    simp only [fat, Frame.at] at he ⊢
    simp [stepG, stepG.exec, he, hv])
  exact Ends.of_steps (.one hs) (.refl _ _ _ _) (h B φ w a b cs h1 h2 h3 h4 h5)

theorem AGo.condT {c : Operand} {x y : Code} (hc : aeval fr c = some (.bool true)) (h : AGo P ro f N (.code x :: k) R fr σ) : AGo P ro f N (.code (.cond c x y) :: k) R fr σ := AGo.cond hc (by simpa using h)
theorem AGo.condF {c : Operand} {x y : Code} (hc : aeval fr c = some (.bool false)) (h : AGo P ro f N (.code y :: k) R fr σ) : AGo P ro f N (.code (.cond c x y) :: k) R fr σ := AGo.cond hc (by simpa using h)

/-- Fewer slots and fewer blocks are looked at. -/
theorem AGo.weaken {todo : List Item} {fr' : Fr} (hs : ∀ t v, aget fr' t = some v → aget fr t = some v) (h : AGo P ro f N todo R fr' σ) : AGo P ro f N todo R fr σ :=
  fun B φ w a b cs h1 h2 h3 h4 h5 => h B φ w a b cs h1 (h2.weaken hs) h3 h4 h5
end

/-! ### One operation -/
theorem fat_finish (b : Frame) (a : Act) (ro : Option Nat) (ops : Array Oper) (i : Nat) (rest : List Nat) (k : List Item) (v : Value) :
    (fat b a ro (.inRegion ops (i :: rest) :: k)).finish v = fat b (a.put ((ops[i]?).bind (·.dst)) v) ro (.inRegion ops rest :: k) := by
  cases h : (ops[i]?).bind (·.dst) <;> simp [Frame.finish, fat, Frame.at, Act.put, h]

theorem step_skipop {P : Program} {b : Frame} {a : Act} {ro : Option Nat} {ops : Array Oper} {i : Nat} {rest : List Nat} {k : List Item} {cs : List Frame} {w : World}
    (h : ((ops[i]?).map (Region.wanted · (yielded ops a.tmps))).getD false = false) :
    step P (lone (fat b a ro (.inRegion ops (i :: rest) :: k)) cs w) = .next (lone (fat b (a.put ((ops[i]?).bind (·.dst)) undef) ro (.inRegion ops rest :: k)) cs w) := by
  rw [← fat_finish]
  exact step_lone_go (by
    have h' := h
    simp only [fat, Frame.at] at *
    simp [stepG, stepG.exec, h'])

/-- Not a deferred call: in a round those go another way. -/
def notDefer (o : Oper) : Bool := match o.op with | .defer _ => false | _ => true

theorem stepG_opR {P : Program} {b : Frame} {a : Act} {ro : Option Nat} {ops : Array Oper} {i : Nat} {rest : List Nat} {k : List Item} {cs : List Frame} {w : World} {o : Oper} (ho : ops[i]? = some o) (hw : Region.wanted o (yielded ops a.tmps) = true) (hd : notDefer o = true) :
    stepG P true { frame := fat b a ro (.inRegion ops (i :: rest) :: k), callers := cs, status := .running, dying := none } w =
      stepG.apply P true (fat b a ro (.inRegion ops (i :: rest) :: k)) cs none (execOp a.eval o) w := by
  have he := fat_eval b a ro (.inRegion ops (i :: rest) :: k)
  simp only [fat, Frame.at] at he
  have hop : ∀ c, o.op ≠ .defer c := fun c e => by simp [notDefer, e] at hd
  cases ro with
  | none => simp [stepG, stepG.exec, stepG.oper, Frame.oper?, fat, Frame.at, ho, hw, he]
  | some l =>
    simp only [stepG, stepG.exec, stepG.oper, Frame.oper?, fat, Frame.at, ho, hw, he]
    simp only [Option.map_some, hw, Option.getD_some, if_true]
    split
    · rename_i l' c h1 h2; exact absurd h2 (hop c)
    · rfl

theorem nth_get : ∀ (l : List Oper) (j : Nat), nth (l.map (·.dst)) j = (l[j]?).bind (·.dst)
  | [], j => by simp [nth]
  | o :: r, 0 => by simp [nth]
  | o :: r, j + 1 => by simp [nth, nth_get r j]

theorem awanted_ok {φ : BMap} {N : Nat} {fr : Fr} {tmps : Array Value} {ops : Array Oper} {o : Oper} {t : Bool} (hf : RF φ N fr tmps) (h : awanted (ops.toList.map (·.dst)) fr o.guard = some t) : Region.wanted o (yielded ops tmps) = t := by
  unfold awanted at h
  unfold Region.wanted
  split at h
  · rename_i hg; cases h; rw [hg]
  · rename_i j want hg
    rw [hg]
    simp only
    have hn : nth (ops.toList.map (·.dst)) j = (ops[j]?).bind (·.dst) := by rw [nth_get]; simp
    rw [hn] at h
    split at h
    · rename_i hd; cases h; simp [yielded, hd]
    · rename_i d hd
      split at h
      · rename_i b hb
        cases h
        obtain ⟨v', h1, h2⟩ := hf.get d _ hb
        cases h2.bool_inv
        simp only [yielded, hd, Option.bind_some, h1]
        cases b <;> cases want <;> rfl
      · rename_i vs hb
        cases h
        obtain ⟨v', h1, h2⟩ := hf.get d _ hb
        obtain ⟨vs', rfl, _⟩ := h2.tuple_inv
        simp [yielded, hd, h1]
      · cases h

theorem acallee_none_exec {P : Program} {σ : AHeap} {id : Nat} {fr : Fr} {o : Oper} {r : Value × AHeap} (h : aexec P σ id fr o.op = some r) : notDefer o = true := by
  unfold notDefer
  split
  · rename_i ho; rw [ho] at h; simp [aexec] at h
  · rfl

theorem act_put (a : Act) (dst : Option Tmp) (v : Value) : (a.put dst v).tmps = match dst with | some d => a.tmps.setIfInBounds d v | none => a.tmps := by cases dst <;> rfl
theorem act_put_defers (a : Act) (dst : Option Tmp) (v : Value) : (a.put dst v).defers = a.defers := by cases dst <;> rfl

theorem RF.dst {φ : BMap} {N : Nat} {fr : Fr} {a : Act} {dst : Option Tmp} {v v' : Value} (hf : RF φ N fr a.tmps) (hd : dstOk N dst = true) (hv : RV φ v v') : RF φ N (adst fr dst v) (a.put dst v').tmps := by
  cases dst with
  | none => exact hf
  | some d => exact hf.put (by simpa [dstOk] using hd) hv

theorem OStep.toStep {φ φ' : BMap} {σ σ' : AHeap} {w w' : World} (h : OStep σ.next φ (σ.bump 1) w φ' σ' w') : Step σ.next φ σ w φ' σ' w' where
  ext := h.ext
  old b hb := h.old b (by omega)
  next := by rw [h.next]; simp
  os := h.os
  tape := h.tape
  output := h.output
  size := h.size
  kept := h.kept
  own := h.own
  dead b hb hd := h.dead b (by omega) hd
  ro := h.ro

theorem undef_rv (φ : BMap) : RV φ undef undef := RV.tuple_of (xs := []) (xs' := []) (.nil φ)

theorem step_value {P : Program} {b : Frame} {a : Act} {ro : Option Nat} {ops : Array Oper} {i : Nat} {rest : List Nat} {k : List Item} {cs : List Frame} {w w' : World} {o : Oper} {v : Value} (ho : ops[i]? = some o) (hw : Region.wanted o (yielded ops a.tmps) = true) (hd : notDefer o = true)
    (hr : (execOp a.eval o).run P w = .ok (.value v) w' ∨ ((execOp a.eval o).run P w = .ok .skip w' ∧ v = undef)) :
    step P (lone (fat b a ro (.inRegion ops (i :: rest) :: k)) cs w) = .next (lone (fat b (a.put o.dst v) ro (.inRegion ops rest :: k)) cs w') := by
  have hg := stepG_opR (P := P) (b := b) (ro := ro) (k := k) (cs := cs) (w := w) (rest := rest) ho hw hd
  have hfin : ∀ v, (fat b a ro (.inRegion ops (i :: rest) :: k)).finish v = fat b (a.put o.dst v) ro (.inRegion ops rest :: k) := by
    intro v; rw [fat_finish, ho]; rfl
  rcases hr with hr | ⟨hr, rfl⟩
  · refine step_lone_go ?_
    rw [hg, ← hfin]; simp [stepG.apply, hr]
  · refine step_lone_go ?_
    rw [hg, ← hfin]; simp [stepG.apply, hr]

section
variable {P : Program} {ro : Option Nat} {f : FuncId} {N : Nat} {R : Value → AHeap → Prop} {k : List Item}

/-- What is left of a region whose operations stand in the order of the text. -/
def AReg (P : Program) (ro : Option Nat) (f : FuncId) (N : Nat) (gds : List (Option Tmp)) (L : List SOp) (k : List Item) (R : Value → AHeap → Prop) (fr : Fr) (σ : AHeap) : Prop :=
  ∀ (ops : Array Oper) (is : List Nat), ops.toList.map (·.dst) = gds → is.map (fun i => (ops[i]?).map slim) = L.map some → AGo P ro f N (.inRegion ops is :: k) R fr σ

theorem AGo.code {id : Nat} {l : List Oper} {fr : Fr} {σ : AHeap} {gds : List (Option Tmp)} {L : List SOp} (hg : l.map (·.dst) = gds) (hL : l.map slim = L) (h : AReg P ro f N gds L k R fr σ) : AGo P ro f N (.code (.region id l.toArray false) :: k) R fr σ := by
  refine AGo.region (h _ _ (by simpa using hg) ?_)
  rw [← hL]
  apply List.ext_getElem?
  intro i
  simp only [List.size_toArray, List.getElem?_map, List.getElem?_toArray]
  by_cases hi : i < l.length
  · simp [List.getElem?_range hi, List.getElem?_eq_getElem hi]
  · simp [hi]

theorem AReg.nil {gds : List (Option Tmp)} {fr : Fr} {σ : AHeap} (h : AGo P ro f N k R fr σ) : AReg P ro f N gds [] k R fr σ := by
  intro ops is _ h2
  have : is = [] := by simpa using h2
  subst this
  exact AGo.regionEnd h

/-- One operation that is no call of a Go function. -/
theorem AReg.op {gds : List (Option Tmp)} {o : SOp} {r : List SOp} {fr fr' : Fr} {σ σ' : AHeap} (h : aop P N gds o fr σ = some (fr', σ')) (hgo : AReg P ro f N gds r k R fr' σ') : AReg P ro f N gds (o :: r) k R fr σ := by
    intro ops is e1 e2
    cases is with
    | nil => simp at e2
    | cons i is =>
      simp only [List.map_cons, List.cons.injEq] at e2
      obtain ⟨e2, e3⟩ := e2
      rw [Option.map_eq_some_iff] at e2
      obtain ⟨oo, ho, rfl⟩ := e2
      have ih := hgo ops is e1 e3
      unfold aop at h
      split at h
      · -- not wanted
        rename_i hdst hwant
        cases h
        intro B φ w a b cs h1 h2 h3 h4 h5
        have hw := awanted_ok (ops := ops) h2 (by rw [e1]; exact hwant)
        have hs := step_skipop (P := P) (b := b) (ro := ro) (a := a) (k := k) (cs := cs) (w := w) (ops := ops) (i := i) (rest := is) (by simp [ho, hw])
        rw [ho] at hs
        exact Ends.of_steps (.one hs) (.refl _ _ _ _) (ih B φ w _ b cs h1 (h2.dst hdst (undef_rv φ)) (by rw [act_put_defers]; exact h3) h4 h5)
      · rename_i hdst hwant
        split at h
        case h_2 => cases h
        rename_i v σ1 hex
        cases h
        intro B φ w a b cs h1 h2 h3 h4 h5
        have hw := awanted_ok (ops := ops) h2 (by rw [e1]; exact hwant)
        have hid : φ σ.next = none := h1.fresh _ (Nat.le_refl _)
        obtain ⟨v', w', φ', c1, c2, c3, c4⟩ := aexec_ok (o := oo) (h1.bump 1) h2 hid (by simp) hex
        have hs := step_value (P := P) (b := b) (ro := ro) (k := k) (cs := cs) (rest := is) ho hw (acallee_none_exec hex) c1
        exact Ends.of_steps (.one hs) c4.toStep (ih B φ' w' _ b cs c3 ((h2.ext c4.ext).dst hdst c2) (by rw [act_put_defers]; exact h3) h4 h5)
      · cases h

/-- The function has a body. -/
def hasBody (P : Program) (g : FuncId) : Bool :=
  match P.funcs[g]? with
  | some fn => fn.body.isSome && fn.name != "runtime.NumGoroutine"
  | none => false

/-- A call of a Go function. -/
theorem AGo.call {ops : Array Oper} {i : Nat} {r : List Nat} {o : Oper} {g : FuncId} {vs : List Value} {fr : Fr} {σ : AHeap} (ho : ops[i]? = some o) (hd : dstOk N o.dst = true) (hw : awanted (ops.toList.map (·.dst)) fr o.guard = some true) (hc : acallee fr o.op = some (g, vs)) (hb : hasBody P g = true)
    (h : ACalls P g vs σ fun v σ' => AGo P ro f N (.inRegion ops r :: k) R (adst fr o.dst v) σ') : AGo P ro f N (.inRegion ops (i :: r) :: k) R fr σ := by
  intro B φ w a b cs h1 h2 h3 h4 h5
  have hwant := awanted_ok h2 hw
  unfold acallee at hc
  split at hc
  case h_2 => cases hc
  rename_i fo args ts hop
  split at hc
  case h_2 => cases hc
  rename_i kf xs ys us e1 e2
  cases hc
  obtain ⟨xs', ys', hfv, hx, hy⟩ := (aeval_rv h2 e1).func_inv
  have hargs := aevals_rv h2 e2
  have hrun : (execOp a.eval o).run P w = .ok (.enter g (xs'.toList ++ args.toList.map a.eval ++ ys'.toList).toArray) w := by
    unfold hasBody at hb
    split at hb
    · rename_i fn hfn
      simp only [Bool.and_eq_true, bne_iff_ne, ne_eq] at hb
      have hnone : fn.body.isNone = false := by cases hbd : fn.body <;> simp_all
      have e : xs' ++ (args.map a.eval) ++ ys' = (xs'.toList ++ args.toList.map a.eval ++ ys'.toList).toArray := by apply Array.ext'; simp
      simp only [execOp, hop, Sem.run_bind, resolve, hfv, Deferred.ofValue, Sem.run_pure, Result.andThen_ok, invoke, callFunc, run_program, hfn, hb.2, hnone, if_false, Bool.false_eq_true, beq_iff_eq]
      rw [e]
    · cases hb
  have hg := stepG_opR (P := P) (b := b) (ro := ro) (a := a) (k := k) (cs := cs) (w := w) (rest := r) ho hwant (by simp [notDefer, hop])
  have henter : step P (lone (fat b a ro (.inRegion ops (i :: r) :: k)) cs w) = .next (lone (Frame.enter P g (xs'.toList ++ args.toList.map a.eval ++ ys'.toList).toArray .normal) (fat b a ro (.inRegion ops (i :: r) :: k) :: cs) w) :=
    step_lone_go (by rw [hg]; simp [stepG.apply, hrun, fat, Frame.at])
  obtain ⟨v, v', σ', φ', w1, w', frm, a1, a2, a3, a4, a5, a6⟩ := h B φ w _ (fat b a ro (.inRegion ops (i :: r) :: k) :: cs) h1 ((hx.append hargs).append hy)
  have hfin : (fat b a ro (.inRegion ops (i :: r) :: k)).finish v' = fat b (a.put o.dst v') ro (.inRegion ops r :: k) := by rw [fat_finish, ho]; rfl
  have hleave := a6.step (fat b a ro (.inRegion ops (i :: r) :: k)) cs
  rw [hfin] at hleave
  refine Ends.of_steps ((Steps.one henter).trans (a5.trans (.one hleave))) a4 (a1 B φ' w' _ b cs a3 ((h2.ext a4.ext).dst hd a2) (by rw [act_put_defers]; exact h3) h4 h5)

theorem AReg.call {gds : List (Option Tmp)} {o : SOp} {r : List SOp} {g : FuncId} {vs : List Value} {fr : Fr} {σ : AHeap} (hd : dstOk N o.dst = true) (hw : awanted gds fr o.guard = some true) (hc : acallee fr o.op = some (g, vs)) (hb : hasBody P g = true)
    (h : ACalls P g vs σ fun v σ' => AReg P ro f N gds r k R (adst fr o.dst v) σ') : AReg P ro f N gds (o :: r) k R fr σ := by
  intro ops is e1 e2
  cases is with
  | nil => simp at e2
  | cons i is =>
    simp only [List.map_cons, List.cons.injEq] at e2
    obtain ⟨e2, e3⟩ := e2
    rw [Option.map_eq_some_iff] at e2
    obtain ⟨oo, ho, rfl⟩ := e2
    exact AGo.call ho hd (by rw [e1]; exact hw) hc hb (h.mono fun v σ' hh => hh ops is e1 e3)

/-! ### Returning -/
def aresult (P : Program) (fr : Fr) (σ : AHeap) : ResultVar → Option Value
  | .tmp t => aget fr t
  | .cell a t => match aget fr a with
    | some p => aload P σ t p
    | none => none
def aresults (P : Program) (fr : Fr) (σ : AHeap) : List ResultVar → Option (List Value)
  | [] => some []
  | x :: r => match aresult P fr σ x, aresults P fr σ r with
    | some v, some vs => some (v :: vs)
    | _, _ => none
def packResults : List Value → Value
  | [v] => v
  | vs => .tuple vs.toArray

def resFn (tmps : Array Value) : ResultVar → Sem Value
  | .tmp t => pure (tmps.getD t undef)
  | .cell a t => do loadVar t (← asAddr (tmps.getD a undef))
theorem results_eq (fn : Func) (tmps : Array Value) : results fn tmps = (do let vs ← fn.results.mapM (resFn tmps); pure (if h : vs.size = 1 then vs[0] else .tuple vs)) := rfl

theorem aresults_run {B : Nat} {φ : BMap} {σ : AHeap} {w : World} {fr : Fr} {tmps : Array Value} (hr : RH P φ σ w B) (hf : RF φ N fr tmps) : ∀ {rs : List ResultVar} {vs : List Value}, aresults P fr σ rs = some vs →
    ∃ vs', (rs.mapM (resFn tmps)).run P w = .ok vs' w ∧ RVs φ vs vs'
  | [], vs, h => by simp only [aresults, Option.some.injEq] at h; subst h; exact ⟨[], by simp, .nil φ⟩
  | x :: r, vs, h => by
    simp only [aresults] at h
    split at h
    · rename_i v us h1 h2
      cases h
      obtain ⟨us', a1, a2⟩ := aresults_run hr hf h2
      have : ∃ v', ((resFn tmps) x).run P w = .ok v' w ∧ RV φ v v' := by
        cases x with
        | tmp t => obtain ⟨v', b1, b2⟩ := hf.get t v h1; exact ⟨v', by simp [resFn, b1], b2⟩
        | cell p t =>
          simp only [aresult] at h1
          split at h1
          · rename_i q hq
            obtain ⟨q', b1, b2⟩ := hf.get p q hq
            obtain ⟨v', b3, b4⟩ := aload_rv hr h1 b2
            refine ⟨v', ?_, b4⟩
            have hq' : ∃ ad, q' = .pointer (some ad) := by
              unfold aload at h1
              split at h1
              · obtain ⟨p, _, rfl⟩ := b2.ptr_inv; exact ⟨_, rfl⟩
              · cases h1
            obtain ⟨ad, rfl⟩ := hq'
            simp only [Instr.loadAt, Instr.sureAddr, Sem.run_bind, Sem.run_pure, Result.andThen_ok] at b3
            simp only [resFn, tmps_getD b1, Sem.run_bind, asAddr, Sem.run_pure, Result.andThen_ok, b3]
          · cases h1
      obtain ⟨v', b1, b2⟩ := this
      refine ⟨v' :: us', ?_, .cons b2 a2⟩
      simp only [List.mapM_cons, Sem.run_bind, b1, Result.andThen_ok, a1, Sem.run_pure]
    · cases h

theorem results_run {B : Nat} {φ : BMap} {σ : AHeap} {w : World} {fr : Fr} {tmps : Array Value} {fn : Func} {vs : List Value} (hr : RH P φ σ w B) (hf : RF φ N fr tmps) (h : aresults P fr σ fn.results.toList = some vs) :
    ∃ v', (results fn tmps).run P w = .ok v' w ∧ RV φ (packResults vs) v' := by
  obtain ⟨vs', a1, a2⟩ := aresults_run hr hf h
  refine ⟨packResults vs', ?_, ?_⟩
  · rw [results_eq, Array.mapM_eq_mapM_toList]
    simp only [Sem.run_bind, Sem.run_map, a1, Result.andThen_ok, Sem.run_pure]
    congr 1
    match vs' with
    | [] => rfl
    | [v] => rfl
    | v :: u :: r => simp [packResults]
  · match vs, vs', a2 with
    | [], [], a2 => exact RV.tuple_of a2
    | [v], [v'], a2 => exact a2.2 0 _ _ rfl rfl
    | v :: u :: r, v' :: u' :: r', a2 => exact RV.tuple_of a2
    | [], _ :: _, a2 => exact absurd a2.1 (by simp)
    | _ :: _, [], a2 => exact absurd a2.1 (by simp)
    | [_], _ :: _ :: _, a2 => exact absurd a2.1 (by simp)
    | _ :: _ :: _, [_], a2 => exact absurd a2.1 (by simp)

theorem Ends.leave {B : Nat} {φ : BMap} {σ : AHeap} {w : World} {fr : Fr} {a : Act} {b : Frame} {cs : List Frame} {todo todo' : List Item} {fn : Func} {vs : List Value} (hr : RH P φ σ w B) (hf : RF φ N fr a.tmps) (hd : a.defers = []) (hb : b.fn = f) (hk : b.kind = .normal)
    (hfn : P.funcs[f]? = some fn) (h : aresults P fr σ fn.results.toList = some vs) (hR : R (packResults vs) σ)
    (hs : step P (lone (b.at a todo) cs w) = .next (lone { b.at a todo' with mode := .returning } cs w)) : Ends P none f B φ σ w (fat b a none todo) cs R := by
  obtain ⟨v', a1, a2⟩ := results_run hr hf h
  refine ⟨packResults vs, v', σ, φ, w, w, { b.at a todo' with mode := .returning }, hR, a2, hr, .refl _ _ _ _, .one hs, hb, ⟨rfl, hd, hk, fn, ?_, a1⟩, rfl⟩
  show P.funcs[b.fn]? = some fn
  rw [hb]; exact hfn

theorem AGo.ret {fr : Fr} {σ : AHeap} {fn : Func} {vs : List Value} (hfn : P.funcs[f]? = some fn) (h : aresults P fr σ fn.results.toList = some vs) (hR : R (packResults vs) σ) : AGo P none f N (.code .ret :: k) R fr σ :=
  fun _ _ _ _ _ _ h1 h2 h3 h4 h5 => Ends.leave h1 h2 h3 h4 h5 hfn h hR step_ret

theorem AGo.done {fr : Fr} {σ : AHeap} {fn : Func} {vs : List Value} (hfn : P.funcs[f]? = some fn) (h : aresults P fr σ fn.results.toList = some vs) (hR : R (packResults vs) σ) : AGo P none f N [] R fr σ :=
  fun _ _ _ _ _ _ h1 h2 h3 h4 h5 => Ends.leave h1 h2 h3 h4 h5 hfn h hR step_end

/-! ### Entering -/
def aenter : Nat → List Value → Fr
  | _, [] => []
  | i, v :: r => (i, v) :: aenter (i + 1) r

theorem aenter_get : ∀ (vs : List Value) (i t : Nat) (v : Value), aget (aenter i vs) t = some v → i ≤ t ∧ vs[t - i]? = some v
  | [], i, t, v, h => by simp [aenter, aget] at h
  | u :: r, i, t, v, h => by
    simp only [aenter, aget_cons] at h
    split at h
    · rename_i e; cases h; subst e; exact ⟨Nat.le_refl _, by simp⟩
    · obtain ⟨a, b⟩ := aenter_get r (i + 1) t v h
      refine ⟨by omega, ?_⟩
      rw [show t - i = (t - (i + 1)) + 1 by omega]; simpa using b

theorem ACalls.enter {g : FuncId} {vs : List Value} {σ : AHeap} {fn : Func} {c : Code} (hfn : P.funcs[g]? = some fn) (hc : fn.body = some c) (hn : vs.length ≤ fn.ntmps)
    (h : AGo P none g fn.ntmps [.code c] R (aenter 0 vs) σ) : ACalls P g vs σ R := by
  intro B φ w args' cs h1 h2
  let b : Frame := { (default : Frame) with fn := g, kind := .normal }
  have henter : Frame.enter P g args'.toArray .normal = fat b { tmps := args'.toArray ++ Array.replicate (fn.ntmps - args'.toArray.size) undef, defers := [] } none [.code c] := by
    simp [Frame.enter, fat, Frame.at, hfn, hc, b]
  rw [henter]
  refine h B φ w _ b cs h1 ⟨?_, fun t v hv => ?_⟩ rfl rfl rfl
  · have := h2.1; simp; omega
  · obtain ⟨_, hv'⟩ := aenter_get vs 0 t v hv
    obtain ⟨v', a1, a2⟩ := h2.get (i := t) (v := v) (by simpa using hv')
    refine ⟨v', ?_, a2⟩
    have ht : t < args'.length := (List.getElem?_eq_some_iff.1 a1).1
    rw [Array.getElem?_append_left (by simpa using ht)]; simpa using a1
end

end Go.Abs
