/- A part of the proof: contracts of functions of the program, shown by walking through their code in an abstract machine. Condition: none. -/
import Derived.Test.YtipgikhblcfpjaaAbsGr3
import Derived.Below
import Derived.ChangeSlices
import Derived.Deep.Grids
import Derived.WideShapes
import Derived.RowKit
set_option linter.unusedVariables false
set_option linter.unusedSimpArgs false
/- THE ABSTRACT MACHINE, part U: from a contract to the walk of a law. -/
namespace Go.Abs
open Go Go.RowKit

theorem ACalls.top {P : Program} {f : FuncId} {args : List Value} {args' : Array Value} {w : World} {σ0 : AHeap} {φ0 : BMap} (hr : RH P φ0 σ0 w w.heap.size) (hargs : RVs φ0 args args'.toList) (hro : ∀ b x, σ0.blk b = some x → x.rw = false)
    (h : ACalls P f args σ0 fun v _ => v = .bool true) : Calls P f args' w fun e w' => e = .returned (.bool true) ∧ Below w.heap.size w w' := by
  intro cs
  obtain ⟨v, v', σ', φ', w1, w', frm, rfl, a2, a3, a4, a5, a6, a7, rfl⟩ := h w.heap.size φ0 w args'.toList cs hr hargs
  cases a2.bool_inv
  refine ⟨_, w', frm, ⟨rfl, ⟨a4.os, a4.tape, a4.output, a4.size, fun k hk => a4.kept k hk fun ⟨b, x, p, hx, hrw, _⟩ => ?_⟩⟩, ?_, a6, a7⟩
  · rw [hro b x hx] at hrw; cases hrw
  · show Steps P _ _
    simpa using a5

theorem RH.empty (P : Program) (w : World) : RH P (fun _ => none) empty0 w w.heap.size := ⟨Nat.le_refl _, fun _ _ => rfl, fun b x hx => (by cases hx), fun b c x y p q hx => (by cases hx)⟩

/-- Arguments without blocks. -/
theorem ACalls.top0 {P : Program} {f : FuncId} {args : List Value} {w : World} (hc : args.all closedCell = true) (h : ACalls P f args empty0 fun v _ => v = .bool true) :
    Calls P f args.toArray w fun e w' => e = .returned (.bool true) ∧ Below w.heap.size w w' := by
  refine ACalls.top (RH.empty P w) ⟨rfl, fun i v v' a b => ?_⟩ (fun b x hx => by cases hx) h
  simp only at b
  rw [a] at b; cases b
  simp only [List.all_eq_true] at hc
  have := hc v (List.mem_of_getElem? a)
  unfold closedCell at this
  split at this
  · exact .bool _
  · exact .int _ _
  · exact .string _
  · exact .nilptr
  · exact .nilslice
  · exact .nilmap
  · exact .nilFunc
  · exact .nilIface
  · cases this
end Go.Abs

/- THE ABSTRACT MACHINE, part V: struct types whose values are compared as data. -/
namespace Go.Abs
open Go

theorem KeyOk.deep {P : Program} {m : Nat} (hm : m + 1 ≤ 10000) {k : TypeId} (hk : P.keyTypeAt m k = true) (ht : P.tiled m k = true) (hwide : (match P.underlying k with | some (.array _ _) | some (.struct _) => true | _ => false) = true) (hg : P.eqGuardType P.depth k = false) : KeyOk P k where
  law := deep_law hm hk ht hwide
  eq w x y hx hy := by
    obtain ⟨lx, hlx⟩ := Option.isSome_iff_exists.1 hx
    obtain ⟨ly, hly⟩ := Option.isSome_iff_exists.1 hy
    obtain ⟨r, h1, h2⟩ := run_equal_deep w (by omega) hk hwide hlx hly
    refine ⟨r, h1, h2.trans ⟨fun e => ?_, fun e => ?_⟩⟩
    · subst e; exact keyOf_inj_deep ht hwide hlx hly
    · subst e; rw [hlx] at hly; cases hly; rfl
  guard := hg
end Go.Abs

/- THE ABSTRACT MACHINE, part W: words for walks by hand: heaps in one form, loops, numbers. -/
namespace Go.Abs
open Go

theorem bump_bump (σ : AHeap) (a b : Nat) : (σ.bump a).bump b = σ.bump (a + b) := by simp [AHeap.bump, Nat.add_assoc]
theorem set_bump (σ : AHeap) (b : Nat) (x : ABlk) (n : Nat) : (σ.set b x).bump n = (σ.bump n).set b x := rfl
theorem del_bump (σ : AHeap) (b : Nat) (n : Nat) : (σ.del b).bump n = (σ.bump n).del b := rfl
theorem set_set (σ : AHeap) (b : Nat) (x y : ABlk) : (σ.set b x).set b y = σ.set b y := by
  refine AHeap.ext (σ := (σ.set b x).set b y) (τ := σ.set b y) rfl ?_
  intro i; simp only [AHeap.set_blk]; split <;> rfl

theorem Sub.bump {σ τ : AHeap} (h : Sub σ τ) (n : Nat) : Sub (σ.bump n) (τ.bump n) := h
theorem Sub.set {σ τ : AHeap} (h : Sub σ τ) (b : Nat) (x : ABlk) (hb : σ.blk b = none) : Sub σ (τ.set b x) := by
  intro c y hc
  rw [AHeap.set_blk]
  split
  · rename_i e; subst e; rw [hb] at hc; cases hc
  · exact h c y hc
theorem Sub.both {σ τ : AHeap} (h : Sub σ τ) (b : Nat) (x : ABlk) : Sub (σ.set b x) (τ.set b x) := by
  intro c y hc
  rw [AHeap.set_blk] at hc ⊢
  split
  · rename_i e; rw [if_pos e] at hc; exact hc
  · rename_i e; rw [if_neg e] at hc; exact h c y hc

/-- Every slot of the first frame lies in the second. -/
def Has : Fr → Fr → Prop
  | [], _ => True
  | (t, v) :: r, fr => aget fr t = some v ∧ Has r fr
theorem Has.get : ∀ {F fr : Fr}, Has F fr → ∀ t v, aget F t = some v → aget fr t = some v
  | [], _, _, t, v, h => by simp [aget] at h
  | (s, u) :: r, fr, h, t, v, hv => by
    rw [aget_cons] at hv
    split at hv
    · rename_i e; subst e; cases hv; exact h.1
    · exact h.2.get t v hv
theorem AGo.has {P : Program} {ro : Ro} {f : FuncId} {N : Nat} {R : Value → AHeap → Prop} {fr F : Fr} {σ : AHeap} {todo : List Item} (hF : Has F fr) (h : AGo P ro f N todo R F σ) : AGo P ro f N todo R fr σ := AGo.weaken hF.get h

/-- A LOOP. F: the slots that are known at its head; S: what holds of the heap there; μ: what falls. -/
theorem AGo.loopI {P : Program} {ro : Ro} {f : FuncId} {N : Nat} {R : Value → AHeap → Prop} {c : Code} {k : List Item} {ι : Type} (F : ι → Fr) (S : ι → AHeap → Prop) (μ : ι → Nat)
    (body : ∀ x σ, S x σ → (∀ y σ' fr', μ y < μ x → S y σ' → Has (F y) fr' → AGo P ro f N (.inLoop c :: k) R fr' σ') → AGo P ro f N (.code c :: .inLoop c :: k) R (F x) σ)
    {x0 : ι} {σ : AHeap} {fr : Fr} (h0 : S x0 σ) (hF : Has (F x0) fr) : AGo P ro f N (.inLoop c :: k) R fr σ := by
  have key : ∀ (n : Nat) (x : ι), μ x ≤ n → ∀ (σ : AHeap) (fr : Fr), S x σ → Has (F x) fr → AGo P ro f N (.inLoop c :: k) R fr σ := by
    intro n
    induction n with
    | zero =>
      intro x hx σ fr hS hH
      exact AGo.inLoop (AGo.has hH (body x σ hS fun y σ' fr' hlt _ _ => absurd hlt (by omega)))
    | succ n ih =>
      intro x hx σ fr hS hH
      exact AGo.inLoop (AGo.has hH (body x σ hS fun y σ' fr' hlt h1 h2 => ih y (by omega) σ' fr' h1 h2))
  exact key (μ x0) x0 (Nat.le_refl _) σ fr h0 hF

/-- What was there is as it was. -/
structure More (σ σ' : AHeap) : Prop where
  next : σ.next ≤ σ'.next
  blk : ∀ b, b < σ.next → σ'.blk b = σ.blk b
theorem More.refl (σ : AHeap) : More σ σ := ⟨Nat.le_refl _, fun _ _ => rfl⟩
theorem More.trans {σ τ υ : AHeap} (h : More σ τ) (k : More τ υ) : More σ υ := ⟨Nat.le_trans h.next k.next, fun b hb => (k.blk b (Nat.lt_of_lt_of_le hb h.next)).trans (h.blk b hb)⟩
theorem More.bump (σ : AHeap) (n : Nat) : More σ (σ.bump n) := ⟨by simp, fun _ _ => rfl⟩
theorem More.bump' {σ τ : AHeap} (h : More σ τ) (n : Nat) : More σ (τ.bump n) := h.trans (.bump τ n)
theorem More.set {σ τ : AHeap} (h : More σ τ) {b : Nat} (x : ABlk) (hb : σ.next ≤ b) : More σ (τ.set b x) :=
  ⟨h.next, fun c hc => by rw [AHeap.set_blk, if_neg (by omega)]; exact h.blk c hc⟩
theorem More.del {σ τ : AHeap} (h : More σ τ) {b : Nat} (hb : σ.next ≤ b) : More σ (τ.del b) :=
  ⟨h.next, fun c hc => by rw [AHeap.del_blk, if_neg (by omega)]; exact h.blk c hc⟩

theorem wrap64 {n : Int} (h : -9223372036854775808 ≤ n ∧ n ≤ 9223372036854775807) : IntKind.i64.wrap n = n := IntWalk.i64_in n h
end Go.Abs

/- THE ABSTRACT MACHINE, part X: one rule per operation, for walks by hand. -/
namespace Go.Abs
open Go

/-- Only numbers of blocks have gone by. -/
def Gr (σ τ : AHeap) : Prop := ∃ n, τ = σ.bump n
theorem Gr.refl (σ : AHeap) : Gr σ σ := ⟨0, rfl⟩
theorem Gr.b {σ τ : AHeap} (h : Gr σ τ) (n : Nat) : Gr σ (τ.bump n) := by
  obtain ⟨m, rfl⟩ := h; exact ⟨m + n, bump_bump _ _ _⟩
theorem Gr.trans {σ τ υ : AHeap} (h : Gr σ τ) (k : Gr τ υ) : Gr σ υ := by
  obtain ⟨m, rfl⟩ := h; obtain ⟨n, rfl⟩ := k; exact ⟨m + n, bump_bump _ _ _⟩
theorem Gr.blk {σ τ : AHeap} (h : Gr σ τ) (b : Nat) : τ.blk b = σ.blk b := by obtain ⟨n, rfl⟩ := h; rfl
theorem Gr.ld {P : Program} {σ τ : AHeap} (h : Gr σ τ) {t : TypeId} {p v : Value} (hl : aload P σ t p = some v) : aload P τ t p = some v := by obtain ⟨n, rfl⟩ := h; exact hl
theorem Gr.next {σ τ : AHeap} (h : Gr σ τ) : σ.next ≤ τ.next := by obtain ⟨n, rfl⟩ := h; simp

theorem aload_set_ne {P : Program} {σ : AHeap} {c : Nat} {x : ABlk} {t : TypeId} {b o : Nat} (h : b ≠ c) : aload P (σ.set c x) t (.pointer (some ⟨b, o, none⟩)) = aload P σ t (.pointer (some ⟨b, o, none⟩)) := by
  simp only [aload, AHeap.set_blk, if_neg h]
theorem aload_bump (P : Program) (σ : AHeap) (n : Nat) (t : TypeId) (p : Value) : aload P (σ.bump n) t p = aload P σ t p := rfl
/-- Of a block that was just set, a cell. -/
theorem aload_cell {P : Program} {σ : AHeap} {b o : Nat} {cs : List Value} {e : TypeId} {rw : Bool} {t : TypeId} {T : ATy} {v : Value} (hb : σ.blk b = some (.cells cs e rw)) (ht : ty P t = some T) (ha : T.agg = false) (hv : cs[o]? = some v) : aload P σ t (.pointer (some ⟨b, o, none⟩)) = some v := by
  simp only [aload, hb, ht, ha]; exact hv
theorem aload_agg {P : Program} {σ : AHeap} {b o : Nat} {cs : List Value} {e : TypeId} {rw : Bool} {t : TypeId} {T : ATy} (hb : σ.blk b = some (.cells cs e rw)) (ht : ty P t = some T) (ha : T.agg = true) (hl : o + T.size ≤ cs.length) : aload P σ t (.pointer (some ⟨b, o, none⟩)) = some (.agg ((cs.drop o).take T.size).toArray) := by
  simp only [aload, hb, ht, ha, if_true, if_pos hl]
theorem blk_set (σ : AHeap) (b : Nat) (x : ABlk) : (σ.set b x).blk b = some x := by rw [AHeap.set_blk, if_pos rfl]
theorem blk_ne {σ : AHeap} {b c : Nat} {x : ABlk} (h : b ≠ c) : (σ.set c x).blk b = σ.blk b := by rw [AHeap.set_blk, if_neg h]

theorem astore_to {P : Program} {σ : AHeap} {b o : Nat} {cs : List Value} {e : TypeId} {t : TypeId} {T : ATy} {v : Value} (hb : σ.blk b = some (.cells cs e true)) (ht : ty P t = some T) (hv : v.cells.size = T.size) (hl : o + T.size ≤ cs.length) (hn : isTuple v = false) :
    astore P σ t (.pointer (some ⟨b, o, none⟩)) v = some (σ.set b (.cells (setRange cs o v.cells.toList) e true)) := by
  simp only [astore, hb, ht]; rw [if_pos ⟨hv, hl, hn⟩]

section
variable {P : Program} {ro : Ro} {f : FuncId} {N : Nat} {R : Value → AHeap → Prop} {k : List Item} {gds : List (Option Tmp)} {r : List SOp} {fr : Fr} {σ : AHeap}

theorem AGo.reg {id : Nat} {l : List Oper} (h : AReg P ro f N (l.map (·.dst)) (l.map slim) k R fr σ) : AGo P ro f N (.code (.region id l.toArray false) :: k) R fr σ := AGo.code rfl rfl h

theorem aop_of {d : Tmp} {o : Op} {v : Value} {σ' : AHeap} (hd : decide (d < N) = true) (h : aexec P (σ.bump 1) σ.next fr o = some (v, σ')) : aop P N gds ⟨some d, o, none⟩ fr σ = some (aput fr d v, σ') := by
  simp only [aop, dstOk, hd, awanted, h, adst]
theorem aop_of0 {o : Op} {v : Value} {σ' : AHeap} (h : aexec P (σ.bump 1) σ.next fr o = some (v, σ')) : aop P N gds ⟨none, o, none⟩ fr σ = some (fr, σ') := by
  simp only [aop, dstOk, awanted, h, adst]

theorem AReg.has {fr' : Fr} {L : List SOp} (hs : ∀ t v, aget fr' t = some v → aget fr t = some v) (h : AReg P ro f N gds L k R fr' σ) : AReg P ro f N gds L k R fr σ := fun ops is e1 e2 => AGo.weaken hs (h ops is e1 e2)
theorem cons_aput {d : Tmp} {v : Value} {t : Nat} {u : Value} (h : aget ((d, v) :: fr) t = some u) : aget (aput fr d v) t = some u := by
  rw [aget_aput]; rw [aget_cons] at h; exact h

/-- An operation that leaves a value. -/
theorem AReg.val {d : Tmp} {o : Op} {v : Value} {σ' : AHeap} (hd : decide (d < N) = true) (h : aexec P (σ.bump 1) σ.next fr o = some (v, σ')) (hgo : AReg P ro f N gds r k R ((d, v) :: fr) σ') : AReg P ro f N gds (⟨some d, o, none⟩ :: r) k R fr σ := AReg.op (aop_of hd h) (AReg.has (fun _ _ => cons_aput) hgo)
theorem AReg.eff {o : Op} {v : Value} {σ' : AHeap} (h : aexec P (σ.bump 1) σ.next fr o = some (v, σ')) (hgo : AReg P ro f N gds r k R fr σ') : AReg P ro f N gds (⟨none, o, none⟩ :: r) k R fr σ := AReg.op (aop_of0 h) hgo

theorem AReg.move {d : Tmp} {x : Operand} {v : Value} (hd : decide (d < N) = true) (hx : aeval fr x = some v) (hgo : AReg P ro f N gds r k R ((d, v) :: fr) (σ.bump 1)) : AReg P ro f N gds (⟨some d, .move x, none⟩ :: r) k R fr σ :=
  AReg.val hd (by simp only [aexec, hx, Option.map_some]) hgo
theorem AReg.assign {d : Tmp} {x : Operand} {v : Value} (hd : decide (d < N) = true) (hx : aeval fr x = some v) (hgo : AReg P ro f N gds r k R ((d, v) :: fr) (σ.bump 1)) : AReg P ro f N gds (⟨some d, .assign x, none⟩ :: r) k R fr σ :=
  AReg.val hd (by simp only [aexec, hx, Option.map_some]) hgo
theorem AReg.lss {d : Tmp} {x y : Operand} {t u : TypeId} {kd : IntKind} {a b : Int} (hd : decide (d < N) = true) (hx : aeval fr x = some (.int kd a)) (hy : aeval fr y = some (.int kd b)) (hgo : AReg P ro f N gds r k R ((d, (.bool (decide (a < b)))) :: fr) (σ.bump 1)) : AReg P ro f N gds (⟨some d, .binOp .lss t x y u, none⟩ :: r) k R fr σ :=
  AReg.val hd (by simp only [aexec, hx, hy, abinT, abin, if_pos, Option.map_some]) hgo
theorem AReg.leq {d : Tmp} {x y : Operand} {t u : TypeId} {kd : IntKind} {a b : Int} (hd : decide (d < N) = true) (hx : aeval fr x = some (.int kd a)) (hy : aeval fr y = some (.int kd b)) (hgo : AReg P ro f N gds r k R ((d, (.bool (decide (a ≤ b)))) :: fr) (σ.bump 1)) : AReg P ro f N gds (⟨some d, .binOp .leq t x y u, none⟩ :: r) k R fr σ :=
  AReg.val hd (by simp only [aexec, hx, hy, abinT, abin, if_pos, Option.map_some]) hgo
theorem AReg.gtr {d : Tmp} {x y : Operand} {t u : TypeId} {kd : IntKind} {a b : Int} (hd : decide (d < N) = true) (hx : aeval fr x = some (.int kd a)) (hy : aeval fr y = some (.int kd b)) (hgo : AReg P ro f N gds r k R ((d, (.bool (decide (a > b)))) :: fr) (σ.bump 1)) : AReg P ro f N gds (⟨some d, .binOp .gtr t x y u, none⟩ :: r) k R fr σ :=
  AReg.val hd (by simp only [aexec, hx, hy, abinT, abin, if_pos, Option.map_some]) hgo
theorem AReg.geq {d : Tmp} {x y : Operand} {t u : TypeId} {kd : IntKind} {a b : Int} (hd : decide (d < N) = true) (hx : aeval fr x = some (.int kd a)) (hy : aeval fr y = some (.int kd b)) (hgo : AReg P ro f N gds r k R ((d, (.bool (decide (a ≥ b)))) :: fr) (σ.bump 1)) : AReg P ro f N gds (⟨some d, .binOp .geq t x y u, none⟩ :: r) k R fr σ :=
  AReg.val hd (by simp only [aexec, hx, hy, abinT, abin, if_pos, Option.map_some]) hgo
theorem AReg.eql {d : Tmp} {x y : Operand} {t u : TypeId} {kd : IntKind} {a b : Int} (hd : decide (d < N) = true) (hx : aeval fr x = some (.int kd a)) (hy : aeval fr y = some (.int kd b)) (hgo : AReg P ro f N gds r k R ((d, (.bool (decide (a = b)))) :: fr) (σ.bump 1)) : AReg P ro f N gds (⟨some d, .binOp .eql t x y u, none⟩ :: r) k R fr σ :=
  AReg.val hd (by simp only [aexec, hx, hy, abinT, abin, if_pos, Option.map_some]; rfl) hgo
theorem AReg.neq {d : Tmp} {x y : Operand} {t u : TypeId} {kd : IntKind} {a b : Int} (hd : decide (d < N) = true) (hx : aeval fr x = some (.int kd a)) (hy : aeval fr y = some (.int kd b)) (hgo : AReg P ro f N gds r k R ((d, (.bool (decide (a ≠ b)))) :: fr) (σ.bump 1)) : AReg P ro f N gds (⟨some d, .binOp .neq t x y u, none⟩ :: r) k R fr σ := by
  have e : (a != b) = decide (a ≠ b) := by by_cases h : a = b <;> simp [h]
  exact AReg.val hd (by simp only [aexec, hx, hy, abinT, abin, if_pos, Option.map_some, e]) hgo
theorem AReg.add {d : Tmp} {x y : Operand} {t u : TypeId} {a b : Int} (hd : decide (d < N) = true) (hx : aeval fr x = some (.int .i64 a)) (hy : aeval fr y = some (.int .i64 b)) (hr : -9223372036854775808 ≤ a + b ∧ a + b ≤ 9223372036854775807) (hgo : AReg P ro f N gds r k R ((d, (.int .i64 (a + b))) :: fr) (σ.bump 1)) : AReg P ro f N gds (⟨some d, .binOp .add t x y u, none⟩ :: r) k R fr σ :=
  AReg.val hd (by simp only [aexec, hx, hy, abinT, abin, if_pos, Option.map_some, wrap64 hr]) hgo
theorem AReg.sub {d : Tmp} {x y : Operand} {t u : TypeId} {a b : Int} (hd : decide (d < N) = true) (hx : aeval fr x = some (.int .i64 a)) (hy : aeval fr y = some (.int .i64 b)) (hr : -9223372036854775808 ≤ a - b ∧ a - b ≤ 9223372036854775807) (hgo : AReg P ro f N gds r k R ((d, (.int .i64 (a - b))) :: fr) (σ.bump 1)) : AReg P ro f N gds (⟨some d, .binOp .sub t x y u, none⟩ :: r) k R fr σ :=
  AReg.val hd (by simp only [aexec, hx, hy, abinT, abin, if_pos, Option.map_some, wrap64 hr]) hgo
theorem AReg.mul {d : Tmp} {x y : Operand} {t u : TypeId} {a b : Int} (hd : decide (d < N) = true) (hx : aeval fr x = some (.int .i64 a)) (hy : aeval fr y = some (.int .i64 b)) (hr : -9223372036854775808 ≤ a * b ∧ a * b ≤ 9223372036854775807) (hgo : AReg P ro f N gds r k R ((d, (.int .i64 (a * b))) :: fr) (σ.bump 1)) : AReg P ro f N gds (⟨some d, .binOp .mul t x y u, none⟩ :: r) k R fr σ :=
  AReg.val hd (by simp only [aexec, hx, hy, abinT, abin, if_pos, Option.map_some, wrap64 hr]) hgo
theorem AReg.not {d : Tmp} {x : Operand} {t : TypeId} {b : Bool} (hd : decide (d < N) = true) (hx : aeval fr x = some (.bool b)) (hgo : AReg P ro f N gds r k R ((d, (.bool !b)) :: fr) (σ.bump 1)) : AReg P ro f N gds (⟨some d, .unOp .not t x, none⟩ :: r) k R fr σ :=
  AReg.val hd (by simp only [aexec, hx, aun, Option.map_some]) hgo
theorem AReg.lenS {d : Tmp} {x : Operand} {t : TypeId} {a : Option Addr} {n c : Nat} {e : TypeId} {s b : Nat} {z : Option Value} (hd : decide (d < N) = true) (hx : aeval fr x = some (.slice a n c)) (ht : ty P t = some ⟨.slice e, s, b, z⟩) (hgo : AReg P ro f N gds r k R ((d, (.int .i64 n)) :: fr) (σ.bump 1)) :
    AReg P ro f N gds (⟨some d, .call { callee := .builtin .len, args := #[x], argTypes := #[t] }, none⟩ :: r) k R fr σ :=
  AReg.val hd (by simp [aexec, aevals, hx, abuiltin, alen, tk, ht]) hgo
theorem AReg.idx {d : Tmp} {x y : Operand} {t : TypeId} {b off n c j : Nat} {kd : IntKind} {e : TypeId} {s bt : Nat} {z : Option Value} {E : ATy} (hd : decide (d < N) = true) (hx : aeval fr x = some (.slice (some ⟨b, off, none⟩) n c)) (hy : aeval fr y = some (.int kd (j : Int))) (ht : ty P t = some ⟨.slice e, s, bt, z⟩) (he : ty P e = some E) (hj : j < n)
    (hgo : AReg P ro f N gds r k R ((d, (.pointer (some ⟨b, off + j * E.size, none⟩))) :: fr) (σ.bump 1)) : AReg P ro f N gds (⟨some d, .indexAddr t x y, none⟩ :: r) k R fr σ :=
  AReg.val hd (by simp only [aexec, hx, hy, aindexAddr, ht, he]; rw [if_pos ⟨by omega, by omega⟩]; simp only [Int.toNat_natCast, Option.map_some]) hgo
theorem AReg.load {d : Tmp} {x : Operand} {t : TypeId} {p v : Value} (hd : decide (d < N) = true) (hx : aeval fr x = some p) (hl : aload P (σ.bump 1) t p = some v) (hgo : AReg P ro f N gds r k R ((d, v) :: fr) (σ.bump 1)) : AReg P ro f N gds (⟨some d, .load t x, none⟩ :: r) k R fr σ :=
  AReg.val hd (by simp only [aexec, hx, hl, Option.map_some]) hgo
theorem AReg.store {x y : Operand} {t : TypeId} {p v : Value} {σ' : AHeap} (hx : aeval fr x = some p) (hy : aeval fr y = some v) (hs : astore P (σ.bump 1) t p v = some σ') (hgo : AReg P ro f N gds r k R fr σ') : AReg P ro f N gds (⟨none, .store t x y, none⟩ :: r) k R fr σ :=
  AReg.eff (v := .tuple #[]) (by simp only [aexec, hx, hy, hs, Option.map_some]) hgo
theorem AReg.extract {d : Tmp} {x : Operand} {i : Nat} {vs : Array Value} {v : Value} (hd : decide (d < N) = true) (hx : aeval fr x = some (.tuple vs)) (hv : vs[i]? = some v) (hgo : AReg P ro f N gds r k R ((d, v) :: fr) (σ.bump 1)) : AReg P ro f N gds (⟨some d, .extract x i, none⟩ :: r) k R fr σ :=
  AReg.val hd (by simp only [aexec, hx, aextract, hv, Option.map_some]) hgo
theorem AReg.box {d : Tmp} {e : TypeId} {x : Operand} {v : Value} (hd : decide (d < N) = true) (hx : aeval fr x = some v) (hv : isTuple v = false) (he : (ty P e).isSome = true)
    (hgo : AReg P ro f N gds r k R ((d, (.pointer (some ⟨σ.next, 0, none⟩))) :: fr) ((σ.bump 1).set σ.next (.cells v.cells.toList e true))) : AReg P ro f N gds (⟨some d, .box e x, none⟩ :: r) k R fr σ :=
  AReg.val hd (by simp only [aexec, hx, hv, anew, he, if_true, Bool.false_eq_true, if_false, Option.map_some]) hgo
theorem AReg.alloc {d : Tmp} {e : TypeId} {kk : AKind} {s b : Nat} {z : Value} (hd : decide (d < N) = true) (he : ty P e = some ⟨kk, s, b, some z⟩) (hz : closedV z = true)
    (hgo : AReg P ro f N gds r k R ((d, (.pointer (some ⟨σ.next, 0, none⟩))) :: fr) ((σ.bump 1).set σ.next (.cells z.cells.toList e true))) : AReg P ro f N gds (⟨some d, .alloc e, none⟩ :: r) k R fr σ :=
  AReg.val hd (by simp only [aexec, he, hz, if_true, anew, Option.isSome_some, Option.map_some]) hgo
theorem AReg.fieldA {d : Tmp} {t : TypeId} {x : Operand} {i b off : Nat} {fs : List (Nat × TypeId)} {s bt : Nat} {z : Option Value} {o : Nat} {u : TypeId} {U : ATy} (hd : decide (d < N) = true) (hx : aeval fr x = some (.pointer (some ⟨b, off, none⟩))) (ht : ty P t = some ⟨.struct fs, s, bt, z⟩)
    (hf : fs[i]? = some (o, u)) (hu : ty P u = some U) (h0 : Nat.beq U.size 0 = false) (hgo : AReg P ro f N gds r k R ((d, (.pointer (some ⟨b, off + o, none⟩))) :: fr) (σ.bump 1)) : AReg P ro f N gds (⟨some d, .fieldAddr t x i, none⟩ :: r) k R fr σ :=
  AReg.val hd (by simp only [aexec, hx, afieldAddr, ht, hf, tsz, hu]; rw [if_neg (Nat.ne_of_beq_eq_false h0)]; rfl) hgo
theorem AReg.makeFunc {d : Tmp} {g : FuncId} {a b : Array Operand} {xs ys : List Value} (hd : decide (d < N) = true) (ha : aevals fr a.toList = some xs) (hb : aevals fr b.toList = some ys)
    (hgo : AReg P ro f N gds r k R ((d, (.func (.func g) xs.toArray ys.toArray)) :: fr) (σ.bump 1)) : AReg P ro f N gds (⟨some d, .makeFunc (.func g) a b, none⟩ :: r) k R fr σ :=
  AReg.val hd (by simp only [aexec, ha, hb]) hgo
theorem AReg.build {d : Tmp} {t : TypeId} {ps : Array (Nat × Operand)} {qs : List (Nat × Value)} {v : Value} (hd : decide (d < N) = true) (hp : aparts fr ps.toList = some qs) (hb : abuild P t qs = some v) (hgo : AReg P ro f N gds r k R ((d, v) :: fr) (σ.bump 1)) : AReg P ro f N gds (⟨some d, .build t ps, none⟩ :: r) k R fr σ :=
  AReg.val hd (by simp only [aexec, hp, hb, Option.map_some]) hgo
theorem AReg.slc {d : Tmp} {t : TypeId} {x : Operand} {lo hi : Option Operand} {u w : Value} {l h : Option Value} (hd : decide (d < N) = true) (hx : aeval fr x = some u) (hl : aevalO fr lo = some l) (hh : aevalO fr hi = some h) (hs : aslice2 P (σ.bump 1) t u l h = some w)
    (hgo : AReg P ro f N gds r k R ((d, w) :: fr) (σ.bump 1)) : AReg P ro f N gds (⟨some d, .slice t x lo hi none, none⟩ :: r) k R fr σ :=
  AReg.val hd (by simp only [aexec, hx, hl, hh, hs, Option.map_some]) hgo
theorem AReg.clear {t : TypeId} {T : ATy} {x : Operand} {v : Value} {σ' : AHeap} (hx : aeval fr x = some v) (ht : ty P t = some T) (hc : aclear P (σ.bump 1) t v = some σ') (hgo : AReg P ro f N gds r k R fr σ') : AReg P ro f N gds (⟨none, .call { callee := .builtin .clear, args := #[x], argTypes := #[t] }, none⟩ :: r) k R fr σ :=
  AReg.eff (v := .tuple #[]) (by simp [aexec, aevals, hx, abuiltin, tk, ht, hc]) hgo
/-- A call. -/
theorem AReg.go {d : Tmp} {o : Op} {g : FuncId} {vs : List Value} (hd : decide (d < N) = true) (hc : acallee fr o = some (g, vs)) (hb : hasBody P g = true) (h : ACalls P g vs σ fun v σ' => AReg P ro f N gds r k R ((d, v) :: fr) σ') : AReg P ro f N gds (⟨some d, o, none⟩ :: r) k R fr σ :=
  AReg.call (by simpa [dstOk] using hd) rfl hc hb (h.mono fun _ _ hh => AReg.has (fun _ _ => cons_aput) hh)
/-- Both ways of a condition. -/
theorem AGo.condD {c : Operand} {x y : Code} {p : Prop} [Decidable p] (hc : aeval fr c = some (.bool (decide p))) (hT : p → AGo P ro f N (.code x :: k) R fr σ) (hF : ¬p → AGo P ro f N (.code y :: k) R fr σ) : AGo P ro f N (.code (.cond c x y) :: k) R fr σ := by
  by_cases h : p
  · exact AGo.condT (by rw [hc, decide_eq_true h]) (hT h)
  · exact AGo.condF (by rw [hc, decide_eq_false h]) (hF h)
theorem AGo.condB {c : Operand} {x y : Code} {b : Bool} (hc : aeval fr c = some (.bool b)) (hT : b = true → AGo P ro f N (.code x :: k) R fr σ) (hF : b = false → AGo P ro f N (.code y :: k) R fr σ) : AGo P ro f N (.code (.cond c x y) :: k) R fr σ := by
  cases b with
  | true => exact AGo.condT hc (hT rfl)
  | false => exact AGo.condF hc (hF rfl)
end
end Go.Abs

/- THE ABSTRACT MACHINE, part Y: what an operation that only reads comes to; regions whose order is drawn, by hand. -/
namespace Go.Abs
open Go

/-- Operations that only read, one behind the other: literal frames. -/
inductive NR (P : Program) (N : Nat) (gds : List (Option Tmp)) (L : List SOp) (base : Nat) (σ : AHeap) : List Nat → Fr → List Ent → Fr → Prop
  | nil (fr : Fr) : NR P N gds L base σ [] fr [] fr
  | cons {i : Nat} {l : List Nat} {fr : Fr} {d : Tmp} {op : Op} {v : Value} {T : List Ent} {fr' : Fr} (ho : sget L i = some ⟨some d, op, none⟩) (hd : decide (d < N) = true) (hq : quietOp op = some true) (hx : aexec P σ (base + i) fr op = some (v, σ)) (h : NR P N gds L base σ l ((d, v) :: fr) T fr') :
      NR P N gds L base σ (i :: l) fr (⟨i, ⟨some d, op, none⟩, v, none⟩ :: T) fr'

section
variable {P : Program} {fr : Fr} {σ : AHeap} {id : Nat}
theorem ae_move {x : Operand} {v : Value} (hx : aeval fr x = some v) : aexec P σ id fr (.move x) = some (v, σ) := by simp only [aexec, hx, Option.map_some]
theorem ae_lss {x y : Operand} {t u : TypeId} {kd : IntKind} {a b : Int} (hx : aeval fr x = some (.int kd a)) (hy : aeval fr y = some (.int kd b)) : aexec P σ id fr (.binOp .lss t x y u) = some (.bool (decide (a < b)), σ) := by simp only [aexec, hx, hy, abinT, abin, if_pos, Option.map_some]
theorem ae_leq {x y : Operand} {t u : TypeId} {kd : IntKind} {a b : Int} (hx : aeval fr x = some (.int kd a)) (hy : aeval fr y = some (.int kd b)) : aexec P σ id fr (.binOp .leq t x y u) = some (.bool (decide (a ≤ b)), σ) := by simp only [aexec, hx, hy, abinT, abin, if_pos, Option.map_some]
theorem ae_gtr {x y : Operand} {t u : TypeId} {kd : IntKind} {a b : Int} (hx : aeval fr x = some (.int kd a)) (hy : aeval fr y = some (.int kd b)) : aexec P σ id fr (.binOp .gtr t x y u) = some (.bool (decide (a > b)), σ) := by simp only [aexec, hx, hy, abinT, abin, if_pos, Option.map_some]
theorem ae_geq {x y : Operand} {t u : TypeId} {kd : IntKind} {a b : Int} (hx : aeval fr x = some (.int kd a)) (hy : aeval fr y = some (.int kd b)) : aexec P σ id fr (.binOp .geq t x y u) = some (.bool (decide (a ≥ b)), σ) := by simp only [aexec, hx, hy, abinT, abin, if_pos, Option.map_some]
theorem ae_eql {x y : Operand} {t u : TypeId} {kd : IntKind} {a b : Int} (hx : aeval fr x = some (.int kd a)) (hy : aeval fr y = some (.int kd b)) : aexec P σ id fr (.binOp .eql t x y u) = some (.bool (decide (a = b)), σ) := by simp only [aexec, hx, hy, abinT, abin, if_pos, Option.map_some]; rfl
theorem ae_neq {x y : Operand} {t u : TypeId} {kd : IntKind} {a b : Int} (hx : aeval fr x = some (.int kd a)) (hy : aeval fr y = some (.int kd b)) : aexec P σ id fr (.binOp .neq t x y u) = some (.bool (decide (a ≠ b)), σ) := by
  have e : (a != b) = decide (a ≠ b) := by by_cases h : a = b <;> simp [h]
  simp only [aexec, hx, hy, abinT, abin, if_pos, Option.map_some, e]
theorem ae_add {x y : Operand} {t u : TypeId} {a b : Int} (hx : aeval fr x = some (.int .i64 a)) (hy : aeval fr y = some (.int .i64 b)) (hr : -9223372036854775808 ≤ a + b ∧ a + b ≤ 9223372036854775807) : aexec P σ id fr (.binOp .add t x y u) = some (.int .i64 (a + b), σ) := by simp only [aexec, hx, hy, abinT, abin, if_pos, Option.map_some, wrap64 hr]
theorem ae_sub {x y : Operand} {t u : TypeId} {a b : Int} (hx : aeval fr x = some (.int .i64 a)) (hy : aeval fr y = some (.int .i64 b)) (hr : -9223372036854775808 ≤ a - b ∧ a - b ≤ 9223372036854775807) : aexec P σ id fr (.binOp .sub t x y u) = some (.int .i64 (a - b), σ) := by simp only [aexec, hx, hy, abinT, abin, if_pos, Option.map_some, wrap64 hr]
theorem ae_mul {x y : Operand} {t u : TypeId} {a b : Int} (hx : aeval fr x = some (.int .i64 a)) (hy : aeval fr y = some (.int .i64 b)) (hr : -9223372036854775808 ≤ a * b ∧ a * b ≤ 9223372036854775807) : aexec P σ id fr (.binOp .mul t x y u) = some (.int .i64 (a * b), σ) := by simp only [aexec, hx, hy, abinT, abin, if_pos, Option.map_some, wrap64 hr]
theorem ae_not {x : Operand} {t : TypeId} {b : Bool} (hx : aeval fr x = some (.bool b)) : aexec P σ id fr (.unOp .not t x) = some (.bool !b, σ) := by simp only [aexec, hx, aun, Option.map_some]
theorem ae_len {x : Operand} {t : TypeId} {a : Option Addr} {n c : Nat} {e : TypeId} {s b : Nat} {z : Option Value} (hx : aeval fr x = some (.slice a n c)) (ht : ty P t = some ⟨.slice e, s, b, z⟩) : aexec P σ id fr (.call { callee := .builtin .len, args := #[x], argTypes := #[t] }) = some (.int .i64 n, σ) := by simp [aexec, aevals, hx, abuiltin, alen, tk, ht]
theorem ae_idx {x y : Operand} {t : TypeId} {b off n c j : Nat} {kd : IntKind} {e : TypeId} {s bt : Nat} {z : Option Value} {E : ATy} (hx : aeval fr x = some (.slice (some ⟨b, off, none⟩) n c)) (hy : aeval fr y = some (.int kd (j : Int))) (ht : ty P t = some ⟨.slice e, s, bt, z⟩) (he : ty P e = some E) (hj : j < n) :
    aexec P σ id fr (.indexAddr t x y) = some (.pointer (some ⟨b, off + j * E.size, none⟩), σ) := by
  simp only [aexec, hx, hy, aindexAddr, ht, he]; rw [if_pos ⟨by omega, by omega⟩]; simp only [Int.toNat_natCast, Option.map_some]
theorem ae_load {x : Operand} {t : TypeId} {p v : Value} (hx : aeval fr x = some p) (hl : aload P σ t p = some v) : aexec P σ id fr (.load t x) = some (v, σ) := by simp only [aexec, hx, hl, Option.map_some]
theorem ae_extract {x : Operand} {i : Nat} {vs : Array Value} {v : Value} (hx : aeval fr x = some (.tuple vs)) (hv : vs[i]? = some v) : aexec P σ id fr (.extract x i) = some (v, σ) := by simp only [aexec, hx, aextract, hv, Option.map_some]
end

section
variable {P : Program} {N : Nat} {gds : List (Option Tmp)} {L : List SOp} {base : Nat} {fr : Fr} {σ : AHeap}
/-! ### Regions whose order is drawn -/
def FEqv (fr fr' : Fr) : Prop := ∀ t, aget fr t = aget fr' t
theorem FEqv.refl (fr : Fr) : FEqv fr fr := fun _ => rfl
theorem FEqv.put {fr fr' : Fr} (h : FEqv fr fr') (d : Option Tmp) (v : Value) : FEqv (adst fr d v) (adst fr' d v) := by
  intro t
  cases d with
  | none => exact h t
  | some d => simp only [adst, aget_aput, h t]
theorem FEqv.cons {fr fr' : Fr} (h : FEqv fr fr') (d : Tmp) (v : Value) : FEqv (aput fr d v) ((d, v) :: fr') := by
  intro t; rw [aget_aput, aget_cons, h t]
theorem nval_feqv {fr fr' : Fr} (h : FEqv fr fr') (id : Nat) (o : SOp) : nval P N gds σ id fr o = nval P N gds σ id fr' o := by
  have hw : awanted gds fr o.guard = awanted gds fr' o.guard := by
    unfold awanted
    cases o.guard with
    | none => rfl
    | some x => obtain ⟨j, w⟩ := x; simp only; cases nth gds j with
      | none => rfl
      | some d => simp only [h d]
  simp only [nval, hw, aexec_congr (fr := fr) (fr' := fr') fun x _ => aeval_congr fun t _ => h t]
theorem nrun_feqv : ∀ {l : List Nat} {fr fr' : Fr}, FEqv fr fr' → nrun P N gds L base σ l fr = nrun P N gds L base σ l fr'
  | [], _, _, _ => rfl
  | i :: l, fr, fr', h => by
    simp only [nrun]
    cases sget L i with
    | none => rfl
    | some o =>
      simp only [nval_feqv h]
      cases nval P N gds σ (base + i) fr' o with
      | none => rfl
      | some x => obtain ⟨v, nb⟩ := x; simp only [nrun_feqv (l := l) (h.put o.dst v)]

theorem agree_nil (T : List Ent) : agree [] T := fun x hx => by cases hx
theorem NR.run {l : List Nat} {fr fr' : Fr} {T : List Ent} (h : NR P N gds L base σ l fr T fr') : ∀ {fr0 : Fr}, FEqv fr0 fr → nrun P N gds L base σ l fr0 = some T ∧ FEqv (putT fr0 T) fr' ∧ ∀ τ : AHeap, setT base τ T = τ := by
  induction h with
  | nil fr => intro fr0 h0; exact ⟨rfl, h0, fun _ => rfl⟩
  | @cons i l fr d op v T fr' ho hd hq hx _ ih =>
    intro fr0 h0
    obtain ⟨a, b, c⟩ := ih (h0.cons d v)
    have hv : nval P N gds σ (base + i) fr0 ⟨some d, op, none⟩ = some (v, none) := by
      rw [nval_feqv h0]
      simp only [nval, dstOk, hd, awanted, hq, hx, cond]
    refine ⟨?_, ?_, ?_⟩
    · simp only [nrun, ho, hv, adst, a]
    · exact b
    · intro τ; exact c τ
end

section
variable {P : Program} {ro : Ro} {f : FuncId} {N : Nat} {R : Value → AHeap → Prop} {fr : Fr} {σ : AHeap} {k : List Item}

theorem AGo.feqv {todo : List Item} {fr fr' : Fr} (h : FEqv fr fr') (hg : AGo P ro f N todo R fr' σ) : AGo P ro f N todo R fr σ := AGo.weaken (fun t v hv => by rw [h t]; exact hv) hg

/-- A drawn region that only reads. -/
theorem AGo.drawR {id : Nat} {l : List Oper} {T : List Ent} {fr' : Fr} (hm : P.follows .mixedOrders = true) (hB : drawB l.toArray [] (List.range l.length) = true)
    (hn : NR P N (l.map (·.dst)) (l.map slim) σ.next (σ.bump l.length) (List.range l.length) fr T fr') (h : AGo P ro f N k R fr' (σ.bump l.length)) : AGo P ro f N (.code (.region id l.toArray true) :: k) R fr σ := by
  obtain ⟨a, b, c⟩ := hn.run (FEqv.refl _)
  refine AGo.draw [] (List.range l.length) hm hB rfl rfl ⟨T, a, agree_nil _, ?_⟩
  rw [c]; exact AGo.feqv b h

/-- A drawn region with one call and operations that only read: A ahead of it, Af behind it. -/
theorem AGo.draw1 {id e : Nat} {l : List Oper} {A Af : List Nat} {T : List Ent} {fr' : Fr} {d : Tmp} {op : Op} {g : FuncId} {vs : List Value} (hm : P.follows .mixedOrders = true) (hB : drawB l.toArray [(A, e, [])] Af = true)
    (hn : NR P N (l.map (·.dst)) (l.map slim) σ.next (σ.bump l.length) A fr T fr') (ho : sget (l.map slim) e = some ⟨some d, op, none⟩) (hd : decide (d < N) = true) (hc : acallee fr' op = some (g, vs)) (hb : hasBody P g = true)
    (h : ACalls P g vs (σ.bump l.length) fun v σ1 => ∃ T' fr'', NR P N (l.map (·.dst)) (l.map slim) σ.next σ1 Af ((d, v) :: fr') T' fr'' ∧ AGo P ro f N k R fr'' σ1) : AGo P ro f N (.code (.region id l.toArray true) :: k) R fr σ := by
  obtain ⟨a, b, c⟩ := hn.run (FEqv.refl _)
  refine AGo.draw [(A, e, [])] Af hm hB rfl rfl ⟨T, [], _, a, rfl, agree_nil _, ho, ?_⟩
  refine ⟨by simpa [dstOk] using hd, .inr ⟨rfl, .inr ⟨g, vs, ?_, hb, ?_⟩⟩⟩
  · rw [acallee_congr (fr' := fr') fun x _ => aeval_congr fun t _ => b t]; exact hc
  · rw [c]
    refine h.mono fun v σ1 ⟨T', fr'', h1, h2⟩ => ?_
    obtain ⟨a', b', c'⟩ := h1.run (b.cons d v)
    refine ⟨T', a', agree_nil _, ?_⟩
    rw [c']; exact AGo.feqv b' h2
end

/-- The heap under a name. -/
theorem AGo.opq {P : Program} {ro : Ro} {f : FuncId} {N : Nat} {R : Value → AHeap → Prop} {fr : Fr} {σ : AHeap} {todo : List Item} (h : ∀ τ, τ = σ → AGo P ro f N todo R fr τ) : AGo P ro f N todo R fr σ := h σ rfl
theorem AReg.opq {P : Program} {ro : Ro} {f : FuncId} {N : Nat} {R : Value → AHeap → Prop} {gds : List (Option Tmp)} {L : List SOp} {k : List Item} {fr : Fr} {σ : AHeap} (h : ∀ τ, τ = σ → AReg P ro f N gds L k R fr τ) : AReg P ro f N gds L k R fr σ := h σ rfl
/-- A guarded operation that is wanted, and one that is not. -/
theorem AReg.valG {P : Program} {ro : Ro} {f : FuncId} {N : Nat} {R : Value → AHeap → Prop} {k : List Item} {gds : List (Option Tmp)} {r : List SOp} {fr : Fr} {σ σ' : AHeap} {d : Tmp} {o : Op} {g : Option (Nat × Bool)} {v : Value} (hd : decide (d < N) = true) (hw : awanted gds fr g = some true) (h : aexec P (σ.bump 1) σ.next fr o = some (v, σ'))
    (hgo : AReg P ro f N gds r k R ((d, v) :: fr) σ') : AReg P ro f N gds (⟨some d, o, g⟩ :: r) k R fr σ :=
  AReg.op (fr' := aput fr d v) (σ' := σ') (by simp only [aop, dstOk, hd, hw, h, adst]) (AReg.has (fun _ _ => cons_aput) hgo)
theorem AReg.skipG {P : Program} {ro : Ro} {f : FuncId} {N : Nat} {R : Value → AHeap → Prop} {k : List Item} {gds : List (Option Tmp)} {r : List SOp} {fr : Fr} {σ : AHeap} {d : Tmp} {o : Op} {g : Option (Nat × Bool)} (hd : decide (d < N) = true) (hw : awanted gds fr g = some false)
    (hgo : AReg P ro f N gds r k R ((d, .tuple #[]) :: fr) σ) : AReg P ro f N gds (⟨some d, o, g⟩ :: r) k R fr σ :=
  AReg.op (fr' := aput fr d (.tuple #[])) (σ' := σ) (by simp only [aop, dstOk, hd, hw, adst]) (AReg.has (fun _ _ => cons_aput) hgo)

/-- Both ways of a condition, which come together again: J holds there. -/
theorem AGo.condJ {P : Program} {ro : Ro} {f : FuncId} {N : Nat} {R : Value → AHeap → Prop} {fr : Fr} {σ : AHeap} {k : List Item} {c : Operand} {x y : Code} {b : Bool} (J : Fr → AHeap → Prop) (hc : aeval fr c = some (.bool b))
    (hT : b = true → (∀ fr' τ, J fr' τ → AGo P ro f N k R fr' τ) → AGo P ro f N (.code x :: k) R fr σ) (hF : b = false → (∀ fr' τ, J fr' τ → AGo P ro f N k R fr' τ) → AGo P ro f N (.code y :: k) R fr σ)
    (hk : ∀ fr' τ, J fr' τ → AGo P ro f N k R fr' τ) : AGo P ro f N (.code (.cond c x y) :: k) R fr σ := by
  cases b with
  | true => exact AGo.condT hc (hT rfl hk)
  | false => exact AGo.condF hc (hF rfl hk)
theorem ares_nil {P : Program} {fr : Fr} {σ : AHeap} : aresults P fr σ [] = some [] := rfl
theorem ares_cell {P : Program} {fr : Fr} {σ : AHeap} {a : Tmp} {t : TypeId} {r : List ResultVar} {p v : Value} {vs : List Value} (ha : aget fr a = some p) (hl : aload P σ t p = some v) (hr : aresults P fr σ r = some vs) : aresults P fr σ (.cell a t :: r) = some (v :: vs) := by
  simp only [aresults, aresult, ha, hl, hr]
theorem ares_tmp {P : Program} {fr : Fr} {σ : AHeap} {a : Tmp} {r : List ResultVar} {v : Value} {vs : List Value} (ha : aget fr a = some v) (hr : aresults P fr σ r = some vs) : aresults P fr σ (.tmp a :: r) = some (v :: vs) := by
  simp only [aresults, aresult, ha, hr]
theorem Gr.ofNext {σ : AHeap} {n : Nat} (h : σ.next ≤ n) : Gr σ ⟨n, σ.blk⟩ := ⟨n - σ.next, by simp only [AHeap.bump]; congr; omega⟩
/-- What was made on the way is no longer looked at. -/
theorem ACalls.drop {P : Program} {f : FuncId} {args : List Value} {σ : AHeap} {Q : Value → Prop} (h : ACalls P f args σ fun v σ' => Q v ∧ ∃ σ0, Gr σ σ0 ∧ Sub σ0 σ' ∧ σ0.next = σ'.next) : ACalls P f args σ fun v σ' => Q v ∧ Gr σ σ' :=
  h.sub fun _ _ ⟨h1, σ0, h2, h3, h4⟩ => ⟨σ0, h3, h4, h1, h2⟩
end Go.Abs

/- THE ABSTRACT MACHINE, part Z: more of what an operation comes to. -/
namespace Go.Abs
open Go
section
variable {P : Program} {fr : Fr} {σ : AHeap} {id : Nat}
theorem ae_assign {x : Operand} {v : Value} (hx : aeval fr x = some v) : aexec P σ id fr (.assign x) = some (v, σ) := by simp only [aexec, hx, Option.map_some]
theorem ae_bool {o : Op} {p q : Bool} {σ' : AHeap} (h : aexec P σ id fr o = some (.bool p, σ')) (e : p = q) : aexec P σ id fr o = some (.bool q, σ') := e ▸ h
theorem ae_pickT {c x y : Operand} {v : Value} (hc : aeval fr c = some (.bool true)) (hx : aeval fr x = some v) : aexec P σ id fr (.pick c x y) = some (v, σ) := by simp only [aexec, hc, hx, if_true, Option.map_some]
theorem ae_pickF {c x y : Operand} {v : Value} (hc : aeval fr c = some (.bool false)) (hy : aeval fr y = some v) : aexec P σ id fr (.pick c x y) = some (v, σ) := by simp only [aexec, hc, hy, Bool.false_eq_true, if_false, Option.map_some]
theorem ae_fieldA {t : TypeId} {x : Operand} {i b off : Nat} {fs : List (Nat × TypeId)} {s bt : Nat} {z : Option Value} {o : Nat} {u : TypeId} {U : ATy} (hx : aeval fr x = some (.pointer (some ⟨b, off, none⟩))) (ht : ty P t = some ⟨.struct fs, s, bt, z⟩)
    (hf : fs[i]? = some (o, u)) (hu : ty P u = some U) (h0 : Nat.beq U.size 0 = false) : aexec P σ id fr (.fieldAddr t x i) = some (.pointer (some ⟨b, off + o, none⟩), σ) := by
  simp only [aexec, hx, afieldAddr, ht, hf, tsz, hu]; rw [if_neg (Nat.ne_of_beq_eq_false h0)]; rfl
theorem ae_field {t : TypeId} {x : Operand} {i : Nat} {p v : Value} (hx : aeval fr x = some p) (hf : afield P t p i = some v) : aexec P σ id fr (.field t x i) = some (v, σ) := by simp only [aexec, hx, hf, Option.map_some]
theorem ae_makeFunc {g : FuncId} {a b : Array Operand} {xs ys : List Value} (ha : aevals fr a.toList = some xs) (hb : aevals fr b.toList = some ys) : aexec P σ id fr (.makeFunc (.func g) a b) = some (.func (.func g) xs.toArray ys.toArray, σ) := by simp only [aexec, ha, hb]
theorem ae_build {t : TypeId} {ps : Array (Nat × Operand)} {qs : List (Nat × Value)} {v : Value} (hp : aparts fr ps.toList = some qs) (hb : abuild P t qs = some v) : aexec P σ id fr (.build t ps) = some (v, σ) := by simp only [aexec, hp, hb, Option.map_some]
theorem ae_bin {op : BinOp} {t u : TypeId} {x y : Operand} {a b v : Value} (hx : aeval fr x = some a) (hy : aeval fr y = some b) (h : abinT P op t a b = some v) : aexec P σ id fr (.binOp op t x y u) = some (v, σ) := by simp only [aexec, hx, hy, h, Option.map_some]
theorem ae_box {e : TypeId} {x : Operand} {v : Value} (hx : aeval fr x = some v) (hv : isTuple v = false) (he : (ty P e).isSome = true) : aexec P σ id fr (.box e x) = some (.pointer (some ⟨id, 0, none⟩), σ.set id (.cells v.cells.toList e true)) := by
  simp only [aexec, hx, hv, anew, he, if_true, Bool.false_eq_true, if_false, Option.map_some]
theorem ae_alloc {e : TypeId} {kk : AKind} {s b : Nat} {z : Value} (he : ty P e = some ⟨kk, s, b, some z⟩) (hz : closedV z = true) : aexec P σ id fr (.alloc e) = some (.pointer (some ⟨id, 0, none⟩), σ.set id (.cells z.cells.toList e true)) := by
  simp only [aexec, he, hz, if_true, anew, Option.isSome_some, Option.map_some]
end
/-- An operation is known by what it comes to. -/
theorem AReg.ok {P : Program} {ro : Ro} {f : FuncId} {N : Nat} {R : Value → AHeap → Prop} {k : List Item} {gds : List (Option Tmp)} {r : List SOp} {fr : Fr} {σ σ' : AHeap} {d : Tmp} {o : Op} {v : Value} (hd : decide (d < N) = true) (h : aexec P (σ.bump 1) σ.next fr o = some (v, σ')) (hgo : AReg P ro f N gds r k R ((d, v) :: fr) σ') : AReg P ro f N gds (⟨some d, o, none⟩ :: r) k R fr σ := AReg.val hd h hgo
/-- A guarded call that is wanted. -/
theorem AReg.goG {P : Program} {ro : Ro} {f : FuncId} {N : Nat} {R : Value → AHeap → Prop} {k : List Item} {gds : List (Option Tmp)} {r : List SOp} {fr : Fr} {σ : AHeap} {d : Tmp} {o : Op} {gg : Option (Nat × Bool)} {g : FuncId} {vs : List Value} (hd : decide (d < N) = true) (hw : awanted gds fr gg = some true) (hc : acallee fr o = some (g, vs)) (hb : hasBody P g = true)
    (h : ACalls P g vs σ fun v σ' => AReg P ro f N gds r k R ((d, v) :: fr) σ') : AReg P ro f N gds (⟨some d, o, gg⟩ :: r) k R fr σ :=
  AReg.call (by simpa [dstOk] using hd) hw hc hb (h.mono fun _ _ hh => AReg.has (fun _ _ => cons_aput) hh)
/-- Values of a struct type that are the same. -/
theorem agg_same {P : Program} {t : TypeId} {x : Value} (hk : KeyOk P t) (hx : (match x with | .agg _ => true | _ => false) = true) (hp : plainKey x = true) (hs : (keyOf P t x).isSome = true) : abinT P .eql t x x = some (.bool true) ∧ abinT P .neq t x x = some (.bool false) := by
  cases x with
  | agg xs => simp only [abinT]; rw [if_pos ⟨hk, hp, hp, hs, hs⟩, if_pos ⟨hk, hp, hp, hs, hs⟩]; simp
  | _ => cases hx
/-- Ways through a region that come together behind it: J holds there. -/
theorem AReg.join {P : Program} {ro : Ro} {f : FuncId} {N : Nat} {R : Value → AHeap → Prop} {k : List Item} {gds : List (Option Tmp)} {L : List SOp} {fr : Fr} {σ : AHeap} (J : Fr → AHeap → Prop) (hk : ∀ fr' τ, J fr' τ → AGo P ro f N k R fr' τ) (h : (∀ fr' τ, J fr' τ → AGo P ro f N k R fr' τ) → AReg P ro f N gds L k R fr σ) : AReg P ro f N gds L k R fr σ := h hk
end Go.Abs

/- THE ABSTRACT MACHINE, part Zb: a walk through a region whose order is drawn. -/
namespace Go.Abs
open Go

/-- What is left of a drawn region, in one order that stands for all. -/
def DW (P : Program) (N : Nat) (gds : List (Option Tmp)) (L : List SOp) (base : Nat) (K : Fr → AHeap → Prop) (S : List Stage) (Af : List Nat) (fr : Fr) (σ : AHeap) : Prop :=
  ∀ fr0, FEqv fr0 fr → DGo P N gds L base K [] S Af fr0 σ

section
variable {P : Program} {N : Nat} {gds : List (Option Tmp)} {L : List SOp} {base : Nat} {K : Fr → AHeap → Prop} {S : List Stage} {Af A : List Nat} {e : Nat} {fr : Fr} {σ : AHeap}

theorem awanted_feqv {fr fr' : Fr} (h : FEqv fr fr') (g : Option (Nat × Bool)) : awanted gds fr g = awanted gds fr' g := by
  unfold awanted
  cases g with
  | none => rfl
  | some x => obtain ⟨j, w⟩ := x; simp only; cases nth gds j with
    | none => rfl
    | some d => simp only [h d]

/-- One reading operation. -/
theorem DW.step {i : Nat} {o : SOp} {v : Value} (ho : sget L i = some o) (hv : nval P N gds σ (base + i) fr o = some (v, none)) (h : DW P N gds L base K ((A, e, []) :: S) Af (adst fr o.dst v) σ) : DW P N gds L base K ((i :: A, e, []) :: S) Af fr σ := by
  intro fr0 h0
  obtain ⟨TA, TM, o', a1, a2, _, a4, a5⟩ := h _ (h0.put o.dst v)
  rw [← nval_feqv h0] at hv
  refine ⟨⟨i, o, v, none⟩ :: TA, TM, o', ?_, ?_, agree_nil _, a4, a5⟩
  · simp only [nrun, ho, hv, a1]
  · exact a2
theorem DW.last {i : Nat} {o : SOp} {v : Value} (ho : sget L i = some o) (hv : nval P N gds σ (base + i) fr o = some (v, none)) (h : DW P N gds L base K [] Af (adst fr o.dst v) σ) : DW P N gds L base K [] (i :: Af) fr σ := by
  intro fr0 h0
  obtain ⟨T, a1, _, a3⟩ := h _ (h0.put o.dst v)
  rw [← nval_feqv h0] at hv
  refine ⟨⟨i, o, v, none⟩ :: T, ?_, agree_nil _, a3⟩
  simp only [nrun, ho, hv, a1]
theorem DW.frame {fr' : Fr} (h : FEqv fr fr') (hd : DW P N gds L base K S Af fr' σ) : DW P N gds L base K S Af fr σ := fun fr0 h0 => hd fr0 fun t => (h0 t).trans (h t)
theorem feqv_cons (fr : Fr) (d : Tmp) (v : Value) : FEqv (adst fr (some d) v) ((d, v) :: fr) := (FEqv.refl fr).cons d v

theorem nval_read {id : Nat} {d : Tmp} {op : Op} {g : Option (Nat × Bool)} {v : Value} (hd : decide (d < N) = true) (hw : awanted gds fr g = some true) (hq : quietOp op = some true) (hx : aexec P σ id fr op = some (v, σ)) : nval P N gds σ id fr ⟨some d, op, g⟩ = some (v, none) := by
  simp only [nval, dstOk, hd, hw, hq, hx, cond]
theorem nval_skip {id : Nat} {d : Tmp} {op : Op} {g : Option (Nat × Bool)} (hd : decide (d < N) = true) (hw : awanted gds fr g = some false) : nval P N gds σ id fr ⟨some d, op, g⟩ = some (.tuple #[], none) := by
  simp only [nval, dstOk, hd, hw]

theorem DW.read {i : Nat} {d : Tmp} {op : Op} {g : Option (Nat × Bool)} {v : Value} (ho : sget L i = some ⟨some d, op, g⟩) (hd : decide (d < N) = true) (hw : awanted gds fr g = some true) (hq : quietOp op = some true) (hx : aexec P σ (base + i) fr op = some (v, σ))
    (h : DW P N gds L base K ((A, e, []) :: S) Af ((d, v) :: fr) σ) : DW P N gds L base K ((i :: A, e, []) :: S) Af fr σ :=
  DW.step ho (nval_read hd hw hq hx) (DW.frame (feqv_cons fr d v) h)
theorem DW.skip {i : Nat} {d : Tmp} {op : Op} {g : Option (Nat × Bool)} (ho : sget L i = some ⟨some d, op, g⟩) (hd : decide (d < N) = true) (hw : awanted gds fr g = some false)
    (h : DW P N gds L base K ((A, e, []) :: S) Af ((d, .tuple #[]) :: fr) σ) : DW P N gds L base K ((i :: A, e, []) :: S) Af fr σ :=
  DW.step ho (nval_skip hd hw) (DW.frame (feqv_cons fr d _) h)
theorem DW.readL {i : Nat} {d : Tmp} {op : Op} {g : Option (Nat × Bool)} {v : Value} (ho : sget L i = some ⟨some d, op, g⟩) (hd : decide (d < N) = true) (hw : awanted gds fr g = some true) (hq : quietOp op = some true) (hx : aexec P σ (base + i) fr op = some (v, σ))
    (h : DW P N gds L base K [] Af ((d, v) :: fr) σ) : DW P N gds L base K [] (i :: Af) fr σ :=
  DW.last ho (nval_read hd hw hq hx) (DW.frame (feqv_cons fr d v) h)
theorem DW.skipL {i : Nat} {d : Tmp} {op : Op} {g : Option (Nat × Bool)} (ho : sget L i = some ⟨some d, op, g⟩) (hd : decide (d < N) = true) (hw : awanted gds fr g = some false)
    (h : DW P N gds L base K [] Af ((d, .tuple #[]) :: fr) σ) : DW P N gds L base K [] (i :: Af) fr σ :=
  DW.last ho (nval_skip hd hw) (DW.frame (feqv_cons fr d _) h)
theorem DW.fin (h : ∀ fr0, FEqv fr0 fr → K fr0 σ) : DW P N gds L base K [] [] fr σ := fun fr0 h0 => ⟨[], rfl, agree_nil _, h fr0 h0⟩

theorem DW.exec {o : SOp} (ho : sget L e = some o) (h : ∀ fr0, FEqv fr0 fr → Exec P N gds (base + e) o fr0 σ fun v σ1 => DGo P N gds L base K [] S Af (adst fr0 o.dst v) σ1) : DW P N gds L base K (([], e, []) :: S) Af fr σ :=
  fun fr0 h0 => ⟨[], [], o, rfl, rfl, agree_nil _, ho, h fr0 h0⟩
/-- An operation with an effect. -/
theorem DW.eff {d : Tmp} {op : Op} {g : Option (Nat × Bool)} {v : Value} {σ1 : AHeap} (ho : sget L e = some ⟨some d, op, g⟩) (hd : decide (d < N) = true) (hw : awanted gds fr g = some true) (hx : aexec P σ (base + e) fr op = some (v, σ1))
    (h : DW P N gds L base K S Af ((d, v) :: fr) σ1) : DW P N gds L base K (([], e, []) :: S) Af fr σ :=
  DW.exec ho fun fr0 h0 => ⟨by simpa [dstOk] using hd, .inr ⟨by rw [awanted_feqv h0]; exact hw, .inl ⟨v, σ1, by rw [aexec_congr (fr' := fr) fun x _ => aeval_congr fun t _ => h0 t]; exact hx, h _ (h0.cons d v)⟩⟩⟩
theorem DW.eff0 {op : Op} {g : Option (Nat × Bool)} {v : Value} {σ1 : AHeap} (ho : sget L e = some ⟨none, op, g⟩) (hw : awanted gds fr g = some true) (hx : aexec P σ (base + e) fr op = some (v, σ1))
    (h : DW P N gds L base K S Af fr σ1) : DW P N gds L base K (([], e, []) :: S) Af fr σ :=
  DW.exec ho fun fr0 h0 => ⟨rfl, .inr ⟨by rw [awanted_feqv h0]; exact hw, .inl ⟨v, σ1, by rw [aexec_congr (fr' := fr) fun x _ => aeval_congr fun t _ => h0 t]; exact hx, h _ h0⟩⟩⟩
theorem DW.call {d : Tmp} {op : Op} {gg : Option (Nat × Bool)} {g : FuncId} {vs : List Value} (ho : sget L e = some ⟨some d, op, gg⟩) (hd : decide (d < N) = true) (hw : awanted gds fr gg = some true) (hc : acallee fr op = some (g, vs)) (hb : hasBody P g = true)
    (h : ACalls P g vs σ fun v σ1 => DW P N gds L base K S Af ((d, v) :: fr) σ1) : DW P N gds L base K (([], e, []) :: S) Af fr σ :=
  DW.exec ho fun fr0 h0 => ⟨by simpa [dstOk] using hd, .inr ⟨by rw [awanted_feqv h0]; exact hw, .inr ⟨g, vs, by rw [acallee_congr (fr' := fr) fun x _ => aeval_congr fun t _ => h0 t]; exact hc, hb, h.mono fun v σ1 hh => hh _ (h0.cons d v)⟩⟩⟩

/-- These operations do not look at the slot d and have no guard. -/
def offB (d : Tmp) (L : List SOp) (M : List Nat) : Bool := M.all fun i => match sget L i with
  | some o => !(opTmps o.op).contains d && o.guard.isNone
  | none => false
def EqOff (d : Tmp) (fr fr' : Fr) : Prop := ∀ t, t ≠ d → aget fr t = aget fr' t
theorem EqOff.put {d : Tmp} {fr fr' : Fr} (h : EqOff d fr fr') (x : Option Tmp) (v : Value) : EqOff d (adst fr x v) (adst fr' x v) := by
  intro t ht
  cases x with
  | none => exact h t ht
  | some x => simp only [adst, aget_aput, h t ht]
theorem nval_off {d : Tmp} {fr fr' : Fr} (h : EqOff d fr fr') {id : Nat} {o : SOp} (hn : ((opTmps o.op).contains d) = false) (hg : o.guard = none) : nval P N gds σ id fr o = nval P N gds σ id fr' o := by
  have e : aexec P σ id fr o.op = aexec P σ id fr' o.op := by
    refine aexec_congr fun x hx => aeval_congr fun t ht => h t fun htd => ?_
    subst htd
    have : t ∈ opTmps o.op := by
      simp only [opTmps, List.mem_filterMap]
      exact ⟨x, hx, by rw [ht]⟩
    simp only [List.contains_eq_mem, decide_eq_false_iff_not] at hn
    exact hn this
  simp only [nval, hg, awanted, e]
theorem nrun_off {d : Tmp} : ∀ {M : List Nat} {fr fr' : Fr}, offB d L M = true → EqOff d fr fr' → nrun P N gds L base σ M fr = nrun P N gds L base σ M fr'
  | [], _, _, _, _ => rfl
  | i :: M, fr, fr', hM, h => by
    simp only [offB, List.all_cons, Bool.and_eq_true] at hM
    obtain ⟨h1, h2⟩ := hM
    simp only [nrun]
    cases ho : sget L i with
    | none => rfl
    | some o =>
      rw [ho] at h1
      simp only [Bool.and_eq_true, Bool.not_eq_true', Option.isNone_iff_eq_none] at h1
      simp only [nval_off h h1.1 h1.2]
      cases nval P N gds σ (base + i) fr' o with
      | none => rfl
      | some x => obtain ⟨v, nb⟩ := x; simp only [nrun_off (M := M) (by simp only [offB]; exact h2) (h.put o.dst v)]
theorem nrun_app : ∀ {A B : List Nat} {fr : Fr} {T : List Ent}, nrun P N gds L base σ (A ++ B) fr = some T → ∃ T1 T2, nrun P N gds L base σ A fr = some T1 ∧ T = T1 ++ T2
  | [], B, fr, T, h => ⟨[], T, rfl, rfl⟩
  | i :: A, B, fr, T, h => by
    simp only [List.cons_append, nrun] at h ⊢
    cases ho : sget L i with
    | none => rw [ho] at h; cases h
    | some o =>
      rw [ho] at h
      simp only at h ⊢
      cases hv : nval P N gds σ (base + i) fr o with
      | none => rw [hv] at h; cases h
      | some x =>
        obtain ⟨v, nb⟩ := x
        rw [hv] at h
        simp only at h ⊢
        cases hr : nrun P N gds L base σ (A ++ B) (adst fr o.dst v) with
        | none => rw [hr] at h; cases h
        | some T' =>
          rw [hr] at h
          cases h
          obtain ⟨T1, T2, a, b⟩ := nrun_app hr
          exact ⟨⟨i, o, v, nb⟩ :: T1, T2, by rw [a], by rw [b]; rfl⟩
theorem agree_pre (T1 T2 T3 : List Ent) : agree T1 (T1 ++ T2 ++ T3) := fun x hx => ⟨x, by simp [hx], rfl, rfl, rfl⟩
/-- A slot is assigned to; the operations M may stand ahead of it or behind it. -/
theorem DW.assignM {d : Tmp} {x : Operand} {v : Value} {M A2 : List Nat} {e2 : Nat} {S2 : List Stage} (ho : sget L e = some ⟨some d, .assign x, none⟩) (hd : decide (d < N) = true) (hx : aeval fr x = some v) (hM : offB d L M = true)
    (h : DW P N gds L base K ((M ++ A2, e2, []) :: S2) Af ((d, v) :: fr) σ) : DW P N gds L base K (([], e, M) :: (M ++ A2, e2, []) :: S2) Af fr σ := by
  intro fr0 h0
  obtain ⟨TA, TM, o', a1, a2, _, a4, a5⟩ := h (adst fr0 (some d) v) (h0.cons d v)
  obtain ⟨T1, T2, b1, rfl⟩ := nrun_app a1
  have b2 : nrun P N gds L base σ M fr0 = some T1 := by
    rw [← b1]
    refine nrun_off hM fun t ht => ?_
    show aget fr0 t = aget (aput fr0 d v) t
    rw [aget_aput, if_neg (fun e => ht e.symm)]
  refine ⟨[], T1, _, rfl, b2, agree_nil _, ho, ?_⟩
  refine ⟨by simpa [dstOk] using hd, .inr ⟨rfl, .inl ⟨v, σ, ?_, ?_⟩⟩⟩
  · have : aeval fr0 x = some v := by rw [aeval_congr fun t _ => h0 t]; exact hx
    show aexec P σ (base + e) fr0 (.assign x) = _
    simp only [aexec, this, Option.map_some]
  · exact ⟨_, TM, o', a1, a2, agree_pre _ _ _, a4, a5⟩
theorem DW.assignML {d : Tmp} {x : Operand} {v : Value} {M A2 : List Nat} (ho : sget L e = some ⟨some d, .assign x, none⟩) (hd : decide (d < N) = true) (hx : aeval fr x = some v) (hM : offB d L M = true)
    (h : DW P N gds L base K [] (M ++ A2) ((d, v) :: fr) σ) : DW P N gds L base K (([], e, M) :: []) (M ++ A2) fr σ := by
  intro fr0 h0
  obtain ⟨TA, a1, _, a3⟩ := h (adst fr0 (some d) v) (h0.cons d v)
  obtain ⟨T1, T2, b1, rfl⟩ := nrun_app a1
  have b2 : nrun P N gds L base σ M fr0 = some T1 := by
    rw [← b1]
    refine nrun_off hM fun t ht => ?_
    show aget fr0 t = aget (aput fr0 d v) t
    rw [aget_aput, if_neg (fun e => ht e.symm)]
  refine ⟨[], T1, _, rfl, b2, agree_nil _, ho, ?_⟩
  refine ⟨by simpa [dstOk] using hd, .inr ⟨rfl, .inl ⟨v, σ, ?_, ?_⟩⟩⟩
  · have : aeval fr0 x = some v := by rw [aeval_congr fun t _ => h0 t]; exact hx
    show aexec P σ (base + e) fr0 (.assign x) = _
    simp only [aexec, this, Option.map_some]
  · exact ⟨_, a1, by simpa using agree_pre T1 T2 [], a3⟩
/-- These operations only move. -/
def moveB (L : List SOp) (M : List Nat) : Bool := M.all fun i => match sget L i with
  | some ⟨_, .move _, none⟩ => true
  | _ => false
theorem nrun_move {σ τ : AHeap} : ∀ {M : List Nat} {fr : Fr}, moveB L M = true → nrun P N gds L base σ M fr = nrun P N gds L base τ M fr
  | [], _, _ => rfl
  | i :: M, fr, h => by
    simp only [moveB, List.all_cons, Bool.and_eq_true] at h
    obtain ⟨h1, h2⟩ := h
    simp only [nrun]
    split at h1
    · rename_i d x ho
      rw [ho]
      simp only
      have e : nval P N gds σ (base + i) fr ⟨d, .move x, none⟩ = nval P N gds τ (base + i) fr ⟨d, .move x, none⟩ := by
        simp only [nval, aexec, quietOp, awanted]
        cases aeval fr x <;> rfl
      rw [e]
      cases nval P N gds τ (base + i) fr ⟨d, .move x, none⟩ with
      | none => rfl
      | some y => obtain ⟨v, nb⟩ := y; simp only [nrun_move (M := M) (σ := σ) (τ := τ) (by simp only [moveB]; exact h2)]
    · cases h1
/-- An operation with an effect; the moves M may stand ahead of it or behind it. -/
theorem DW.effM {d : Tmp} {op : Op} {v : Value} {σ1 : AHeap} {M A2 : List Nat} {e2 : Nat} {S2 : List Stage} (ho : sget L e = some ⟨some d, op, none⟩) (hd : decide (d < N) = true) (hx : aexec P σ (base + e) fr op = some (v, σ1)) (hM : offB d L M = true) (hP : moveB L M = true)
    (h : DW P N gds L base K ((M ++ A2, e2, []) :: S2) Af ((d, v) :: fr) σ1) : DW P N gds L base K (([], e, M) :: (M ++ A2, e2, []) :: S2) Af fr σ := by
  intro fr0 h0
  obtain ⟨TA, TM, o', a1, a2, _, a4, a5⟩ := h (adst fr0 (some d) v) (h0.cons d v)
  obtain ⟨T1, T2, b1, rfl⟩ := nrun_app a1
  have b2 : nrun P N gds L base σ M fr0 = some T1 := by
    rw [← b1, nrun_move (τ := σ1) hP]
    refine nrun_off hM fun t ht => ?_
    show aget fr0 t = aget (aput fr0 d v) t
    rw [aget_aput, if_neg (fun e => ht e.symm)]
  refine ⟨[], T1, _, rfl, b2, agree_nil _, ho, ?_⟩
  refine ⟨by simpa [dstOk] using hd, .inr ⟨rfl, .inl ⟨v, σ1, ?_, ?_⟩⟩⟩
  · show aexec P σ (base + e) fr0 op = _
    rw [aexec_congr (fr' := fr) fun x _ => aeval_congr fun t _ => h0 t]; exact hx
  · exact ⟨_, TM, o', a1, a2, agree_pre _ _ _, a4, a5⟩
/-- One reading operation in a stage with some that may stand behind it. -/
theorem DW.stepM {i : Nat} {M : List Nat} {o : SOp} {v : Value} (ho : sget L i = some o) (hv : nval P N gds σ (base + i) fr o = some (v, none)) (h : DW P N gds L base K ((A, e, M) :: S) Af (adst fr o.dst v) σ) : DW P N gds L base K ((i :: A, e, M) :: S) Af fr σ := by
  intro fr0 h0
  obtain ⟨TA, TM, o', a1, a2, _, a4, a5⟩ := h _ (h0.put o.dst v)
  rw [← nval_feqv h0] at hv
  refine ⟨⟨i, o, v, none⟩ :: TA, TM, o', ?_, ?_, agree_nil _, a4, a5⟩
  · simp only [nrun, ho, hv, a1]
  · exact a2
theorem DW.readM {i : Nat} {M : List Nat} {d : Tmp} {op : Op} {g : Option (Nat × Bool)} {v : Value} (ho : sget L i = some ⟨some d, op, g⟩) (hd : decide (d < N) = true) (hw : awanted gds fr g = some true) (hq : quietOp op = some true) (hx : aexec P σ (base + i) fr op = some (v, σ))
    (h : DW P N gds L base K ((A, e, M) :: S) Af ((d, v) :: fr) σ) : DW P N gds L base K ((i :: A, e, M) :: S) Af fr σ :=
  DW.stepM ho (nval_read hd hw hq hx) (DW.frame (feqv_cons fr d v) h)
end

/-- A drawn region: the effects e of S, each behind its A; the rest Af only reads. -/
theorem AGo.drawW {P : Program} {ro : Ro} {f : FuncId} {N : Nat} {R : Value → AHeap → Prop} {fr : Fr} {σ : AHeap} {k : List Item} {id : Nat} {l : List Oper} (S : List Stage) (Af : List Nat) (hm : P.follows .mixedOrders = true) (hB : drawB l.toArray S Af = true)
    (h : DW P N (l.map (·.dst)) (l.map slim) σ.next (fun fr σ => AGo P ro f N k R fr σ) S Af fr (σ.bump l.length)) : AGo P ro f N (.code (.region id l.toArray true) :: k) R fr σ :=
  AGo.draw S Af hm hB rfl rfl (h fr (FEqv.refl _))
theorem DW.done {P : Program} {ro : Ro} {f : FuncId} {N : Nat} {R : Value → AHeap → Prop} {fr : Fr} {σ : AHeap} {k : List Item} {gds : List (Option Tmp)} {L : List SOp} {base : Nat} (h : AGo P ro f N k R fr σ) : DW P N gds L base (fun fr σ => AGo P ro f N k R fr σ) [] [] fr σ :=
  DW.fin fun _ h0 => AGo.feqv h0 h
theorem ae_nilCheck {P : Program} {fr : Fr} {σ : AHeap} {id : Nat} {x : Operand} {p : Addr} (hx : aeval fr x = some (.pointer (some p))) : aexec P σ id fr (.nilCheck x) = some (.pointer (some p), σ) := by simp only [aexec, hx]
theorem ae_quo {P : Program} {fr : Fr} {σ : AHeap} {id : Nat} {x y : Operand} {t u : TypeId} {a b : Int} (hx : aeval fr x = some (.int .i64 a)) (hy : aeval fr y = some (.int .i64 b)) (h0 : b ≠ 0) (hr : -9223372036854775808 ≤ a.tdiv b ∧ a.tdiv b ≤ 9223372036854775807) : aexec P σ id fr (.binOp .quo t x y u) = some (.int .i64 (a.tdiv b), σ) := by
  simp only [aexec, hx, hy, abinT, abin]; rw [if_pos ⟨trivial, h0⟩, wrap64 hr]; rfl
theorem ae_rem {P : Program} {fr : Fr} {σ : AHeap} {id : Nat} {x y : Operand} {t u : TypeId} {a b : Int} (hx : aeval fr x = some (.int .i64 a)) (hy : aeval fr y = some (.int .i64 b)) (h0 : b ≠ 0) : aexec P σ id fr (.binOp .rem t x y u) = some (.int .i64 (a.tmod b), σ) := by
  simp only [aexec, hx, hy, abinT, abin]; rw [if_pos ⟨trivial, h0⟩]; rfl
theorem ae_idxA {P : Program} {fr : Fr} {σ : AHeap} {id : Nat} {x y : Operand} {t : TypeId} {b off n j : Nat} {kd : IntKind} {e : TypeId} {s bt : Nat} {z : Option Value} {E : ATy} (hx : aeval fr x = some (.pointer (some ⟨b, off, none⟩))) (hy : aeval fr y = some (.int kd (j : Int))) (ht : ty P t = some ⟨.array n e, s, bt, z⟩) (he : ty P e = some E) (hj : j < n) :
    aexec P σ id fr (.indexAddr t x y) = some (.pointer (some ⟨b, off + j * E.size, none⟩), σ) := by
  simp only [aexec, hx, hy, aindexAddr, ht, he]; rw [if_pos ⟨by omega, by omega⟩]; simp only [Int.toNat_natCast, Option.map_some]
theorem ae_idxAI {P : Program} {fr : Fr} {σ : AHeap} {id : Nat} {x y : Operand} {t : TypeId} {b off n j : Nat} {i : Int} {kd : IntKind} {e : TypeId} {s bt : Nat} {z : Option Value} {E : ATy} (hx : aeval fr x = some (.pointer (some ⟨b, off, none⟩))) (hy : aeval fr y = some (.int kd i)) (ht : ty P t = some ⟨.array n e, s, bt, z⟩) (he : ty P e = some E) (hi : i = (j : Int)) (hj : j < n) :
    aexec P σ id fr (.indexAddr t x y) = some (.pointer (some ⟨b, off + j * E.size, none⟩), σ) := by subst hi; exact ae_idxA hx hy ht he hj
theorem ae_buildSlice {P : Program} {fr : Fr} {σ σ' : AHeap} {id : Nat} {t : TypeId} {len : Nat} {ps : Array (Nat × Operand)} {qs : List (Nat × Value)} {v : Value} (hp : aparts fr ps.toList = some qs) (hb : abuildSlice P σ id t len qs = some (v, σ')) : aexec P σ id fr (.buildSlice t len ps) = some (v, σ') := by simp only [aexec, hp, hb]
theorem ae_store {P : Program} {fr : Fr} {σ σ' : AHeap} {id : Nat} {x y : Operand} {t : TypeId} {p v : Value} (hx : aeval fr x = some p) (hy : aeval fr y = some v) (hs : astore P σ t p v = some σ') : aexec P σ id fr (.store t x y) = some (.tuple #[], σ') := by simp only [aexec, hx, hy, hs, Option.map_some]
theorem ae_idxI {P : Program} {fr : Fr} {σ : AHeap} {id : Nat} {x y : Operand} {t : TypeId} {b off n c j : Nat} {i : Int} {kd : IntKind} {e : TypeId} {s bt : Nat} {z : Option Value} {E : ATy} (hx : aeval fr x = some (.slice (some ⟨b, off, none⟩) n c)) (hy : aeval fr y = some (.int kd i)) (ht : ty P t = some ⟨.slice e, s, bt, z⟩) (he : ty P e = some E) (hi : i = (j : Int)) (hj : j < n) :
    aexec P σ id fr (.indexAddr t x y) = some (.pointer (some ⟨b, off + j * E.size, none⟩), σ) := by subst hi; exact ae_idx hx hy ht he hj
theorem ae_convert {P : Program} {fr : Fr} {σ : AHeap} {id : Nat} {src dst : TypeId} {x : Operand} {k0 k : IntKind} {n : Int} {S : ATy} {sz b : Nat} {z : Option Value} (hx : aeval fr x = some (.int k0 n)) (hs : ty P src = some S) (hd : ty P dst = some ⟨.int k, sz, b, z⟩) (hw : k.wrap n = n) : aexec P σ id fr (.convert src dst x) = some (.int k n, σ) := by
  simp only [aexec, hx, aconvert, hs, hd, hw]
theorem ae_call {P : Program} {fr : Fr} {σ σ' : AHeap} {id : Nat} {b : Builtin} {as : Array Operand} {ts : Array TypeId} {vs : List Value} {v : Value} (hx : aevals fr as.toList = some vs) (hb : abuiltin P σ id b ts vs = some (v, σ')) : aexec P σ id fr (.call { callee := .builtin b, args := as, argTypes := ts }) = some (v, σ') := by
  simp only [aexec, hx, hb]
theorem ae_slice {P : Program} {fr : Fr} {σ : AHeap} {id : Nat} {t : TypeId} {x : Operand} {lo hi : Option Operand} {u w : Value} {l h : Option Value} (hx : aeval fr x = some u) (hl : aevalO fr lo = some l) (hh : aevalO fr hi = some h) (hs : aslice2 P σ t u l h = some w) : aexec P σ id fr (.slice t x lo hi none) = some (w, σ) := by
  simp only [aexec, hx, hl, hh, hs, Option.map_some]
theorem ae_makeSlice {P : Program} {fr : Fr} {σ σ' : AHeap} {id : Nat} {t : TypeId} {x y : Operand} {l c v : Value} (hx : aeval fr x = some l) (hy : aeval fr y = some c) (hs : amakeSlice P σ id t l c = some (v, σ')) : aexec P σ id fr (.makeSlice t x y) = some (v, σ') := by simp only [aexec, hx, hy, hs]
section
variable {P : Program} {ro : Ro} {f : FuncId} {N : Nat} {R : Value → AHeap → Prop} {k : List Item} {gds : List (Option Tmp)} {r : List SOp} {fr : Fr} {σ : AHeap}
/-- New blocks under a name. -/
theorem AReg.buildSliceO {d : Tmp} {t : TypeId} {len : Nat} {ps : Array (Nat × Operand)} {qs : List (Nat × Value)} {cs : List Value} {e : TypeId} (hd : decide (d < N) = true) (hp : aparts fr ps.toList = some qs)
    (hb : ∀ σ id, abuildSlice P σ id t len qs = some (.slice (some ⟨id, 0, none⟩) len len, σ.set id (.cells cs e true)))
    (hgo : ∀ C τ, σ.next ≤ C → C < τ.next → τ.blk C = some (.cells cs e true) → More σ τ → AReg P ro f N gds r k R ((d, .slice (some ⟨C, 0, none⟩) len len) :: fr) τ) : AReg P ro f N gds (⟨some d, .buildSlice t len ps, none⟩ :: r) k R fr σ :=
  AReg.val hd (ae_buildSlice hp (hb _ _)) (hgo _ _ (Nat.le_refl _) (by simp) (blk_set _ _ _) (((More.refl σ).bump' 1).set _ (Nat.le_refl _)))
theorem AReg.newV (g : Nat → Value) (x : ABlk) {d : Tmp} {o : Op} (hd : decide (d < N) = true) (h : ∀ σ id, aexec P σ id fr o = some (g id, σ.set id x))
    (hgo : ∀ C τ, σ.next ≤ C → C < τ.next → τ.blk C = some x → More σ τ → AReg P ro f N gds r k R ((d, g C) :: fr) τ) : AReg P ro f N gds (⟨some d, o, none⟩ :: r) k R fr σ :=
  AReg.val hd (h _ _) (hgo _ _ (Nat.le_refl _) (by simp) (blk_set _ _ _) (((More.refl σ).bump' 1).set _ (Nat.le_refl _)))
theorem AReg.boxO {d : Tmp} {e : TypeId} {x : Operand} {v : Value} (hd : decide (d < N) = true) (hx : aeval fr x = some v) (hv : isTuple v = false) (he : (ty P e).isSome = true)
    (hgo : ∀ C τ, σ.next ≤ C → C < τ.next → τ.blk C = some (.cells v.cells.toList e true) → More σ τ → AReg P ro f N gds r k R ((d, .pointer (some ⟨C, 0, none⟩)) :: fr) τ) : AReg P ro f N gds (⟨some d, .box e x, none⟩ :: r) k R fr σ :=
  AReg.val hd (ae_box hx hv he) (hgo _ _ (Nat.le_refl _) (by simp) (blk_set _ _ _) (((More.refl σ).bump' 1).set _ (Nat.le_refl _)))
theorem AReg.allocO {d : Tmp} {e : TypeId} {kk : AKind} {s b : Nat} {z : Value} (hd : decide (d < N) = true) (he : ty P e = some ⟨kk, s, b, some z⟩) (hz : closedV z = true)
    (hgo : ∀ C τ, σ.next ≤ C → C < τ.next → τ.blk C = some (.cells z.cells.toList e true) → More σ τ → AReg P ro f N gds r k R ((d, .pointer (some ⟨C, 0, none⟩)) :: fr) τ) : AReg P ro f N gds (⟨some d, .alloc e, none⟩ :: r) k R fr σ :=
  AReg.val hd (ae_alloc he hz) (hgo _ _ (Nat.le_refl _) (by simp) (blk_set _ _ _) (((More.refl σ).bump' 1).set _ (Nat.le_refl _)))
end
end Go.Abs

/- THE ABSTRACT MACHINE, part Zc (printed by mkZc.py): what an operation comes to, as a proposition of its own, so that no attempt unfolds it. -/
namespace Go.Abs
open Go
structure EX (P : Program) (σ : AHeap) (id : Nat) (fr : Fr) (o : Op) (v : Value) (σ' : AHeap) : Prop where
  eq : aexec P σ id fr o = some (v, σ')
section
variable {P : Program} {fr : Fr} {σ : AHeap} {id : Nat}
theorem ex_move {x : Operand} {v : Value} (hx : aeval fr x = some v) : EX P σ id fr (.move x) (v) (σ) := ⟨ae_move hx⟩
theorem ex_lss {x y : Operand} {t u : TypeId} {kd : IntKind} {a b : Int} (hx : aeval fr x = some (.int kd a)) (hy : aeval fr y = some (.int kd b)) : EX P σ id fr (.binOp .lss t x y u) (.bool (decide (a < b))) (σ) := ⟨ae_lss hx hy⟩
theorem ex_leq {x y : Operand} {t u : TypeId} {kd : IntKind} {a b : Int} (hx : aeval fr x = some (.int kd a)) (hy : aeval fr y = some (.int kd b)) : EX P σ id fr (.binOp .leq t x y u) (.bool (decide (a ≤ b))) (σ) := ⟨ae_leq hx hy⟩
theorem ex_gtr {x y : Operand} {t u : TypeId} {kd : IntKind} {a b : Int} (hx : aeval fr x = some (.int kd a)) (hy : aeval fr y = some (.int kd b)) : EX P σ id fr (.binOp .gtr t x y u) (.bool (decide (a > b))) (σ) := ⟨ae_gtr hx hy⟩
theorem ex_geq {x y : Operand} {t u : TypeId} {kd : IntKind} {a b : Int} (hx : aeval fr x = some (.int kd a)) (hy : aeval fr y = some (.int kd b)) : EX P σ id fr (.binOp .geq t x y u) (.bool (decide (a ≥ b))) (σ) := ⟨ae_geq hx hy⟩
theorem ex_eql {x y : Operand} {t u : TypeId} {kd : IntKind} {a b : Int} (hx : aeval fr x = some (.int kd a)) (hy : aeval fr y = some (.int kd b)) : EX P σ id fr (.binOp .eql t x y u) (.bool (decide (a = b))) (σ) := ⟨ae_eql hx hy⟩
theorem ex_neq {x y : Operand} {t u : TypeId} {kd : IntKind} {a b : Int} (hx : aeval fr x = some (.int kd a)) (hy : aeval fr y = some (.int kd b)) : EX P σ id fr (.binOp .neq t x y u) (.bool (decide (a ≠ b))) (σ) := ⟨ae_neq hx hy⟩
theorem ex_add {x y : Operand} {t u : TypeId} {a b : Int} (hx : aeval fr x = some (.int .i64 a)) (hy : aeval fr y = some (.int .i64 b)) (hr : -9223372036854775808 ≤ a + b ∧ a + b ≤ 9223372036854775807) : EX P σ id fr (.binOp .add t x y u) (.int .i64 (a + b)) (σ) := ⟨ae_add hx hy hr⟩
theorem ex_sub {x y : Operand} {t u : TypeId} {a b : Int} (hx : aeval fr x = some (.int .i64 a)) (hy : aeval fr y = some (.int .i64 b)) (hr : -9223372036854775808 ≤ a - b ∧ a - b ≤ 9223372036854775807) : EX P σ id fr (.binOp .sub t x y u) (.int .i64 (a - b)) (σ) := ⟨ae_sub hx hy hr⟩
theorem ex_mul {x y : Operand} {t u : TypeId} {a b : Int} (hx : aeval fr x = some (.int .i64 a)) (hy : aeval fr y = some (.int .i64 b)) (hr : -9223372036854775808 ≤ a * b ∧ a * b ≤ 9223372036854775807) : EX P σ id fr (.binOp .mul t x y u) (.int .i64 (a * b)) (σ) := ⟨ae_mul hx hy hr⟩
theorem ex_not {x : Operand} {t : TypeId} {b : Bool} (hx : aeval fr x = some (.bool b)) : EX P σ id fr (.unOp .not t x) (.bool !b) (σ) := ⟨ae_not hx⟩
theorem ex_len {x : Operand} {t : TypeId} {a : Option Addr} {n c : Nat} {e : TypeId} {s b : Nat} {z : Option Value} (hx : aeval fr x = some (.slice a n c)) (ht : ty P t = some ⟨.slice e, s, b, z⟩) : EX P σ id fr (.call { callee := .builtin .len, args := #[x], argTypes := #[t] }) (.int .i64 n) (σ) := ⟨ae_len hx ht⟩
theorem ex_idx {x y : Operand} {t : TypeId} {b off n c j : Nat} {kd : IntKind} {e : TypeId} {s bt : Nat} {z : Option Value} {E : ATy} (hx : aeval fr x = some (.slice (some ⟨b, off, none⟩) n c)) (hy : aeval fr y = some (.int kd (j : Int))) (ht : ty P t = some ⟨.slice e, s, bt, z⟩) (he : ty P e = some E) (hj : j < n) : EX P σ id fr (.indexAddr t x y) (.pointer (some ⟨b, off + j * E.size, none⟩)) (σ) := ⟨ae_idx hx hy ht he hj⟩
theorem ex_load {x : Operand} {t : TypeId} {p v : Value} (hx : aeval fr x = some p) (hl : aload P σ t p = some v) : EX P σ id fr (.load t x) (v) (σ) := ⟨ae_load hx hl⟩
theorem ex_extract {x : Operand} {i : Nat} {vs : Array Value} {v : Value} (hx : aeval fr x = some (.tuple vs)) (hv : vs[i]? = some v) : EX P σ id fr (.extract x i) (v) (σ) := ⟨ae_extract hx hv⟩
theorem ex_assign {x : Operand} {v : Value} (hx : aeval fr x = some v) : EX P σ id fr (.assign x) (v) (σ) := ⟨ae_assign hx⟩
theorem ex_bool {o : Op} {p q : Bool} {σ' : AHeap} (h : EX P σ id fr o (.bool p) σ') (e : p = q)  : EX P σ id fr o (.bool q) (σ') := ⟨ae_bool h.eq e⟩
theorem ex_pickT {c x y : Operand} {v : Value} (hc : aeval fr c = some (.bool true)) (hx : aeval fr x = some v) : EX P σ id fr (.pick c x y) (v) (σ) := ⟨ae_pickT hc hx⟩
theorem ex_pickF {c x y : Operand} {v : Value} (hc : aeval fr c = some (.bool false)) (hy : aeval fr y = some v) : EX P σ id fr (.pick c x y) (v) (σ) := ⟨ae_pickF hc hy⟩
theorem ex_fieldA {t : TypeId} {x : Operand} {i b off : Nat} {fs : List (Nat × TypeId)} {s bt : Nat} {z : Option Value} {o : Nat} {u : TypeId} {U : ATy} (hx : aeval fr x = some (.pointer (some ⟨b, off, none⟩))) (ht : ty P t = some ⟨.struct fs, s, bt, z⟩)
    (hf : fs[i]? = some (o, u)) (hu : ty P u = some U) (h0 : Nat.beq U.size 0 = false) : EX P σ id fr (.fieldAddr t x i) (.pointer (some ⟨b, off + o, none⟩)) (σ) := ⟨ae_fieldA hx ht hf hu h0⟩
theorem ex_field {t : TypeId} {x : Operand} {i : Nat} {p v : Value} (hx : aeval fr x = some p) (hf : afield P t p i = some v) : EX P σ id fr (.field t x i) (v) (σ) := ⟨ae_field hx hf⟩
theorem ex_makeFunc {g : FuncId} {a b : Array Operand} {xs ys : List Value} (ha : aevals fr a.toList = some xs) (hb : aevals fr b.toList = some ys) : EX P σ id fr (.makeFunc (.func g) a b) (.func (.func g) xs.toArray ys.toArray) (σ) := ⟨ae_makeFunc ha hb⟩
theorem ex_build {t : TypeId} {ps : Array (Nat × Operand)} {qs : List (Nat × Value)} {v : Value} (hp : aparts fr ps.toList = some qs) (hb : abuild P t qs = some v) : EX P σ id fr (.build t ps) (v) (σ) := ⟨ae_build hp hb⟩
theorem ex_bin {op : BinOp} {t u : TypeId} {x y : Operand} {a b v : Value} (hx : aeval fr x = some a) (hy : aeval fr y = some b) (h : abinT P op t a b = some v) : EX P σ id fr (.binOp op t x y u) (v) (σ) := ⟨ae_bin hx hy h⟩
theorem ex_box {e : TypeId} {x : Operand} {v : Value} (hx : aeval fr x = some v) (hv : isTuple v = false) (he : (ty P e).isSome = true) : EX P σ id fr (.box e x) (.pointer (some ⟨id, 0, none⟩)) (σ.set id (.cells v.cells.toList e true)) := ⟨ae_box hx hv he⟩
theorem ex_alloc {e : TypeId} {kk : AKind} {s b : Nat} {z : Value} (he : ty P e = some ⟨kk, s, b, some z⟩) (hz : closedV z = true) : EX P σ id fr (.alloc e) (.pointer (some ⟨id, 0, none⟩)) (σ.set id (.cells z.cells.toList e true)) := ⟨ae_alloc he hz⟩
theorem ex_nilCheck     {x : Operand} {p : Addr} (hx : aeval fr x = some (.pointer (some p))) : EX P σ id fr (.nilCheck x) (.pointer (some p)) (σ) := ⟨ae_nilCheck hx⟩
theorem ex_quo     {x y : Operand} {t u : TypeId} {a b : Int} (hx : aeval fr x = some (.int .i64 a)) (hy : aeval fr y = some (.int .i64 b)) (h0 : b ≠ 0) (hr : -9223372036854775808 ≤ a.tdiv b ∧ a.tdiv b ≤ 9223372036854775807) : EX P σ id fr (.binOp .quo t x y u) (.int .i64 (a.tdiv b)) (σ) := ⟨ae_quo hx hy h0 hr⟩
theorem ex_rem     {x y : Operand} {t u : TypeId} {a b : Int} (hx : aeval fr x = some (.int .i64 a)) (hy : aeval fr y = some (.int .i64 b)) (h0 : b ≠ 0) : EX P σ id fr (.binOp .rem t x y u) (.int .i64 (a.tmod b)) (σ) := ⟨ae_rem hx hy h0⟩
theorem ex_idxA     {x y : Operand} {t : TypeId} {b off n j : Nat} {kd : IntKind} {e : TypeId} {s bt : Nat} {z : Option Value} {E : ATy} (hx : aeval fr x = some (.pointer (some ⟨b, off, none⟩))) (hy : aeval fr y = some (.int kd (j : Int))) (ht : ty P t = some ⟨.array n e, s, bt, z⟩) (he : ty P e = some E) (hj : j < n) : EX P σ id fr (.indexAddr t x y) (.pointer (some ⟨b, off + j * E.size, none⟩)) (σ) := ⟨ae_idxA hx hy ht he hj⟩
theorem ex_idxAI     {x y : Operand} {t : TypeId} {b off n j : Nat} {i : Int} {kd : IntKind} {e : TypeId} {s bt : Nat} {z : Option Value} {E : ATy} (hx : aeval fr x = some (.pointer (some ⟨b, off, none⟩))) (hy : aeval fr y = some (.int kd i)) (ht : ty P t = some ⟨.array n e, s, bt, z⟩) (he : ty P e = some E) (hi : i = (j : Int)) (hj : j < n) : EX P σ id fr (.indexAddr t x y) (.pointer (some ⟨b, off + j * E.size, none⟩)) (σ) := ⟨ae_idxAI hx hy ht he hi hj⟩
theorem ex_buildSlice   {σ' : AHeap}  {t : TypeId} {len : Nat} {ps : Array (Nat × Operand)} {qs : List (Nat × Value)} {v : Value} (hp : aparts fr ps.toList = some qs) (hb : abuildSlice P σ id t len qs = some (v, σ')) : EX P σ id fr (.buildSlice t len ps) (v) (σ') := ⟨ae_buildSlice hp hb⟩
theorem ex_store   {σ' : AHeap}  {x y : Operand} {t : TypeId} {p v : Value} (hx : aeval fr x = some p) (hy : aeval fr y = some v) (hs : astore P σ t p v = some σ') : EX P σ id fr (.store t x y) (.tuple #[]) (σ') := ⟨ae_store hx hy hs⟩
theorem ex_idxI     {x y : Operand} {t : TypeId} {b off n c j : Nat} {i : Int} {kd : IntKind} {e : TypeId} {s bt : Nat} {z : Option Value} {E : ATy} (hx : aeval fr x = some (.slice (some ⟨b, off, none⟩) n c)) (hy : aeval fr y = some (.int kd i)) (ht : ty P t = some ⟨.slice e, s, bt, z⟩) (he : ty P e = some E) (hi : i = (j : Int)) (hj : j < n) : EX P σ id fr (.indexAddr t x y) (.pointer (some ⟨b, off + j * E.size, none⟩)) (σ) := ⟨ae_idxI hx hy ht he hi hj⟩
theorem ex_convert     {src dst : TypeId} {x : Operand} {k0 k : IntKind} {n : Int} {S : ATy} {sz b : Nat} {z : Option Value} (hx : aeval fr x = some (.int k0 n)) (hs : ty P src = some S) (hd : ty P dst = some ⟨.int k, sz, b, z⟩) (hw : k.wrap n = n) : EX P σ id fr (.convert src dst x) (.int k n) (σ) := ⟨ae_convert hx hs hd hw⟩
theorem ex_call   {σ' : AHeap}  {b : Builtin} {as : Array Operand} {ts : Array TypeId} {vs : List Value} {v : Value} (hx : aevals fr as.toList = some vs) (hb : abuiltin P σ id b ts vs = some (v, σ')) : EX P σ id fr (.call { callee := .builtin b, args := as, argTypes := ts }) (v) (σ') := ⟨ae_call hx hb⟩
theorem ex_slice     {t : TypeId} {x : Operand} {lo hi : Option Operand} {u w : Value} {l h : Option Value} (hx : aeval fr x = some u) (hl : aevalO fr lo = some l) (hh : aevalO fr hi = some h) (hs : aslice2 P σ t u l h = some w) : EX P σ id fr (.slice t x lo hi none) (w) (σ) := ⟨ae_slice hx hl hh hs⟩
theorem ex_makeSlice   {σ' : AHeap}  {t : TypeId} {x y : Operand} {l c v : Value} (hx : aeval fr x = some l) (hy : aeval fr y = some c) (hs : amakeSlice P σ id t l c = some (v, σ')) : EX P σ id fr (.makeSlice t x y) (v) (σ') := ⟨ae_makeSlice hx hy hs⟩
end
section
variable {P : Program} {ro : Ro} {f : FuncId} {N : Nat} {R : Value → AHeap → Prop} {k : List Item} {gds : List (Option Tmp)} {r : List SOp} {fr : Fr} {σ σ' : AHeap}
theorem AReg.valE {d : Tmp} {o : Op} {v : Value} (hd : decide (d < N) = true) (h : EX P (σ.bump 1) σ.next fr o v σ') (hgo : AReg P ro f N gds r k R ((d, v) :: fr) σ') : AReg P ro f N gds (⟨some d, o, none⟩ :: r) k R fr σ := AReg.val hd h.eq hgo
theorem AReg.newO (g : Nat → Value) (x : ABlk) {d : Tmp} {o : Op} (hd : decide (d < N) = true) (h : ∀ σ id, EX P σ id fr o (g id) (σ.set id x))
    (hgo : ∀ C τ, σ.next ≤ C → C < τ.next → τ.blk C = some x → More σ τ → AReg P ro f N gds r k R ((d, g C) :: fr) τ) : AReg P ro f N gds (⟨some d, o, none⟩ :: r) k R fr σ := AReg.newV g x hd (fun σ id => (h σ id).eq) hgo
theorem AReg.valGE {d : Tmp} {o : Op} {g : Option (Nat × Bool)} {v : Value} (hd : decide (d < N) = true) (hw : awanted gds fr g = some true) (h : EX P (σ.bump 1) σ.next fr o v σ') (hgo : AReg P ro f N gds r k R ((d, v) :: fr) σ') : AReg P ro f N gds (⟨some d, o, g⟩ :: r) k R fr σ := AReg.valG hd hw h.eq hgo
end
section
variable {P : Program} {N : Nat} {gds : List (Option Tmp)} {L : List SOp} {base : Nat} {K : Fr → AHeap → Prop} {S : List Stage} {Af A M : List Nat} {e : Nat} {fr : Fr} {σ σ1 : AHeap}
theorem DW.readE {i : Nat} {d : Tmp} {op : Op} {g : Option (Nat × Bool)} {v : Value} (ho : sget L i = some ⟨some d, op, g⟩) (hd : decide (d < N) = true) (hw : awanted gds fr g = some true) (hq : quietOp op = some true) (hx : EX P σ (base + i) fr op v σ)
    (h : DW P N gds L base K ((A, e, M) :: S) Af ((d, v) :: fr) σ) : DW P N gds L base K ((i :: A, e, M) :: S) Af fr σ := DW.readM ho hd hw hq hx.eq h
theorem DW.skipE {i : Nat} {d : Tmp} {op : Op} {g : Option (Nat × Bool)} (ho : sget L i = some ⟨some d, op, g⟩) (hd : decide (d < N) = true) (hw : awanted gds fr g = some false)
    (h : DW P N gds L base K ((A, e, M) :: S) Af ((d, .tuple #[]) :: fr) σ) : DW P N gds L base K ((i :: A, e, M) :: S) Af fr σ :=
  DW.stepM ho (nval_skip hd hw) (DW.frame (feqv_cons fr d _) h)
theorem DW.readLE {i : Nat} {d : Tmp} {op : Op} {g : Option (Nat × Bool)} {v : Value} (ho : sget L i = some ⟨some d, op, g⟩) (hd : decide (d < N) = true) (hw : awanted gds fr g = some true) (hq : quietOp op = some true) (hx : EX P σ (base + i) fr op v σ)
    (h : DW P N gds L base K [] Af ((d, v) :: fr) σ) : DW P N gds L base K [] (i :: Af) fr σ := DW.readL ho hd hw hq hx.eq h
theorem DW.effE {d : Tmp} {op : Op} {g : Option (Nat × Bool)} {v : Value} (ho : sget L e = some ⟨some d, op, g⟩) (hd : decide (d < N) = true) (hw : awanted gds fr g = some true) (hx : EX P σ (base + e) fr op v σ1)
    (h : DW P N gds L base K S Af ((d, v) :: fr) σ1) : DW P N gds L base K (([], e, []) :: S) Af fr σ := DW.eff ho hd hw hx.eq h
end
theorem NR.consE {P : Program} {N : Nat} {gds : List (Option Tmp)} {L : List SOp} {base : Nat} {σ : AHeap} {i : Nat} {l : List Nat} {fr : Fr} {d : Tmp} {op : Op} {v : Value} {T : List Ent} {fr' : Fr} (ho : sget L i = some ⟨some d, op, none⟩) (hd : decide (d < N) = true) (hq : quietOp op = some true) (hx : EX P σ (base + i) fr op v σ) (h : NR P N gds L base σ l ((d, v) :: fr) T fr') :
      NR P N gds L base σ (i :: l) fr (⟨i, ⟨some d, op, none⟩, v, none⟩ :: T) fr' := NR.cons ho hd hq hx.eq h
end Go.Abs

/- THE ABSTRACT MACHINE, part Zd: arguments that are slices: their cells lie in blocks that are only read. -/
namespace Go.Abs
open Go Go.RowKit

/-- A row of cells of the world that an argument leads to. -/
structure In where
  g : Nat
  o : Nat
  cs : List Value
  e : TypeId
  sz : Nat
def inHeap (ins : List In) : AHeap := ⟨ins.length, fun b => (ins[b]?).map fun x => .cells x.cs x.e false⟩
def inMap (ins : List In) : BMap := fun b => (ins[b]?).map fun x => ⟨x.g, x.o, 0, x.sz⟩

/-- What must be known of such a row. -/
def In.Ok (P : Program) (w : World) (x : In) : Prop :=
  Ones x.cs ∧ (∀ (i : Nat) (v : Value), x.cs[i]? = some v → closedCell v = true ∧ w.cell? ⟨x.g, x.o + i, none⟩ = some v) ∧ tsz P x.e = some x.sz
theorem RH.ins {P : Program} {w : World} {ins : List In} (h : ∀ x ∈ ins, x.Ok P w) : RH P (inMap ins) (inHeap ins) w w.heap.size where
  base := Nat.le_refl _
  fresh b hb := by
    show (ins[b]?).map _ = none
    rw [List.getElem?_eq_none hb]; rfl
  dom b x hx := by
    simp only [inHeap, Option.map_eq_some_iff] at hx
    obtain ⟨y, hy, rfl⟩ := hx
    obtain ⟨h1, h2, h3⟩ := h y (List.mem_of_getElem? hy)
    refine ⟨⟨y.g, y.o, 0, y.sz⟩, by simp [inMap, hy], h1, fun i v hv => ?_, h3, fun hr => by cases hr⟩
    obtain ⟨a, b⟩ := h2 i v hv
    exact ⟨v, b, RV.closedCell a⟩
  inj b c x y p q hx _ hr _ _ _ := by
    simp only [inHeap, Option.map_eq_some_iff] at hx
    obtain ⟨z, _, rfl⟩ := hx
    cases hr
theorem RV.inSlice {ins : List In} {b len cap : Nat} {x : In} (hb : ins[b]? = some x) (hl : len ≤ cap) : RV (inMap ins) (.slice (some ⟨b, 0, none⟩) len cap) (.slice (some ⟨x.g, x.o, none⟩) len cap) :=
  RV.slice (φ := inMap ins) (off := 0) (p := ⟨x.g, x.o, 0, x.sz⟩) (by simp [inMap, hb]) hl (Nat.le_refl _) (.inl rfl)
/-- From a contract to the walk, with rows that are only read. -/
theorem ACalls.topIn {P : Program} {f : FuncId} {args : List Value} {args' : Array Value} {w : World} (ins : List In) (hok : ∀ x ∈ ins, x.Ok P w) (ha : RVs (inMap ins) args args'.toList)
    (h : ACalls P f args (inHeap ins) fun v _ => v = .bool true) : Calls P f args' w fun e w' => e = .returned (.bool true) ∧ Below w.heap.size w w' := by
  refine ACalls.top (RH.ins hok) ha (fun b x hx => ?_) h
  simp only [inHeap, Option.map_eq_some_iff] at hx
  obtain ⟨z, _, rfl⟩ := hx
  rfl

/-- A call; one reading operation may stand ahead of it or behind it. -/
theorem DW.callM {P : Program} {N : Nat} {gds : List (Option Tmp)} {L : List SOp} {base : Nat} {K : Fr → AHeap → Prop} {Af A2 : List Nat} {e e2 m : Nat} {S2 : List Stage} {fr : Fr} {σ : AHeap} {d dm : Tmp} {op opm : Op} {vm : Value} {g : FuncId} {vs : List Value}
    (ho : sget L e = some ⟨some d, op, none⟩) (hd : decide (d < N) = true) (hc : acallee fr op = some (g, vs)) (hb : hasBody P g = true) (hm : sget L m = some ⟨some dm, opm, none⟩) (hdm : decide (dm < N) = true) (hq : quietOp opm = some true) (hx : aexec P σ (base + m) fr opm = some (vm, σ))
    (h : ACalls P g vs σ fun v σ1 => aexec P σ1 (base + m) ((d, v) :: fr) opm = some (vm, σ1) ∧ DW P N gds L base K ((m :: A2, e2, []) :: S2) Af ((d, v) :: fr) σ1) : DW P N gds L base K (([], e, [m]) :: (m :: A2, e2, []) :: S2) Af fr σ := by
  intro fr0 h0
  have hv : nval P N gds σ (base + m) fr0 ⟨some dm, opm, none⟩ = some (vm, none) := by
    rw [nval_feqv h0]; exact nval_read hdm rfl hq hx
  refine ⟨[], [⟨m, ⟨some dm, opm, none⟩, vm, none⟩], _, rfl, ?_, agree_nil _, ho, ?_⟩
  · show nrun P N gds L base σ [m] fr0 = _
    simp only [nrun, hm, hv]
  · refine ⟨by simpa [dstOk] using hd, .inr ⟨rfl, .inr ⟨g, vs, by show acallee fr0 op = _; rw [acallee_congr (fr' := fr) fun x _ => aeval_congr fun t _ => h0 t]; exact hc, hb, h.mono fun v σ1 ⟨hx1, hd1⟩ => ?_⟩⟩⟩
    have hf : FEqv (adst fr0 (some d) v) ((d, v) :: fr) := h0.cons d v
    obtain ⟨TA, TM, o', a1, a2, _, a4, a5⟩ := hd1 _ hf
    refine ⟨TA, TM, o', a1, a2, ?_, a4, a5⟩
    have hv1 : nval P N gds σ1 (base + m) (adst fr0 (some d) v) ⟨some dm, opm, none⟩ = some (vm, none) := by
      rw [nval_feqv hf]; exact nval_read hdm rfl hq hx1
    simp only [nrun, hm, hv1] at a1
    split at a1
    · cases a1
    · cases a1
      intro x hx
      simp only [List.mem_singleton] at hx
      subst hx
      exact ⟨_, by simp, rfl, rfl, rfl⟩
end Go.Abs

/- THE ABSTRACT MACHINE, part Ze: a range over a function. -/
namespace Go.Abs
open Go

section
variable {P : Program}
theorem rl_get {w : World} {l : Nat} {r : Loop} (h : w.heap[l]? = some (.loop r)) : (Instr.getLoop l).run P w = .ok r w := by
  simp [Instr.getLoop, Sem.run_bind, getObj, Sem.run, h, Result.andThen]
theorem rl_set {w : World} {l : Nat} {r : Loop} (o : Obj) (h : w.heap[l]? = some (.loop r)) : (setObj l o).run P w = .ok () (wput w l o) := by simp [setObj, Sem.run, h, wput]
theorem rl_begin {w : World} {l : Nat} {r : Loop} (h : w.heap[l]? = some (.loop r)) (hr : r.state = .ready) : (Instr.beginRound l).run P w = .ok () (wput w l (.loop { r with state := .busy })) := by
  simp [Instr.beginRound, Sem.run_bind, rl_get h, rl_set _ h, Result.andThen, hr]
theorem rl_end {w : World} {l : Nat} {r : Loop} (jump : Option Code) (h : w.heap[l]? = some (.loop r)) :
    (Instr.endRound l jump).run P w = .ok (.bool jump.isNone) (wput w l (.loop { r with state := if jump.isNone then .ready else .done, pending := jump })) := by
  simp [Instr.endRound, Sem.run_bind, rl_get h, rl_set _ h, Result.andThen]
theorem rl_endLoop {w : World} {l : Nat} {r : Loop} (h : w.heap[l]? = some (.loop r)) (hb : r.state ≠ .busy) :
    (Instr.endLoop l).run P w = .ok r.pending (wput w l (.loop { r with state := .exhausted })) := by
  simp [Instr.endLoop, Sem.run_bind, rl_get h, rl_set _ h, Result.andThen, hb]
theorem rl_take {w : World} {b : Nat} {ds : List Deferred} (h : w.heap[b]? = some (.deferred (some ds))) : (Instr.takeDeferred b).run P w = .ok ds (wput w b (.deferred none)) := by
  simp [Instr.takeDeferred, Sem.run_bind, getObj, setObj, Sem.run, h, Result.andThen, wput]
theorem rl_enter (w : World) (fn : FuncId) (tmps : Array Value) (ps : Array Tmp) (as bd : Code) :
    (Instr.enterLoop fn tmps ps as bd none).run P w = .ok (w.heap.size + 1, [{ target := .collected w.heap.size, args := #[] }])
      { w with heap := (w.heap.push (.deferred (some []))).push (.loop ⟨.ready, none, fn, tmps, ps, as, bd, w.heap.size⟩) } := by
  unfold Instr.enterLoop
  simp only [Sem.run_bind, run_newObj, Result.andThen, Sem.run_pure, Array.size_push]
theorem rl_yield {w : World} {l : Nat} {r : Loop} {args : Array Value} (h : w.heap[l]? = some (.loop r)) (hs : args.size = r.params.size) :
    (Instr.yield l args).run P w = .ok (.round l r.fn ((r.params.zip args).foldl (fun tmps (t, a) => tmps.setIfInBounds t a) r.tmps) r.assign r.body) w := by
  simp [Instr.yield, Sem.run_bind, rl_get h, Result.andThen, hs]
end

/-- An object that nobody looks at is laid. -/
theorem RH.push {P : Program} {φ : BMap} {σ : AHeap} {w : World} {B : Nat} (h : RH P φ σ w B) (o : Obj) : RH P φ σ { w with heap := w.heap.push o } B where
  base := by simp; have := h.base; omega
  fresh := h.fresh
  dom b x hx := by
    obtain ⟨p, hp, hok⟩ := h.dom b x hx
    refine ⟨p, hp, hok.keep (.refl _) fun hs => ?_⟩
    have := hok.lt hs
    simp only [Array.getElem?_push]; rw [if_neg (by omega)]
  inj := h.inj
theorem Step.push (n0 : Nat) (φ : BMap) (σ : AHeap) (w : World) (o : Obj) : Step n0 φ σ w φ σ { w with heap := w.heap.push o } :=
  ⟨.refl _, fun _ _ => rfl, Nat.le_refl _, rfl, rfl, rfl, by simp, fun g hg _ => by simp only [Array.getElem?_push]; rw [if_neg (by omega)], fun _ _ h => h, fun _ _ h => h, fun _ _ h _ => h⟩
theorem Step.del (n0 : Nat) (φ : BMap) (σ : AHeap) (w : World) (b : Nat) : Step n0 φ σ w φ (σ.del b) w := by
  refine ⟨.refl _, fun _ _ => rfl, Nat.le_refl _, rfl, rfl, rfl, Nat.le_refl _, fun _ _ _ => rfl, fun g _ ho => ?_, fun c _ hd => ?_, fun c x hx _ => ?_⟩
  · obtain ⟨c, x, p, hx, h⟩ := ho
    rw [AHeap.del_blk] at hx
    split at hx
    · cases hx
    · exact ⟨c, x, p, hx, h⟩
  · rw [AHeap.del_blk]; split
    · rfl
    · exact hd
  · rw [AHeap.del_blk] at hx; split at hx
    · cases hx
    · exact hx

def yieldCall (fr : Fr) : Op → Option (Nat × List Value)
  | .call { callee := .value fo, args, .. } => match aeval fr fo, aevals fr args.toList with
    | some (.func (.yield L) _ _), some vs => some (L, vs)
    | _, _ => none
  | _ => none
/-- Parameters are put into a frame. -/
def aputs (F : Fr) : List (Nat × Value) → Fr
  | [] => F
  | (t, v) :: r => aputs (aput F t v) r
theorem RF.puts {φ : BMap} {N : Nat} : ∀ {ps : List Nat} {vs vs' : List Value} {F : Fr} {tmps : Array Value}, RF φ N F tmps → RVs φ vs vs' → ps.all (· < N) = true →
    RF φ N (aputs F (ps.zip vs)) ((ps.zip vs').foldl (fun tmps (x : Nat × Value) => tmps.setIfInBounds x.1 x.2) tmps)
  | [], vs, vs', F, tmps, h, _, _ => by simpa [aputs] using h
  | p :: ps, [], vs', F, tmps, h, hv, _ => by
    have : vs' = [] := by have := hv.1; simp at this; exact List.length_eq_zero_iff.1 this.symm
    subst this; simpa [aputs] using h
  | p :: ps, v :: vs, [], F, tmps, h, hv, _ => by have := hv.1; simp at this
  | p :: ps, v :: vs, v' :: vs', F, tmps, h, hv, hp => by
    simp only [List.all_cons, Bool.and_eq_true, decide_eq_true_eq] at hp
    simp only [List.zip_cons_cons, aputs, List.foldl_cons]
    refine RF.puts (h.put hp.1 (hv.2 0 _ _ rfl rfl)) ⟨by have := hv.1; simpa using this, fun i a b ha hb => hv.2 (i + 1) a b (by simpa using ha) (by simpa using hb)⟩ hp.2

section
variable {P : Program} {ro : Ro} {f : FuncId} {N : Nat} {R : Value → AHeap → Prop} {k : List Item}

/-- yield is called: a round of the loop is run. -/
theorem AGo.yield {ops : Array Oper} {i : Nat} {r : List Nat} {o : Oper} {L : Nat} {vs : List Value} {fr : Fr} {σ : AHeap} {st : LoopState} {pd : Option Code} {f' : FuncId} {N' : Nat} {F : Fr} {ps : Array Tmp} {as bd : Code} (ho : ops[i]? = some o) (hd : dstOk N o.dst = true) (hw : awanted (ops.toList.map (·.dst)) fr o.guard = some true)
    (hc : yieldCall fr o.op = some (L, vs)) (hL : σ.blk L = some (.loop st pd f' N' F ps as bd)) (hn : vs.length = ps.size) (hps : ps.toList.all (· < N') = true)
    (h : ∀ l, AGo P ⟨some (L, l), []⟩ f' N' [.code as, .beginRound, .code bd] (fun v σ' => AGo P ro f N (.inRegion ops r :: k) R (adst fr o.dst v) σ') (aputs F (ps.toList.zip vs)) σ) : AGo P ro f N (.inRegion ops (i :: r) :: k) R fr σ := by
  intro B φ w a b cs h1 h2 h3 h4 h5
  have hwant := awanted_ok h2 hw
  unfold yieldCall at hc
  split at hc
  case h_2 => cases hc
  rename_i fo args ts hop
  split at hc
  case h_2 => cases hc
  rename_i L' xs ys us e1 e2
  cases hc
  have hfv := aeval_rv h2 e1
  generalize hev : a.eval fo = fv at hfv
  cases hfv with
  | @yield _ p hp =>
  have hargs := aevals_rv h2 e2
  obtain ⟨q, hq, hok⟩ := h1.dom L _ hL
  rw [hp] at hq; cases hq
  obtain ⟨hB, tmps, d, hl, hF⟩ := hok
  have hsz : (args.map a.eval).size = ps.size := by have := hargs.1; simp at this ⊢; omega
  have hrun : (execOp a.eval o).run P w = .ok (.round p.g f' ((ps.zip (args.map a.eval)).foldl (fun tmps (t, a) => tmps.setIfInBounds t a) tmps) as bd) w := by
    have hy := rl_yield (P := P) (args := args.map a.eval) hl hsz
    simp only [execOp, hop, Sem.run_bind, resolve, hev, Deferred.ofValue, Sem.run_pure, Result.andThen_ok, invoke]
    simpa using hy
  have hg := stepG_opR (P := P) (b := b) (ro := ro.l) (a := a) (k := k) (cs := cs) (w := w) (rest := r) ho hwant (by simp [notDefer, hop])
  let b' : Frame := { (default : Frame) with fn := f', kind := .normal }
  have henter : step P (lone (fat b a ro.l (.inRegion ops (i :: r) :: k)) cs w) = .next (lone (fat b' { tmps := (ps.zip (args.map a.eval)).foldl (fun tmps (t, a) => tmps.setIfInBounds t a) tmps, defers := [] } (some p.g) [.code as, .beginRound, .code bd]) (fat b a ro.l (.inRegion ops (i :: r) :: k) :: cs) w) :=
    step_lone_go (by rw [hg]; simp [stepG.apply, hrun, fat, Frame.at, Frame.round, b'])
  have hRF : RF φ N' (aputs F (ps.toList.zip vs)) ((ps.zip (args.map a.eval)).foldl (fun tmps (t, a) => tmps.setIfInBounds t a) tmps) := by
    have := RF.puts (ps := ps.toList) hF hargs hps
    rw [← Array.foldl_toList]
    simpa using this
  obtain ⟨v, v', σ', φ', w1, w', frm, a1, a2, a3, a4, a5, a6⟩ := h p.g B φ w { tmps := (ps.zip (args.map a.eval)).foldl (fun tmps (t, a) => tmps.setIfInBounds t a) tmps, defers := [] } b' (fat b a ro.l (.inRegion ops (i :: r) :: k) :: cs) h1 hRF ⟨rfl, fun d hd => by simp at hd, fun b l e => by cases e; exact ⟨p, hp, rfl⟩⟩ rfl rfl
  have hfin : (fat b a ro.l (.inRegion ops (i :: r) :: k)).finish v' = fat b (a.put o.dst v') ro.l (.inRegion ops r :: k) := by rw [fat_finish, ho]; rfl
  have hleave := a6 (fat b a ro.l (.inRegion ops (i :: r) :: k)) cs
  rw [hfin] at hleave
  refine Ends.of_steps ((Steps.one henter).trans (a5.trans (.one hleave))) a4 (a1 B φ' w' _ b cs a3 ((h2.ext a4.ext).dst hd a2) (by rw [act_put_defers]; exact h3.step a4) h4 h5)

theorem AReg.yield {gds : List (Option Tmp)} {o : SOp} {r : List SOp} {L : Nat} {vs : List Value} {fr : Fr} {σ : AHeap} {st : LoopState} {pd : Option Code} {f' : FuncId} {N' : Nat} {F : Fr} {ps : Array Tmp} {as bd : Code} (hd : dstOk N o.dst = true) (hw : awanted gds fr o.guard = some true)
    (hc : yieldCall fr o.op = some (L, vs)) (hL : σ.blk L = some (.loop st pd f' N' F ps as bd)) (hn : vs.length = ps.size) (hps : ps.toList.all (· < N') = true)
    (h : ∀ l, AGo P ⟨some (L, l), []⟩ f' N' [.code as, .beginRound, .code bd] (fun v σ' => AReg P ro f N gds r k R (adst fr o.dst v) σ') (aputs F (ps.toList.zip vs)) σ) : AReg P ro f N gds (o :: r) k R fr σ := by
  intro ops is e1 e2
  cases is with
  | nil => simp at e2
  | cons i is =>
    simp only [List.map_cons, List.cons.injEq] at e2
    obtain ⟨e2, e3⟩ := e2
    rw [Option.map_eq_some_iff] at e2
    obtain ⟨oo, ho, rfl⟩ := e2
    exact AGo.yield ho hd (by rw [e1]; exact hw) hc hL hn hps fun l => (h l).mono fun v σ' hh => hh ops is e1 e3

theorem AGo.beginRound {L l : Nat} {ds : List Deferred} {fr : Fr} {σ : AHeap} {pd : Option Code} {f' : FuncId} {N' : Nat} {F : Fr} {ps : Array Tmp} {as bd : Code} (hL : σ.blk L = some (.loop .ready pd f' N' F ps as bd))
    (h : AGo P ⟨some (L, l), ds⟩ f N k R fr (σ.set L (.loop .busy pd f' N' F ps as bd))) : AGo P ⟨some (L, l), ds⟩ f N (.beginRound :: k) R fr σ := by
  intro B φ w a b cs h1 h2 h3 h4 h5
  obtain ⟨p, hp, rfl⟩ := h3.round L l rfl
  obtain ⟨q, hq, hok⟩ := h1.dom L _ hL
  rw [hp] at hq; cases hq
  obtain ⟨hB, tmps, d, hl, hF⟩ := hok
  have hlt : p.g < w.heap.size := (Array.getElem?_eq_some_iff.1 hl).1
  have hbr := rl_begin (P := P) hl rfl
  have hs : step P (lone (fat b a (some p.g) (.beginRound :: k)) cs w) = .next (lone (fat b a (some p.g) k) cs (wput w p.g (.loop ⟨.busy, pd, f', tmps, ps, as, bd, d⟩))) :=
    step_lone_go (by simp [stepG, stepG.exec, stepG.apply, fat, Frame.at, Sem.runT_eq, hbr, Result.andThen, Frame.finish])
  obtain ⟨r1, r2⟩ := RH.write (id := σ.next) (y := .loop .busy pd f' N' F ps as bd) h1 hL rfl hp rfl (w' := wput w p.g (.loop ⟨.busy, pd, f', tmps, ps, as, bd, d⟩)) (fun g hg => wput_ne hg) wput_size rfl rfl rfl ⟨hB, tmps, d, wput_same hlt, hF⟩
  have hst : Step σ.next φ σ w φ (σ.set L (.loop .busy pd f' N' F ps as bd)) (wput w p.g (.loop ⟨.busy, pd, f', tmps, ps, as, bd, d⟩)) := ⟨r2.ext, fun _ _ => rfl, Nat.le_refl _, rfl, rfl, rfl, r2.size, r2.kept, r2.own, fun c hc hd => r2.dead c (by omega) hd, r2.ro⟩
  exact Ends.of_steps (.one hs) hst (h B φ _ a b cs r1 h2 (h3.step hst) h4 h5)

theorem Ends.round {L l : Nat} {ds : List Deferred} {fr : Fr} {σ : AHeap} {st : LoopState} {pd : Option Code} {f' : FuncId} {N' : Nat} {F : Fr} {ps : Array Tmp} {as bd : Code} {todo : List Item} (jump : Option Code) (hL : σ.blk L = some (.loop st pd f' N' F ps as bd))
    (hs : ∀ (b : Frame) (a : Act) (c : Frame) (cs : List Frame) (w w' : World) (l : Nat) (v : Value), b.kind = .normal → (Instr.endRound l jump).run P w = .ok v w' → step P (lone (fat b a (some l) todo) (c :: cs) w) = .next (lone (c.finish v) cs w'))
    (hR : R (.bool jump.isNone) (σ.set L (.loop (if jump.isNone then .ready else .done) jump f' N' F ps as bd))) : AGo P ⟨some (L, l), ds⟩ f N todo R fr σ := by
  intro B φ w a b cs h1 h2 h3 h4 h5
  obtain ⟨p, hp, rfl⟩ := h3.round L l rfl
  obtain ⟨q, hq, hok⟩ := h1.dom L _ hL
  rw [hp] at hq; cases hq
  obtain ⟨hB, tmps, d, hl, hF⟩ := hok
  have hlt : p.g < w.heap.size := (Array.getElem?_eq_some_iff.1 hl).1
  have he := rl_end (P := P) jump hl
  obtain ⟨r1, r2⟩ := RH.write (id := σ.next) (y := .loop (if jump.isNone then .ready else .done) jump f' N' F ps as bd) h1 hL rfl hp rfl (w' := wput w p.g (.loop ⟨if jump.isNone then .ready else .done, jump, f', tmps, ps, as, bd, d⟩)) (fun g hg => wput_ne hg) wput_size rfl rfl rfl ⟨hB, tmps, d, wput_same hlt, hF⟩
  have hst : Step σ.next φ σ w φ (σ.set L (.loop (if jump.isNone then .ready else .done) jump f' N' F ps as bd)) (wput w p.g (.loop ⟨if jump.isNone then .ready else .done, jump, f', tmps, ps, as, bd, d⟩)) := ⟨r2.ext, fun _ _ => rfl, Nat.le_refl _, rfl, rfl, rfl, r2.size, r2.kept, r2.own, fun c hc hd => r2.dead c (by omega) hd, r2.ro⟩
  exact ⟨_, _, _, φ, w, _, _, hR, .bool _, r1, hst, ⟨0, rfl⟩, fun c cs' => hs b a c cs' w _ p.g _ h5 he⟩
/-- A round ends: at its end, or by a return. -/
theorem AGo.roundEnd {L l : Nat} {ds : List Deferred} {fr : Fr} {σ : AHeap} {st : LoopState} {pd : Option Code} {f' : FuncId} {N' : Nat} {F : Fr} {ps : Array Tmp} {as bd : Code} (hL : σ.blk L = some (.loop st pd f' N' F ps as bd))
    (hR : R (.bool true) (σ.set L (.loop .ready none f' N' F ps as bd))) : AGo P ⟨some (L, l), ds⟩ f N [] R fr σ :=
  Ends.round none hL (fun b a c cs w w' l v hk hr => step_lone_go (by simp [stepG, stepG.exec, fat, Frame.at, hk, Sem.runT_eq, hr, doReturn])) hR
theorem AGo.roundRet {L l : Nat} {ds : List Deferred} {fr : Fr} {σ : AHeap} {st : LoopState} {pd : Option Code} {f' : FuncId} {N' : Nat} {F : Fr} {ps : Array Tmp} {as bd : Code} (hL : σ.blk L = some (.loop st pd f' N' F ps as bd))
    (hR : R (.bool false) (σ.set L (.loop .done (some .ret) f' N' F ps as bd))) : AGo P ⟨some (L, l), ds⟩ f N (.code .ret :: k) R fr σ :=
  Ends.round (some .ret) hL (fun b a c cs w w' l v hk hr => step_lone_go (by simp [stepG, stepG.exec, fat, Frame.at, hk, Sem.runT_eq, hr, doReturn])) hR

/-- A RANGE OVER A FUNCTION. -/
theorem AGo.rangeFunc {ds : List Deferred} {g : Operand} {ps : Array Tmp} {as bd : Code} {fr : Fr} {σ : AHeap} {it : FuncId} {xs ys : Array Value} (hg : aeval fr g = some (.func (.func it) xs ys)) (hb : hasBody P it = true)
    (h : ∀ L, L = σ.next → ACalls P it (xs.toList ++ [Value.func (.yield L) #[] #[]] ++ ys.toList) ((σ.bump 1).set L (.loop .ready none f N fr ps as bd)) fun _ σ' =>
      ∃ st pd, σ'.blk L = some (.loop st pd f N fr ps as bd) ∧ st ≠ .busy ∧ ∀ d, AGo P ⟨none, d :: ds⟩ f N ((pd.map Item.code).toList ++ k) R fr (σ'.del L)) :
    AGo P ⟨none, ds⟩ f N (.code (.rangeFunc g ps as bd) :: k) R fr σ := by
  intro B φ w a b cs h1 h2 h3 h4 h5
  obtain ⟨xs', ys', hfv, hx, hy⟩ := (aeval_rv h2 hg).func_inv
  -- the two objects
  obtain ⟨n, hn⟩ : ∃ n, n = w.heap.size := ⟨_, rfl⟩
  have e1 := rl_enter (P := P) w b.fn a.tmps ps as bd
  rw [← hn] at e1
  let w1 : World := { w with heap := w.heap.push (.deferred (some [])) }
  let w2 : World := { w with heap := (w.heap.push (.deferred (some []))).push (.loop ⟨.ready, none, b.fn, a.tmps, ps, as, bd, n⟩) }
  have hw2 : w2.heap = w1.heap.push (.loop ⟨.ready, none, b.fn, a.tmps, ps, as, bd, n⟩) := rfl
  have hr1 : RH P φ σ w1 B := h1.push _
  have hid : φ σ.next = none := h1.fresh _ (Nat.le_refl _)
  have hsz1 : w1.heap.size = n + 1 := by simp [w1, hn]
  obtain ⟨hr2, ho2⟩ := RH.alloc (id := σ.next) (x := .loop .ready none f N fr ps as bd) (obj := .loop ⟨.ready, none, b.fn, a.tmps, ps, as, bd, n⟩) (p := ⟨n + 1, 0, 0, 0⟩) (w' := w2) (hr1.bump 1) hid (by simp) hw2 rfl rfl rfl (by simp [hsz1]) rfl
    ⟨by have := h1.base; simp only; omega, a.tmps, n, by rw [h4] at hw2; rw [hw2, Array.getElem?_push, if_pos (by simp [hsz1])]; , h2.ext (lay_ext hid)⟩
  have hst2 : Step σ.next φ σ w (lay φ σ.next ⟨n + 1, 0, 0, 0⟩) ((σ.bump 1).set σ.next (.loop .ready none f N fr ps as bd)) w2 := (Step.push _ φ σ w _).trans ho2.toStep (Nat.le_refl _)
  have hrun : (do let d ← resolve (fat b { tmps := a.tmps, defers := { target := .collected n, args := #[] } :: a.defers } none (.inRangeFunc (n + 1) :: k)).eval { callee := .value g, args := #[.const (.func (.yield (n + 1)) #[] #[])], argTypes := #[] } 0; invoke d.target d.args).run P w2 = .ok (.enter it (xs'.toList ++ [Value.func (.yield (n + 1)) #[] #[]] ++ ys'.toList).toArray) w2 := by
    unfold hasBody at hb
    split at hb
    · rename_i fn hfn
      simp only [Bool.and_eq_true, bne_iff_ne, ne_eq] at hb
      have hnone : fn.body.isNone = false := by cases hbd : fn.body <;> simp_all
      have e : xs' ++ #[Value.func (.yield (n + 1)) #[] #[]] ++ ys' = (xs'.toList ++ [Value.func (.yield (n + 1)) #[] #[]] ++ ys'.toList).toArray := by apply Array.ext'; simp
      have hev : (fat b { tmps := a.tmps, defers := { target := .collected n, args := #[] } :: a.defers } none (.inRangeFunc (n + 1) :: k)).eval g = .func (.func it) xs' ys' := by rw [fat_eval]; exact hfv
      have hcn : (fat b { tmps := a.tmps, defers := { target := .collected n, args := #[] } :: a.defers } none (.inRangeFunc (n + 1) :: k)).eval (.const (.func (.yield (n + 1)) #[] #[])) = .func (.yield (n + 1)) #[] #[] := rfl
      simp only [Sem.run_bind, resolve, hev, Deferred.ofValue, Sem.run_pure, Result.andThen_ok, invoke, callFunc, run_program, hfn, hb.2, hnone, if_false, Bool.false_eq_true, beq_iff_eq, List.map_toArray, List.map_cons, List.map_nil, hcn]
      rw [e]
    · cases hb
  have hstep : step P (lone (fat b a none (.code (.rangeFunc g ps as bd) :: k)) cs w) = .next (lone (Frame.enter P it (xs'.toList ++ [Value.func (.yield (n + 1)) #[] #[]] ++ ys'.toList).toArray .normal) (fat b { tmps := a.tmps, defers := { target := .collected n, args := #[] } :: a.defers } none (.inRangeFunc (n + 1) :: k) :: cs) w2) :=
    step_lone_go (by
      have hrun' := hrun
      simp only [fat, Frame.at] at hrun'
      simp only [stepG, stepG.exec, fat, Frame.at, Sem.runT_eq, e1, GStep.bare_after, stepG.apply, List.cons_append, List.nil_append]
      simp only [if_true, w2] at hrun' ⊢
      simp [hrun'])
  -- the call
  obtain ⟨v, v', σ', φ', w3, w', frm, ⟨st, pd, hL, hst, hgo⟩, c2, c3, c4, c5, c6⟩ := h σ.next rfl B (lay φ σ.next ⟨n + 1, 0, 0, 0⟩) w2 (xs'.toList ++ [Value.func (.yield (n + 1)) #[] #[]] ++ ys'.toList) (fat b { tmps := a.tmps, defers := { target := .collected n, args := #[] } :: a.defers } none (.inRangeFunc (n + 1) :: k) :: cs) hr2
    (((RVs.ext (lay_ext hid) hx).append (.cons (.yield (p := ⟨n + 1, 0, 0, 0⟩) (lay_same _ _ _)) (.nil _))).append (RVs.ext (lay_ext hid) hy))
  have hleave := c6.step (fat b { tmps := a.tmps, defers := { target := .collected n, args := #[] } :: a.defers } none (.inRangeFunc (n + 1) :: k)) cs
  have hfin : (fat b { tmps := a.tmps, defers := { target := .collected n, args := #[] } :: a.defers } none (.inRangeFunc (n + 1) :: k)).finish v' = fat b { tmps := a.tmps, defers := { target := .collected n, args := #[] } :: a.defers } none (.endRangeFunc (n + 1) :: k) := by simp [Frame.finish, fat, Frame.at]
  rw [hfin] at hleave
  -- the mark
  have hmark2 : w2.heap[n]? = some (.deferred (some [])) := by
    rw [hw2, Array.getElem?_push, if_neg (by omega)]
    show (w.heap.push _)[n]? = _
    rw [Array.getElem?_push, if_pos hn]
  have hm2 : IsMark (lay φ σ.next ⟨n + 1, 0, 0, 0⟩) ((σ.bump 1).set σ.next (.loop .ready none f N fr ps as bd)) w2 { target := .collected n, args := #[] } := ⟨n, rfl, hmark2, hr2.unowned hmark2⟩
  have hm3 := hm2.step c4
  -- the loop's object
  have hpL : φ' σ.next = some ⟨n + 1, 0, 0, 0⟩ := c4.ext _ _ (lay_same _ _ _)
  obtain ⟨q, hq, hok⟩ := c3.dom σ.next _ hL
  rw [hpL] at hq; cases hq
  obtain ⟨hB, tmps, d, hl, hF⟩ := hok
  simp only at hl
  have hlt : n + 1 < w'.heap.size := (Array.getElem?_eq_some_iff.1 hl).1
  have he := rl_endLoop (P := P) hl hst
  obtain ⟨r1, r2⟩ := RH.write (id := σ'.next) (y := .loop .exhausted pd f N fr ps as bd) c3 hL rfl hpL rfl (w' := wput w' (n + 1) (.loop ⟨.exhausted, pd, f, tmps, ps, as, bd, d⟩)) (fun g hg => wput_ne hg) wput_size rfl rfl rfl ⟨hB, tmps, d, wput_same hlt, hF⟩
  have hst3 : Step σ'.next φ' σ' w' φ' (σ'.set σ.next (.loop .exhausted pd f N fr ps as bd)) (wput w' (n + 1) (.loop ⟨.exhausted, pd, f, tmps, ps, as, bd, d⟩)) := ⟨r2.ext, fun _ _ => rfl, Nat.le_refl _, rfl, rfl, rfl, r2.size, r2.kept, r2.own, fun c hc hd => r2.dead c (by omega) hd, r2.ro⟩
  have edel : (σ'.set σ.next (.loop .exhausted pd f N fr ps as bd)).del σ.next = σ'.del σ.next := by
    refine AHeap.ext (σ := (σ'.set σ.next _).del σ.next) rfl fun i => ?_
    simp only [AHeap.del_blk, AHeap.set_blk]; split <;> rfl
  have hst4 : Step σ'.next φ' σ' w' φ' (σ'.del σ.next) (wput w' (n + 1) (.loop ⟨.exhausted, pd, f, tmps, ps, as, bd, d⟩)) := by
    have := hst3.trans (Step.del σ'.next φ' (σ'.set σ.next (.loop .exhausted pd f N fr ps as bd)) (wput w' (n + 1) (.loop ⟨.exhausted, pd, f, tmps, ps, as, bd, d⟩)) σ.next) (Nat.le_refl _)
    rw [edel] at this; exact this
  have hr4 : RH P φ' (σ'.del σ.next) (wput w' (n + 1) (.loop ⟨.exhausted, pd, f, tmps, ps, as, bd, d⟩)) B := by have := r1.del (b := σ.next); rw [edel] at this; exact this
  have hend : step P (lone (fat b { tmps := a.tmps, defers := { target := .collected n, args := #[] } :: a.defers } none (.endRangeFunc (n + 1) :: k)) cs w') = .next (lone (fat b { tmps := a.tmps, defers := { target := .collected n, args := #[] } :: a.defers } none ((pd.map Item.code).toList ++ k)) cs (wput w' (n + 1) (.loop ⟨.exhausted, pd, f, tmps, ps, as, bd, d⟩))) :=
    step_lone_go (by simp [stepG, stepG.exec, fat, Frame.at, Sem.runT_eq, he, GStep.bare_after])
  have hm4 := hm3.step hst4
  have hstA := hst2.trans (c4.trans hst4 c4.next) (by simp)
  have hok4 : RoOk ⟨none, { target := .collected n, args := #[] } :: ds⟩ φ' (σ'.del σ.next) (wput w' (n + 1) (.loop ⟨.exhausted, pd, f, tmps, ps, as, bd, d⟩)) ({ target := .collected n, args := #[] } :: a.defers) := by
    have h3' := h3.step hstA
    refine ⟨by rw [h3.ds], fun d hd => ?_, fun b l e => by cases e⟩
    rcases List.mem_cons.1 hd with rfl | hd
    · exact hm4
    · exact h3'.mark d hd
  obtain ⟨u, u', σ5, φ5, w5, w6, frm5, d1, d2, d3, d4, d5, d6⟩ := hgo { target := .collected n, args := #[] } B φ' _ { tmps := a.tmps, defers := { target := .collected n, args := #[] } :: a.defers } b cs hr4 ((h2.ext hst2.ext).ext c4.ext) hok4 h4 h5
  obtain ⟨f1, ⟨f2, f3, f4, fn, f5, f6⟩, rfl⟩ := d6
  obtain ⟨n', e', hn5, hno5⟩ := hm4.step d4
  cases e'
  have ht := rl_take (P := P) hn5
  have htake : step P (lone frm5 cs w6) = .next (lone { frm5 with defers := ds } cs (wput w6 n (.deferred none))) :=
    step_lone_go (by simp [stepG, unwind, f2, f3, Sem.runT_eq, ht, GStep.bare_after])
  have hall := hstA.trans d4 (by have := c4.next; simp at this; simp; omega)
  refine ⟨u, u', σ5, φ5, _, _, _, d1, d2, d3.unmark hn5 (.deferred none), ⟨hall.ext, hall.old, hall.next, hall.os, hall.tape, hall.output, by rw [wput_size]; exact hall.size, fun g hg ho => ?_, hall.own, hall.dead, hall.ro⟩, (Steps.one hstep).trans (c5.trans ((Steps.one hleave).trans ((Steps.one hend).trans (d5.trans (.one htake))))), f1, ⟨f2, rfl, f4, fn, f5, ?_⟩, rfl⟩
  · rw [wput_ne (by omega)]; exact hall.kept g hg ho
  · exact f6
end
end Go.Abs

/- THE ABSTRACT MACHINE, part Zf: heaps told as lists of blocks: what a function finds (o), what it has made (l). -/
namespace Go.Abs
open Go

abbrev SH := List (Option Nat × ABlk)
def SEnt (τ : AHeap) (e : Option Nat × ABlk) : Prop := match e.1 with
  | some b => τ.blk b = some e.2 ∧ b < τ.next
  | none => ∃ t rw, e.2 = .cells [] t rw
def SNd (l : SH) : Prop := l.Pairwise fun a b => a.1 = b.1 → a.1 = none
structure Hp (σ : AHeap) (o l : SH) (τ : AHeap) : Prop where
  next : σ.next ≤ τ.next
  old : ∀ e ∈ o, SEnt τ e ∧ ∀ b, e.1 = some b → b < σ.next
  new : ∀ e ∈ l, SEnt τ e ∧ ∀ b, e.1 = some b → σ.next ≤ b
  ndo : SNd o
  ndl : SNd l
  keep : ∀ b, b < σ.next → (∀ e ∈ o, e.1 ≠ some b) → τ.blk b = σ.blk b

theorem SEnt.bump {τ : AHeap} {e : Option Nat × ABlk} (h : SEnt τ e) (n : Nat) : SEnt (τ.bump n) e := by
  unfold SEnt at *
  split at h
  · exact ⟨h.1, by simp; omega⟩
  · exact h
theorem SEnt.of {τ τ' : AHeap} {e : Option Nat × ABlk} (h : SEnt τ e) (hn : τ.next ≤ τ'.next) (hb : ∀ b, e.1 = some b → τ'.blk b = τ.blk b) : SEnt τ' e := by
  obtain ⟨c, x⟩ := e
  cases c with
  | none => exact h
  | some b => exact ⟨(hb b rfl).trans h.1, Nat.lt_of_lt_of_le h.2 hn⟩
theorem SEnt.lt {τ : AHeap} {b : Nat} {x : ABlk} (h : SEnt τ (some b, x)) : τ.blk b = some x ∧ b < τ.next := h

theorem Hp.bump {σ τ : AHeap} {o l : SH} (h : Hp σ o l τ) (n : Nat) : Hp σ o l (τ.bump n) :=
  ⟨by simp; have := h.next; omega, fun e he => ⟨(h.old e he).1.bump n, (h.old e he).2⟩, fun e he => ⟨(h.new e he).1.bump n, (h.new e he).2⟩, h.ndo, h.ndl, h.keep⟩
/-- A new block. -/
theorem Hp.add {σ τ : AHeap} {o l : SH} (h : Hp σ o l τ) {C : Nat} (x : ABlk) (h1 : σ.next ≤ C) (h2 : C < τ.next) (h3 : ∀ e ∈ l, e.1 ≠ some C) : Hp σ o ((some C, x) :: l) (τ.set C x) where
  next := h.next
  old e he := ⟨(h.old e he).1.of (Nat.le_refl _) fun b hb => blk_ne (by have := (h.old e he).2 b hb; omega), (h.old e he).2⟩
  new e he := by
    rcases List.mem_cons.1 he with rfl | he
    · exact ⟨⟨blk_set _ _ _, h2⟩, fun b hb => by cases hb; exact h1⟩
    · exact ⟨(h.new e he).1.of (Nat.le_refl _) fun b hb => blk_ne fun e' => h3 e he (e' ▸ hb), (h.new e he).2⟩
  ndo := h.ndo
  ndl := List.pairwise_cons.2 ⟨fun e he e' => absurd e'.symm (h3 e he), h.ndl⟩
  keep b hb ho := by rw [blk_ne (by omega)]; exact h.keep b hb ho
theorem Hp.fresh {σ τ : AHeap} {o l : SH} (h : Hp σ o l τ) : ∀ e ∈ l, e.1 ≠ some τ.next := by
  intro e he hc
  have := (h.new e he).1
  obtain ⟨c, x⟩ := e
  simp only at hc; subst hc
  have := this.lt.2
  omega
theorem Hp.addN {σ τ : AHeap} {o l : SH} (h : Hp σ o l τ) (x : ABlk) : Hp σ o ((some τ.next, x) :: l) ((τ.bump 1).set τ.next x) :=
  (h.bump 1).add x (by have := h.next; omega) (by simp) h.fresh

/-- One entry is told anew. -/
inductive Upd (c : Option Nat) (x : ABlk) (y : Option Nat × ABlk) : SH → SH → Prop
  | head (l : SH) : Upd c x y ((c, x) :: l) (y :: l)
  | tail {l l' : SH} (e) (h : Upd c x y l l') : Upd c x y (e :: l) (e :: l')
theorem Upd.mem {c : Option Nat} {x : ABlk} {y : Option Nat × ABlk} {l l' : SH} (h : Upd c x y l l') : (c, x) ∈ l := by
  induction h with
  | head => exact List.mem_cons_self ..
  | tail _ _ ih => exact List.mem_cons_of_mem _ ih
theorem Upd.inv {c : Option Nat} {x : ABlk} {y : Option Nat × ABlk} {l l' : SH} (h : Upd c x y l l') (hn : SNd l) : ∀ e ∈ l', e = y ∨ (e ∈ l ∧ (e.1 = c → c = none)) := by
  induction h with
  | head l =>
    intro e he
    rcases List.mem_cons.1 he with rfl | he
    · exact .inl rfl
    · exact .inr ⟨List.mem_cons_of_mem _ he, fun h => (List.pairwise_cons.1 hn).1 e he h.symm⟩
  | tail e' h ih =>
    intro e he
    rcases List.mem_cons.1 he with rfl | he
    · exact .inr ⟨List.mem_cons_self .., fun hh => by have := (List.pairwise_cons.1 hn).1 _ h.mem hh; rw [← hh]; exact this⟩
    · rcases ih (List.pairwise_cons.1 hn).2 e he with h | h
      · exact .inl h
      · exact .inr ⟨List.mem_cons_of_mem _ h.1, h.2⟩
theorem Upd.nd {c : Option Nat} {x : ABlk} {y : Option Nat × ABlk} {l l' : SH} (h : Upd c x y l l') (hn : SNd l) (hy : y.1 = c ∨ ∀ e ∈ l, e.1 ≠ y.1) : SNd l' := by
  induction h with
  | head l =>
    refine List.pairwise_cons.2 ⟨fun e he hh => ?_, (List.pairwise_cons.1 hn).2⟩
    rcases hy with hy | hy
    · rw [hy]; exact (List.pairwise_cons.1 hn).1 e he (hy ▸ hh)
    · exact absurd hh.symm (hy e (List.mem_cons_of_mem _ he))
  | @tail l l' e' h ih =>
    refine List.pairwise_cons.2 ⟨fun e he hh => ?_, ih (List.pairwise_cons.1 hn).2 (hy.imp id fun hy e he => hy e (List.mem_cons_of_mem _ he))⟩
    rcases h.inv (List.pairwise_cons.1 hn).2 e he with rfl | he
    · rcases hy with hy | hy
      · exact (List.pairwise_cons.1 hn).1 _ h.mem (hh.trans hy)
      · exact absurd hh (hy e' (List.mem_cons_self ..))
    · exact (List.pairwise_cons.1 hn).1 e he.1 hh
/-- Of the two lists, one is told anew. -/
inductive Upd2 (c : Option Nat) (x : ABlk) (y : Option Nat × ABlk) : SH → SH → SH → SH → Prop
  | new {o l l' : SH} (h : Upd c x y l l') : Upd2 c x y o l o l'
  | old {o l o' : SH} (h : Upd c x y o o') : Upd2 c x y o l o' l
theorem Upd2.mem {c : Option Nat} {x : ABlk} {y : Option Nat × ABlk} {o l o' l' : SH} (h : Upd2 c x y o l o' l') : (c, x) ∈ o ++ l := by
  cases h with
  | new h => exact List.mem_append_right _ h.mem
  | old h => exact List.mem_append_left _ h.mem
theorem Hp.ent {σ τ : AHeap} {o l : SH} (h : Hp σ o l τ) {e : Option Nat × ABlk} (he : e ∈ o ++ l) : SEnt τ e := by
  rcases List.mem_append.1 he with he | he
  · exact (h.old e he).1
  · exact (h.new e he).1
/-- A block is written in place. -/
theorem Hp.upd {σ τ : AHeap} {o l o' l' : SH} {b : Nat} {x y : ABlk} (h : Hp σ o l τ) (hu : Upd2 (some b) x (some b, y) o l o' l') : Hp σ o' l' (τ.set b y) := by
  cases hu with
  | new hu =>
    have hb := h.new _ hu.mem
    refine ⟨h.next, fun e he => ⟨(h.old e he).1.of (Nat.le_refl _) fun c hc => blk_ne (by have := (h.old e he).2 c hc; have := hb.2 b rfl; omega), (h.old e he).2⟩, fun e he => ?_, h.ndo, hu.nd h.ndl (.inl rfl), fun c hc ho => by rw [blk_ne (by have := hb.2 b rfl; omega)]; exact h.keep c hc ho⟩
    rcases hu.inv h.ndl e he with rfl | he
    · exact ⟨⟨blk_set _ _ _, hb.1.lt.2⟩, fun c hc => by cases hc; exact hb.2 b rfl⟩
    · exact ⟨(h.new e he.1).1.of (Nat.le_refl _) fun c hc => blk_ne fun e' => (by have := he.2 (by rw [hc, e']); cases this), (h.new e he.1).2⟩
  | old hu =>
    have hb := h.old _ hu.mem
    refine ⟨h.next, fun e he => ?_, fun e he => ⟨(h.new e he).1.of (Nat.le_refl _) fun c hc => blk_ne (by have := (h.new e he).2 c hc; have := hb.2 b rfl; omega), (h.new e he).2⟩, hu.nd h.ndo (.inl rfl), h.ndl, fun c hc ho => ?_⟩
    · rcases hu.inv h.ndo e he with rfl | he
      · exact ⟨⟨blk_set _ _ _, hb.1.lt.2⟩, fun c hc => by cases hc; exact hb.2 b rfl⟩
      · exact ⟨(h.old e he.1).1.of (Nat.le_refl _) fun c hc => blk_ne fun e' => (by have := he.2 (by rw [hc, e']); cases this), (h.old e he.1).2⟩
    · have hmem : (some b, y) ∈ o' := by
        clear h hb ho
        induction hu with
        | head => exact List.mem_cons_self ..
        | tail _ _ ih => exact List.mem_cons_of_mem _ ih
      have hne : c ≠ b := fun e' => ho _ hmem (by rw [e'])
      rw [blk_ne hne]
      refine h.keep c hc fun e he hec => ?_
      -- the same keys
      have hk : ∃ e' ∈ o', e'.1 = e.1 := by
        clear h hb ho hmem hec
        induction hu with
        | head l =>
          rcases List.mem_cons.1 he with rfl | he
          · exact ⟨_, List.mem_cons_self .., rfl⟩
          · exact ⟨e, List.mem_cons_of_mem _ he, rfl⟩
        | tail e2 _ ih =>
          rcases List.mem_cons.1 he with rfl | he
          · exact ⟨_, List.mem_cons_self .., rfl⟩
          · obtain ⟨e3, h3, h4⟩ := ih he; exact ⟨e3, List.mem_cons_of_mem _ h3, h4⟩
      obtain ⟨e3, h3, h4⟩ := hk
      exact ho e3 h3 (h4.trans hec)
/-- A block of one's own gives way to a new one. -/
theorem Hp.grow {σ τ : AHeap} {o l l' : SH} {c : Option Nat} {x y : ABlk} {C : Nat} (h : Hp σ o l τ) (hu : Upd c x (some C, y) l l') (h1 : σ.next ≤ C) (h2 : C < τ.next) (h3 : ∀ e ∈ l, e.1 ≠ some C) (τ' : AHeap) (hn : τ'.next = τ.next) (hC : τ'.blk C = some y)
    (hk : ∀ b, b ≠ C → some b ≠ c → τ'.blk b = τ.blk b) : Hp σ o l' τ' := by
  have hold : ∀ b, some b = c → σ.next ≤ b := fun b hb => (h.new _ hu.mem).2 b hb.symm
  refine ⟨by rw [hn]; exact h.next, fun e he => ⟨(h.old e he).1.of (Nat.le_of_eq hn.symm) fun b hb => hk b (by have := (h.old e he).2 b hb; omega) fun e' => by have := (h.old e he).2 b hb; have := hold b e'; omega, (h.old e he).2⟩, fun e he => ?_, h.ndo, hu.nd h.ndl (.inr fun e he => h3 e he), fun b hb ho => ?_⟩
  · rcases hu.inv h.ndl e he with rfl | he
    · exact ⟨⟨hC, by rw [hn]; exact h2⟩, fun b hb => by cases hb; exact h1⟩
    · exact ⟨(h.new e he.1).1.of (Nat.le_of_eq hn.symm) fun b hb => hk b (fun e' => h3 e he.1 (by rw [hb, e'])) (fun e' => by have := he.2 (by rw [hb, e']); rw [this] at e'; cases e'), (h.new e he.1).2⟩
  · rw [hk b (by omega) fun e' => by have := hold b e'; omega]; exact h.keep b hb ho
/-- Less is told. -/
theorem Hp.less {σ τ : AHeap} {o l l' : SH} (h : Hp σ o l τ) (hs : l'.Sublist l) : Hp σ o l' τ :=
  ⟨h.next, h.old, fun e he => h.new e (hs.subset he), h.ndo, h.ndl.sublist hs, h.keep⟩
theorem SNd.perm {l l' : SH} (h : SNd l) (p : l.Perm l') : SNd l' := (p.pairwise_iff (fun hab e => by rw [e]; exact hab e.symm)).1 h
theorem Hp.perm {σ τ : AHeap} {o l l' : SH} (h : Hp σ o l τ) (p : l.Perm l') : Hp σ o l' τ :=
  ⟨h.next, h.old, fun e he => h.new e (p.mem_iff.2 he), h.ndo, h.ndl.perm p, h.keep⟩
theorem Hp.nd {σ τ : AHeap} {o l : SH} (h : Hp σ o l τ) : SNd (o ++ l) := by
  refine List.pairwise_append.2 ⟨h.ndo, h.ndl, fun a ha b hb e => ?_⟩
  obtain ⟨c, x⟩ := a
  cases c with
  | none => rfl
  | some n =>
    have h1 := (h.old _ ha).2 n rfl
    have h2 := (h.new _ hb).2 n e.symm
    omega
/-- What a called function finds. -/
theorem Hp.enter {σ τ : AHeap} {o l o1 : SH} (h : Hp σ o l τ) (hs : ∃ m : SH, m.Perm o1 ∧ m.Sublist (o ++ l)) : Hp τ o1 [] τ := by
  obtain ⟨m, hm, hsub⟩ := hs
  have hmem : ∀ e ∈ o1, e ∈ o ++ l := fun e he => hsub.subset (hm.mem_iff.2 he)
  refine ⟨Nat.le_refl _, fun e he => ?_, fun e he => (by cases he), SNd.perm (List.Pairwise.sublist hsub h.nd) hm, .nil, fun _ _ _ => rfl⟩
  have := h.ent (hmem e he)
  refine ⟨this, fun b hb => ?_⟩
  obtain ⟨c, x⟩ := e
  simp only at hb; subst hb
  exact this.lt.2
/-- Behind a call that changed nothing of what it found. -/
theorem Hp.call {σ τ τ' : AHeap} {o l o1 l1 : SH} (h : Hp σ o l τ) (k : Hp τ o1 l1 τ') (hmem : ∀ e ∈ o1, e ∈ o ++ l) : Hp σ o (l1 ++ l) τ' := by
  have hent : ∀ e ∈ o ++ l, SEnt τ' e := fun e he => by
    by_cases h1 : ∃ e1 ∈ o1, ∃ b, e1.1 = some b ∧ e.1 = some b
    · obtain ⟨e1, he1, b, hb1, hb⟩ := h1
      -- then they are the same
      have s1 := (k.old e1 he1).1
      have s0 := h.ent (hmem e1 he1)
      have s2 := h.ent he
      obtain ⟨c, x⟩ := e
      obtain ⟨c1, x1⟩ := e1
      simp only at hb hb1; subst hb; subst hb1
      have : x1 = x := by have := s0.lt.1.symm.trans s2.lt.1; simpa using this
      subst this; exact s1
    · refine (h.ent he).of k.next fun b hb => k.keep b ?_ fun e1 he1 hb1 => h1 ⟨e1, he1, b, hb1, hb⟩
      have := h.ent he
      obtain ⟨c, x⟩ := e
      simp only at hb; subst hb
      exact this.lt.2
  refine ⟨Nat.le_trans h.next k.next, fun e he => ⟨hent e (List.mem_append_left _ he), (h.old e he).2⟩, fun e he => ?_, h.ndo, List.pairwise_append.2 ⟨k.ndl, h.ndl, fun a ha b hb e => ?_⟩, fun b hb ho => ?_⟩
  · rcases List.mem_append.1 he with he | he
    · exact ⟨(k.new e he).1, fun b hb => Nat.le_trans h.next ((k.new e he).2 b hb)⟩
    · exact ⟨hent e (List.mem_append_right _ he), (h.new e he).2⟩
  · obtain ⟨c, x⟩ := a
    cases c with
    | none => rfl
    | some n =>
      have h1 := (k.new _ ha).2 n rfl
      have h2 := (h.new _ hb).1
      obtain ⟨c', x'⟩ := b
      simp only at e; subst e
      have := h2.lt.2; omega
  · by_cases h1 : ∃ e1 ∈ o1, e1.1 = some b
    · obtain ⟨e1, he1, hb1⟩ := h1
      have s1 := (k.old e1 he1).1
      have s0 := h.ent (hmem e1 he1)
      obtain ⟨c1, x1⟩ := e1
      simp only at hb1; subst hb1
      rw [s1.lt.1, ← s0.lt.1]; exact h.keep b hb ho
    · rw [k.keep b (Nat.lt_of_lt_of_le hb h.next) fun e1 he1 hb1 => h1 ⟨e1, he1, hb1⟩]; exact h.keep b hb ho
/-- Behind a call that changed one block. -/
theorem Hp.callU {σ τ τ' : AHeap} {o l o1 o' l' l1 : SH} {b : Nat} {x y : ABlk} (h : Hp σ o l τ) (k : Hp τ ((some b, y) :: o1) l1 τ') (hmem : ∀ e ∈ o1, e ∈ o ++ l) (hu : Upd2 (some b) x (some b, y) o l o' l') : Hp σ o' (l1 ++ l') τ' := by
  -- first the block alone
  have h' := h.upd hu
  have hb := h.ent hu.mem
  have hbl := hb.lt
  have hb1 := (k.old _ (List.mem_cons_self ..)).1.lt
  have hk1 : ∀ e ∈ o1, e.1 ≠ some b := fun e he hc => by
    have := (List.pairwise_cons.1 k.ndo).1 e he (by simp [hc])
    cases this
  have k' : Hp (τ.set b y) ((some b, y) :: o1) l1 τ' := by
    refine ⟨k.next, k.old, k.new, k.ndo, k.ndl, fun c hc ho => ?_⟩
    have hcb : c ≠ b := fun e => ho _ (List.mem_cons_self ..) (by simp [e])
    rw [blk_ne hcb]; exact k.keep c hc ho
  refine h'.call k' fun e he => ?_
  have hyin : (some b, y) ∈ o' ++ l' := by
    cases hu with
    | new hu =>
      refine List.mem_append_right _ ?_
      clear h h' hb hbl hmem k k' hk1 he
      induction hu with
      | head => exact List.mem_cons_self ..
      | tail _ _ ih => exact List.mem_cons_of_mem _ ih
    | old hu =>
      refine List.mem_append_left _ ?_
      clear h h' hb hbl hmem k k' hk1 he
      induction hu with
      | head => exact List.mem_cons_self ..
      | tail _ _ ih => exact List.mem_cons_of_mem _ ih
  rcases List.mem_cons.1 he with rfl | he
  · exact hyin
  · have hm := hmem e he
    have key : ∀ {l l' : SH}, Upd (some b) x (some b, y) l l' → e ∈ l → e ∈ l' := fun hu hin => by
      induction hu with
      | head l =>
        rcases List.mem_cons.1 hin with rfl | hin
        · exact absurd rfl (hk1 _ he)
        · exact List.mem_cons_of_mem _ hin
      | tail e2 _ ih =>
        rcases List.mem_cons.1 hin with rfl | hin
        · exact List.mem_cons_self ..
        · exact List.mem_cons_of_mem _ (ih hin)
    cases hu with
    | new hu =>
      rcases List.mem_append.1 hm with hm | hm
      · exact List.mem_append_left _ hm
      · exact List.mem_append_right _ (key hu hm)
    | old hu =>
      rcases List.mem_append.1 hm with hm | hm
      · exact List.mem_append_left _ (key hu hm)
      · exact List.mem_append_right _ hm
/-- The bridge to contracts told with More and Gr. -/
theorem Hp.ofMore {τ τ' : AHeap} (k : More τ τ') : Hp τ [] [] τ' := ⟨k.next, fun e he => (by cases he), fun e he => (by cases he), .nil, .nil, fun b hb _ => k.blk b hb⟩
theorem Hp.more {σ τ : AHeap} {o l : SH} (h : Hp σ o l τ) (ho : Hp σ o [] σ) : More σ τ := by
  refine ⟨h.next, fun b hb => ?_⟩
  by_cases h1 : ∃ e ∈ o, e.1 = some b
  · obtain ⟨e, he, hb1⟩ := h1
    have s1 := (h.old e he).1
    have s0 := (ho.old e he).1
    obtain ⟨c1, x1⟩ := e
    simp only at hb1; subst hb1
    rw [s1.lt.1, s0.lt.1]
  · exact h.keep b hb fun e he hc => h1 ⟨e, he, hc⟩
theorem Hp.toMore {σ τ τ' : AHeap} {o l : SH} (h : Hp σ o l τ) (k : More τ τ') : Hp σ o l τ' := by
  have := h.call (Hp.ofMore k) (fun e he => by cases he); simpa using this
end Go.Abs

/- THE ABSTRACT MACHINE, part Zg: walks over heaps told as lists. -/
namespace Go.Abs
open Go

/-- What is left of a function, on any heap of which this is told. -/
def SGo (P : Program) (ro : Ro) (f : FuncId) (N : Nat) (todo : List Item) (R : Value → AHeap → Prop) (fr : Fr) (σ : AHeap) (o l : SH) : Prop := ∀ τ, Hp σ o l τ → AGo P ro f N todo R fr τ
def SReg (P : Program) (ro : Ro) (f : FuncId) (N : Nat) (gds : List (Option Tmp)) (L : List SOp) (k : List Item) (R : Value → AHeap → Prop) (fr : Fr) (σ : AHeap) (o l : SH) : Prop := ∀ τ, Hp σ o l τ → AReg P ro f N gds L k R fr τ
/-- What is left of a drawn region; U: the operations whose own blocks are laid. -/
def SDW (P : Program) (N : Nat) (gds : List (Option Tmp)) (L : List SOp) (K : Fr → AHeap → Prop) (S : List Stage) (Af : List Nat) (fr : Fr) (σ : AHeap) (o l : SH) (n : Nat) (U : List Nat) : Prop :=
  ∀ (base : Nat) (τ : AHeap), Hp σ o l τ → σ.next ≤ base → base + n ≤ τ.next → (∀ i, i < n → i ∉ U → ∀ e ∈ l, e.1 ≠ some (base + i)) → DW P N gds L base K S Af fr τ
/-- What is handed back: the value and what is made. -/
def SRet (σ : AHeap) (o : SH) (Q : Value → SH → Prop) : Value → AHeap → Prop := fun v τ => ∃ l, Hp σ o l τ ∧ Q v l
/-- A contract: nothing of what is found is changed. -/
def SC (P : Program) (g : FuncId) (vs : List Value) (o : SH) (Q : Value → SH → Prop) : Prop := ∀ σ, Hp σ o [] σ → ACalls P g vs σ (SRet σ o Q)
/-- A contract: the block of the first entry is changed. -/
def SCU (P : Program) (g : FuncId) (vs : List Value) (b : Nat) (x : ABlk) (o : SH) (Q : Value → ABlk → SH → Prop) : Prop :=
  ∀ σ, Hp σ ((some b, x) :: o) [] σ → ACalls P g vs σ fun v τ => ∃ y l, Hp σ ((some b, y) :: o) l τ ∧ Q v y l

/-- What an operation that only reads comes to. -/
structure SX (P : Program) (σ : AHeap) (o l : SH) (fr : Fr) (op : Op) (v : Value) : Prop where
  ex : ∀ τ id, Hp σ o l τ → EX P τ id fr op v τ
theorem sx_of {P : Program} {σ : AHeap} {o l : SH} {fr : Fr} {op : Op} {v : Value} (h : ∀ τ id, EX P τ id fr op v τ) : SX P σ o l fr op v := ⟨fun τ id _ => h τ id⟩
/-- What lies at a place. -/
structure SLd (P : Program) (o l : SH) (t : TypeId) (p v : Value) : Prop where
  ld : ∀ σ τ, Hp σ o l τ → aload P τ t p = some v
theorem sx_load {P : Program} {σ : AHeap} {o l : SH} {fr : Fr} {t : TypeId} {x : Operand} {p v : Value} (hx : aeval fr x = some p) (h : SLd P o l t p v) : SX P σ o l fr (.load t x) v :=
  ⟨fun τ id hp => ex_load hx (h.ld σ τ hp)⟩
/-- A block is among those that are told: found by the search for instances. -/
class SMem (b : Option Nat) (x : outParam ABlk) (l : SH) : Prop where
  mem : (b, x) ∈ l
instance SMem.head (b : Option Nat) (x : ABlk) (l : SH) : SMem b x ((b, x) :: l) := ⟨List.mem_cons_self ..⟩
instance (priority := low) SMem.tail (b : Option Nat) (x : ABlk) (e : Option Nat × ABlk) (l : SH) [h : SMem b x l] : SMem b x (e :: l) := ⟨List.mem_cons_of_mem _ h.mem⟩
class SIn (b : Option Nat) (x : outParam ABlk) (o l : SH) : Prop where
  mem : (b, x) ∈ o ++ l
instance SIn.new (b : Option Nat) (x : ABlk) (o l : SH) [h : SMem b x l] : SIn b x o l := ⟨List.mem_append_right _ h.mem⟩
instance (priority := low) SIn.old (b : Option Nat) (x : ABlk) (o l : SH) [h : SMem b x o] : SIn b x o l := ⟨List.mem_append_left _ h.mem⟩
theorem SIn.blk {b : Nat} {x : ABlk} {o l : SH} (h : SIn (some b) x o l) {σ τ : AHeap} (hp : Hp σ o l τ) : τ.blk b = some x := (hp.ent h.mem).lt.1
theorem sld_cell {P : Program} {o l : SH} {b off : Nat} {cs : List Value} {e : TypeId} {rw : Bool} {t : TypeId} {T : ATy} {v : Value} [hb : SIn (some b) (.cells cs e rw) o l] (ht : ty P t = some T) (ha : T.agg = false) (hv : cs[off]? = some v) : SLd P o l t (.pointer (some ⟨b, off, none⟩)) v :=
  ⟨fun _ _ hp => aload_cell (hb.blk hp) ht ha hv⟩
theorem sld_agg {P : Program} {o l : SH} {b off : Nat} {cs : List Value} {e : TypeId} {rw : Bool} {t : TypeId} {T : ATy} [hb : SIn (some b) (.cells cs e rw) o l] (ht : ty P t = some T) (ha : T.agg = true) (hl : off + T.size ≤ cs.length) : SLd P o l t (.pointer (some ⟨b, off, none⟩)) (.agg ((cs.drop off).take T.size).toArray) :=
  ⟨fun _ _ hp => aload_agg (hb.blk hp) ht ha hl⟩
/-- The whole of a block. -/
theorem sld_all {P : Program} {o l : SH} {b : Nat} {cs : List Value} {e : TypeId} {rw : Bool} {t : TypeId} {T : ATy} [hb : SIn (some b) (.cells cs e rw) o l] (ht : ty P t = some T) (ha : T.agg = true) (hl : cs.length = T.size) : SLd P o l t (.pointer (some ⟨b, 0, none⟩)) (.agg cs.toArray) :=
  ⟨fun _ _ hp => by rw [aload_agg (hb.blk hp) ht ha (by omega)]; simp [← hl]⟩
/-- Elements that are numbers, bools. -/
theorem sld_at {P : Program} {o l : SH} {α : Type} {g : α → Value} {b i : Nat} {zs : List α} {e : TypeId} {rw : Bool} {t : TypeId} {T : ATy} (d : α) [hb : SIn (some b) (.cells (zs.map g) e rw) o l] (ht : ty P t = some T) (ha : T.agg = false) (h1 : T.size = 1) (hi : i < zs.length) : SLd P o l t (.pointer (some ⟨b, 0 + i * 1, none⟩)) (g (zs.getD i d)) :=
  sld_cell (hb := hb) ht ha (by rw [Nat.zero_add, Nat.mul_one, List.getElem?_map, List.getElem?_eq_getElem hi, List.getD_eq_getElem?_getD, List.getElem?_eq_getElem hi]; rfl)

/-- A slice of a block; without a block: the nil slice. -/
def gv (c : Option Nat) (off n cap : Nat) : Value := match c with
  | some b => .slice (some ⟨b, off, none⟩) n cap
  | none => .slice none 0 0
/-- A slice that is full. -/
abbrev sv (c : Option Nat) (n : Nat) : Value := gv c 0 n n
theorem ex_lenV {P : Program} {σ : AHeap} {id : Nat} {fr : Fr} {x : Operand} {t : TypeId} {c : Option Nat} {n : Nat} {e : TypeId} {s b : Nat} {z : Option Value} (hx : aeval fr x = some (sv c n)) (hc : c = none → n = 0) (ht : ty P t = some ⟨.slice e, s, b, z⟩) : EX P σ id fr (.call { callee := .builtin .len, args := #[x], argTypes := #[t] }) (.int .i64 n) σ := by
  cases c with
  | some b => exact ex_len hx ht
  | none => rw [hc rfl]; exact ex_len hx ht
theorem sx_lenV {P : Program} {σ : AHeap} {o l : SH} {fr : Fr} {x : Operand} {t : TypeId} {c : Option Nat} {n : Nat} {cs : List Value} {e' : TypeId} {rw : Bool} {e : TypeId} {s b : Nat} {z : Option Value} {m : Nat} (hx : aeval fr x = some (sv c n)) [hm : SIn c (.cells cs e' rw) o l] (hn : cs = [] → n = 0) (ht : ty P t = some ⟨.slice e, s, b, z⟩) : SX P σ o l fr (.call { callee := .builtin .len, args := #[x], argTypes := #[t] }) (.int .i64 n) :=
  ⟨fun τ id hp => ex_lenV hx (fun hc => by subst hc; have := hp.ent hm.mem; obtain ⟨t, rw, h⟩ := this; cases h; exact hn rfl) ht⟩

section
variable {P : Program} {ro : Ro} {f : FuncId} {N : Nat} {R : Value → AHeap → Prop} {k : List Item} {gds : List (Option Tmp)} {r : List SOp} {fr : Fr} {σ : AHeap} {o l : SH}
/-! ### What is left to do -/
theorem SGo.of {todo : List Item} (h : ∀ τ, AGo P ro f N todo R fr τ) : SGo P ro f N todo R fr σ o l := fun τ _ => h τ
theorem SGo.skip (h : SGo P ro f N k R fr σ o l) : SGo P ro f N (.code .skip :: k) R fr σ o l := fun τ hτ => AGo.skip (h τ hτ)
theorem SGo.label {i : Nat} (h : SGo P ro f N k R fr σ o l) : SGo P ro f N (.code (.label i) :: k) R fr σ o l := fun τ hτ => AGo.label (h τ hτ)
theorem SGo.inBlock {i : Nat} (h : SGo P ro f N k R fr σ o l) : SGo P ro f N (.inBlock i :: k) R fr σ o l := fun τ hτ => AGo.inBlock (h τ hτ)
theorem SGo.inScope {c : Code} (h : SGo P ro f N k R fr σ o l) : SGo P ro f N (.inScope c :: k) R fr σ o l := fun τ hτ => AGo.inScope (h τ hτ)
theorem SGo.seq {x y : Code} (h : SGo P ro f N (.code x :: .code y :: k) R fr σ o l) : SGo P ro f N (.code (.seq x y) :: k) R fr σ o l := fun τ hτ => AGo.seq (h τ hτ)
theorem SGo.block {i : Nat} {c : Code} (h : SGo P ro f N (.code c :: .inBlock i :: k) R fr σ o l) : SGo P ro f N (.code (.block i c) :: k) R fr σ o l := fun τ hτ => AGo.block (h τ hτ)
theorem SGo.scope {c : Code} (h : SGo P ro f N (.code c :: .inScope c :: k) R fr σ o l) : SGo P ro f N (.code (.scope c) :: k) R fr σ o l := fun τ hτ => AGo.scope (h τ hτ)
theorem SGo.exit {i : Nat} {k' : List Item} (hk : exitTo i k = some k') (h : SGo P ro f N k' R fr σ o l) : SGo P ro f N (.code (.exit i) :: k) R fr σ o l := fun τ hτ => AGo.exit hk (h τ hτ)
theorem SGo.gotoL {i : Nat} {k' : List Item} (hk : gotoIn i k = some k') (h : SGo P ro f N k' R fr σ o l) : SGo P ro f N (.code (.goto i) :: k) R fr σ o l := fun τ hτ => AGo.gotoL hk (h τ hτ)
theorem SGo.condT {c : Operand} {x y : Code} (hc : aeval fr c = some (.bool true)) (h : SGo P ro f N (.code x :: k) R fr σ o l) : SGo P ro f N (.code (.cond c x y) :: k) R fr σ o l := fun τ hτ => AGo.condT hc (h τ hτ)
theorem SGo.condF {c : Operand} {x y : Code} (hc : aeval fr c = some (.bool false)) (h : SGo P ro f N (.code y :: k) R fr σ o l) : SGo P ro f N (.code (.cond c x y) :: k) R fr σ o l := fun τ hτ => AGo.condF hc (h τ hτ)
theorem SGo.condD {c : Operand} {x y : Code} {p : Prop} [Decidable p] (hc : aeval fr c = some (.bool (decide p))) (hT : p → SGo P ro f N (.code x :: k) R fr σ o l) (hF : ¬p → SGo P ro f N (.code y :: k) R fr σ o l) : SGo P ro f N (.code (.cond c x y) :: k) R fr σ o l :=
  fun τ hτ => AGo.condD hc (fun h => hT h τ hτ) (fun h => hF h τ hτ)
theorem SGo.condB {c : Operand} {x y : Code} {b : Bool} (hc : aeval fr c = some (.bool b)) (hT : b = true → SGo P ro f N (.code x :: k) R fr σ o l) (hF : b = false → SGo P ro f N (.code y :: k) R fr σ o l) : SGo P ro f N (.code (.cond c x y) :: k) R fr σ o l :=
  fun τ hτ => AGo.condB hc (fun h => hT h τ hτ) (fun h => hF h τ hτ)
theorem SGo.reg {i : Nat} {ops : List Oper} (h : SReg P ro f N (ops.map (·.dst)) (ops.map slim) k R fr σ o l) : SGo P ro f N (.code (.region i ops.toArray false) :: k) R fr σ o l := fun τ hτ => AGo.reg (h τ hτ)
theorem SGo.has {todo : List Item} {F : Fr} (hF : Has F fr) (h : SGo P ro f N todo R F σ o l) : SGo P ro f N todo R fr σ o l := fun τ hτ => AGo.has hF (h τ hτ)
theorem SGo.less {todo : List Item} {l' : SH} (hs : l'.Sublist l) (h : SGo P ro f N todo R fr σ o l') : SGo P ro f N todo R fr σ o l := fun τ hτ => h τ (hτ.less hs)
theorem SGo.perm {todo : List Item} {l' : SH} (hs : l.Perm l') (h : SGo P ro f N todo R fr σ o l') : SGo P ro f N todo R fr σ o l := fun τ hτ => h τ (hτ.perm hs)
/-- Of an entry without a block, its list is empty; and that blocks are not the same. -/
theorem SGo.know {todo : List Item} {p : Prop} (hp : ∀ τ, Hp σ o l τ → p) (h : p → SGo P ro f N todo R fr σ o l) : SGo P ro f N todo R fr σ o l := fun τ hτ => h (hp τ hτ) τ hτ
theorem SReg.know {L : List SOp} {p : Prop} (hp : ∀ τ, Hp σ o l τ → p) (h : p → SReg P ro f N gds L k R fr σ o l) : SReg P ro f N gds L k R fr σ o l := fun τ hτ => h (hp τ hτ) τ hτ
theorem Hp.none_nil {τ : AHeap} {c : Option Nat} {cs : List Value} {e : TypeId} {rw : Bool} (h : Hp σ o l τ) [hm : SIn c (.cells cs e rw) o l] (hc : c = none) : cs = [] := by
  subst hc; obtain ⟨t, rw, h⟩ := h.ent hm.mem; cases h; rfl
/-- Both ways of a condition, which come together: J tells the frame and the heap there. -/
theorem SGo.condJ {c : Operand} {x y : Code} {b : Bool} (J : Fr → SH → SH → Prop) (hc : aeval fr c = some (.bool b))
    (hT : b = true → (∀ fr' o' l', J fr' o' l' → SGo P ro f N k R fr' σ o' l') → SGo P ro f N (.code x :: k) R fr σ o l) (hF : b = false → (∀ fr' o' l', J fr' o' l' → SGo P ro f N k R fr' σ o' l') → SGo P ro f N (.code y :: k) R fr σ o l)
    (hk : ∀ fr' o' l', J fr' o' l' → SGo P ro f N k R fr' σ o' l') : SGo P ro f N (.code (.cond c x y) :: k) R fr σ o l := by
  cases b with
  | true => exact SGo.condT hc (hT rfl hk)
  | false => exact SGo.condF hc (hF rfl hk)
theorem SGo.inLoop {c : Code} (h : SGo P ro f N (.code c :: .inLoop c :: k) R fr σ o l) : SGo P ro f N (.inLoop c :: k) R fr σ o l := fun τ hτ => AGo.inLoop (h τ hτ)
theorem SGo.loop {c : Code} (h : SGo P ro f N (.inLoop c :: k) R fr σ o l) : SGo P ro f N (.code (.loop c) :: k) R fr σ o l := fun τ hτ => AGo.loop (h τ hτ)
/-- A LOOP. -/
theorem SGo.loopI {c : Code} {ι : Type} (F : ι → Fr) (O l0 : ι → SH) (I : ι → Prop) (μ : ι → Nat)
    (body : ∀ x, I x → (∀ y fr', μ y < μ x → I y → Has (F y) fr' → SGo P ro f N (.inLoop c :: k) R fr' σ (O y) (l0 y)) → SGo P ro f N (.code c :: .inLoop c :: k) R (F x) σ (O x) (l0 x))
    {x0 : ι} (h0 : I x0) (hF : Has (F x0) fr) (ho : O x0 = o) (hl : l0 x0 = l) : SGo P ro f N (.code (.loop c) :: k) R fr σ o l := by
  intro τ hτ
  refine AGo.loop (AGo.loopI F (fun x υ => I x ∧ Hp σ (O x) (l0 x) υ) μ (fun x υ ⟨hx, hH⟩ next => ?_) (x0 := x0) ⟨h0, by rw [ho, hl]; exact hτ⟩ hF)
  exact body x hx (fun y fr' hlt hy hF' υ' hH' => next y υ' fr' hlt ⟨hy, hH'⟩ hF') υ hH
/-- Returning. -/
theorem SGo.ret {ds : List Deferred} {fn : Func} {vs : List Value} (hfn : P.funcs[f]? = some fn) (h : ∀ τ, Hp σ o l τ → aresults P fr τ fn.results.toList = some vs) (hR : ∀ τ, Hp σ o l τ → R (packResults vs) τ) : SGo P ⟨none, ds⟩ f N (.code .ret :: k) R fr σ o l :=
  fun τ hτ => AGo.ret hfn (h τ hτ) (hR τ hτ)
theorem SGo.done {ds : List Deferred} {fn : Func} {vs : List Value} (hfn : P.funcs[f]? = some fn) (h : ∀ τ, Hp σ o l τ → aresults P fr τ fn.results.toList = some vs) (hR : ∀ τ, Hp σ o l τ → R (packResults vs) τ) : SGo P ⟨none, ds⟩ f N [] R fr σ o l :=
  fun τ hτ => AGo.done hfn (h τ hτ) (hR τ hτ)
/-! ### Operations -/
theorem SReg.nil (h : SGo P ro f N k R fr σ o l) : SReg P ro f N gds [] k R fr σ o l := fun τ hτ => AReg.nil (h τ hτ)
theorem SReg.has {L : List SOp} {F : Fr} (hF : Has F fr) (h : SReg P ro f N gds L k R F σ o l) : SReg P ro f N gds L k R fr σ o l := fun τ hτ => AReg.has hF.get (h τ hτ)
theorem SReg.val {d : Tmp} {op : Op} {v : Value} (hd : decide (d < N) = true) (h : SX P σ o l fr op v) (hgo : SReg P ro f N gds r k R ((d, v) :: fr) σ o l) : SReg P ro f N gds (⟨some d, op, none⟩ :: r) k R fr σ o l :=
  fun τ hτ => AReg.valE hd (h.ex _ _ (hτ.bump 1)) (hgo _ (hτ.bump 1))
theorem SReg.valG {d : Tmp} {op : Op} {g : Option (Nat × Bool)} {v : Value} (hd : decide (d < N) = true) (hw : awanted gds fr g = some true) (h : SX P σ o l fr op v) (hgo : SReg P ro f N gds r k R ((d, v) :: fr) σ o l) : SReg P ro f N gds (⟨some d, op, g⟩ :: r) k R fr σ o l :=
  fun τ hτ => AReg.valGE hd hw (h.ex _ _ (hτ.bump 1)) (hgo _ (hτ.bump 1))
theorem SReg.skipG {d : Tmp} {op : Op} {g : Option (Nat × Bool)} (hd : decide (d < N) = true) (hw : awanted gds fr g = some false) (hgo : SReg P ro f N gds r k R ((d, .tuple #[]) :: fr) σ o l) : SReg P ro f N gds (⟨some d, op, g⟩ :: r) k R fr σ o l :=
  fun τ hτ => AReg.skipG hd hw (hgo τ hτ)
/-- A new block. -/
theorem SReg.new (g : Nat → Value) (x : ABlk) {d : Tmp} {op : Op} (hd : decide (d < N) = true) (h : ∀ τ id, Hp σ o l τ → EX P τ id fr op (g id) (τ.set id x)) (hgo : ∀ C, SReg P ro f N gds r k R ((d, g C) :: fr) σ o ((some C, x) :: l)) : SReg P ro f N gds (⟨some d, op, none⟩ :: r) k R fr σ o l :=
  fun τ hτ => AReg.valE hd (h _ _ (hτ.bump 1)) (hgo τ.next _ (hτ.addN x))
theorem SReg.box {d : Tmp} {e : TypeId} {x : Operand} {v : Value} (hd : decide (d < N) = true) (hx : aeval fr x = some v) (hv : isTuple v = false) (he : (ty P e).isSome = true) (hgo : ∀ C, SReg P ro f N gds r k R ((d, .pointer (some ⟨C, 0, none⟩)) :: fr) σ o ((some C, .cells v.cells.toList e true) :: l)) : SReg P ro f N gds (⟨some d, .box e x, none⟩ :: r) k R fr σ o l :=
  SReg.new (fun id => .pointer (some ⟨id, 0, none⟩)) _ hd (fun τ id _ => ex_box hx hv he) hgo
theorem SReg.alloc {d : Tmp} {e : TypeId} {kk : AKind} {s b : Nat} {z : Value} (hd : decide (d < N) = true) (he : ty P e = some ⟨kk, s, b, some z⟩) (hz : closedV z = true) (hgo : ∀ C, SReg P ro f N gds r k R ((d, .pointer (some ⟨C, 0, none⟩)) :: fr) σ o ((some C, .cells z.cells.toList e true) :: l)) : SReg P ro f N gds (⟨some d, .alloc e, none⟩ :: r) k R fr σ o l :=
  SReg.new (fun id => .pointer (some ⟨id, 0, none⟩)) _ hd (fun τ id _ => ex_alloc he hz) hgo
theorem SReg.buildSlice {d : Tmp} {t : TypeId} {len : Nat} {ps : Array (Nat × Operand)} {qs : List (Nat × Value)} {cs : List Value} {e : TypeId} (hd : decide (d < N) = true) (hp : aparts fr ps.toList = some qs) (hb : ∀ τ id, abuildSlice P τ id t len qs = some (.slice (some ⟨id, 0, none⟩) len len, τ.set id (.cells cs e true)))
    (hgo : ∀ C, SReg P ro f N gds r k R ((d, sv (some C) len) :: fr) σ o ((some C, .cells cs e true) :: l)) : SReg P ro f N gds (⟨some d, .buildSlice t len ps, none⟩ :: r) k R fr σ o l :=
  SReg.new (fun id => sv (some id) len) _ hd (fun τ id _ => ex_buildSlice hp (hb τ id)) hgo
theorem SReg.makeSlice {d : Tmp} {t : TypeId} {x y : Operand} {lv cv : Value} {n : Nat} {cs : List Value} {e : TypeId} (hd : decide (d < N) = true) (hx : aeval fr x = some lv) (hy : aeval fr y = some cv) (hb : ∀ τ id, amakeSlice P τ id t lv cv = some (.slice (some ⟨id, 0, none⟩) n n, τ.set id (.cells cs e true)))
    (hgo : ∀ C, SReg P ro f N gds r k R ((d, sv (some C) n) :: fr) σ o ((some C, .cells cs e true) :: l)) : SReg P ro f N gds (⟨some d, .makeSlice t x y, none⟩ :: r) k R fr σ o l :=
  SReg.new (fun id => sv (some id) n) _ hd (fun τ id _ => ex_makeSlice hx hy (hb τ id)) hgo
/-- A block is written. -/
theorem SReg.store {o' l' : SH} {x y : Operand} {t : TypeId} {T : ATy} {b off : Nat} {v : Value} {cs : List Value} {e : TypeId} (hx : aeval fr x = some (.pointer (some ⟨b, off, none⟩))) (hy : aeval fr y = some v) (hu : Upd2 (some b) (.cells cs e true) (some b, .cells (setRange cs off v.cells.toList) e true) o l o' l') (ht : ty P t = some T) (hv : v.cells.size = T.size) (hl : off + T.size ≤ cs.length) (hn : isTuple v = false)
    (hgo : SReg P ro f N gds r k R fr σ o' l') : SReg P ro f N gds (⟨none, .store t x y, none⟩ :: r) k R fr σ o l :=
  fun τ hτ => AReg.store hx hy (astore_to ((hτ.bump 1).ent hu.mem).lt.1 ht hv hl hn) (hgo _ ((hτ.bump 1).upd hu))
/-- A call. -/
theorem SReg.go {d : Tmp} {op : Op} {g : FuncId} {vs : List Value} {o1 : SH} {Q : Value → SH → Prop} (hc : SC P g vs o1 Q) (hd : decide (d < N) = true) (ha : acallee fr op = some (g, vs)) (hb : hasBody P g = true) (hs : ∃ m : SH, m.Perm o1 ∧ m.Sublist (o ++ l)) (hgo : ∀ v l1, Q v l1 → SReg P ro f N gds r k R ((d, v) :: fr) σ o (l1 ++ l)) : SReg P ro f N gds (⟨some d, op, none⟩ :: r) k R fr σ o l :=
  fun τ hτ => AReg.go hd ha hb ((hc τ (hτ.enter hs)).mono fun v τ' ⟨l1, h1, h2⟩ => hgo v l1 h2 τ' (hτ.call h1 fun e he => let ⟨m, hm, hsub⟩ := hs; hsub.subset (hm.mem_iff.2 he)))
theorem SReg.goM {d : Tmp} {op : Op} {g : FuncId} {vs : List Value} {Q : Value → Prop} (hc : ∀ τ, ACalls P g vs τ fun v τ' => Q v ∧ More τ τ') (hd : decide (d < N) = true) (ha : acallee fr op = some (g, vs)) (hb : hasBody P g = true) (hgo : ∀ v, Q v → SReg P ro f N gds r k R ((d, v) :: fr) σ o l) : SReg P ro f N gds (⟨some d, op, none⟩ :: r) k R fr σ o l :=
  fun τ hτ => AReg.go hd ha hb ((hc τ).mono fun v τ' ⟨h1, h2⟩ => hgo v h1 τ' (hτ.toMore h2))
theorem SReg.goU {d : Tmp} {op : Op} {g : FuncId} {vs : List Value} {b : Nat} {x : ABlk} {o1 : SH} {Q : Value → ABlk → SH → Prop} (hc : SCU P g vs b x o1 Q) (hd : decide (d < N) = true) (ha : acallee fr op = some (g, vs)) (hb : hasBody P g = true) (hs : ∃ m : SH, m.Perm ((some b, x) :: o1) ∧ m.Sublist (o ++ l))
    (hgo : ∀ v y l1, Q v y l1 → ∃ o' l', Upd2 (some b) x (some b, y) o l o' l' ∧ SReg P ro f N gds r k R ((d, v) :: fr) σ o' (l1 ++ l')) : SReg P ro f N gds (⟨some d, op, none⟩ :: r) k R fr σ o l :=
  fun τ hτ => AReg.go hd ha hb ((hc τ (hτ.enter hs)).mono fun v τ' ⟨y, l1, h1, h2⟩ => let ⟨_, _, hu, hg⟩ := hgo v y l1 h2; hg τ' (hτ.callU h1 (fun e he => let ⟨m, hm, hsub⟩ := hs; hsub.subset (hm.mem_iff.2 (List.mem_cons_of_mem _ he))) hu))
end
/-! ### Contracts -/
theorem SC.enter {P : Program} {g : FuncId} {vs : List Value} {o : SH} {Q : Value → SH → Prop} {fn : Func} {c : Code} (hfn : P.funcs[g]? = some fn) (hc : fn.body = some c) (hn : vs.length ≤ fn.ntmps) (h : ∀ σ, Hp σ o [] σ → SGo P .top g fn.ntmps [.code c] (SRet σ o Q) (aenter 0 vs) σ o []) : SC P g vs o Q :=
  fun σ hσ => ACalls.enter hfn hc hn (h σ hσ σ hσ)
theorem SCU.enter {P : Program} {g : FuncId} {vs : List Value} {b : Nat} {x : ABlk} {o : SH} {Q : Value → ABlk → SH → Prop} {fn : Func} {c : Code} (hfn : P.funcs[g]? = some fn) (hc : fn.body = some c) (hn : vs.length ≤ fn.ntmps) (h : ∀ σ, Hp σ ((some b, x) :: o) [] σ → SGo P .top g fn.ntmps [.code c] (fun v τ => ∃ y l, Hp σ ((some b, y) :: o) l τ ∧ Q v y l) (aenter 0 vs) σ ((some b, x) :: o) []) : SCU P g vs b x o Q :=
  fun σ hσ => ACalls.enter hfn hc hn (h σ hσ σ hσ)
theorem SC.mono {P : Program} {g : FuncId} {vs : List Value} {o : SH} {Q Q' : Value → SH → Prop} (h : SC P g vs o Q) (hq : ∀ v l, Q v l → Q' v l) : SC P g vs o Q' := fun σ hσ => (h σ hσ).mono fun v τ ⟨l, h1, h2⟩ => ⟨l, h1, hq v l h2⟩
/-- Handed back, what is not needed is left out. -/
theorem SRet.mk {σ τ : AHeap} {o l l' : SH} {Q : Value → SH → Prop} {v : Value} (h : Hp σ o l τ) (hs : l'.Sublist l) (hq : Q v l') : SRet σ o Q v τ := ⟨l', h.less hs, hq⟩
end Go.Abs

/- THE ABSTRACT MACHINE, part Zh: slices, append, drawn regions over heaps told as lists. -/
namespace Go.Abs
open Go

theorem sv_gv (c : Option Nat) (n : Nat) : sv c n = gv c 0 n n := rfl

theorem Upd.same {c : Option Nat} {x : ABlk} {l l' : SH} (h : Upd c x (c, x) l l') : l' = l := by
  generalize hy : (c, x) = y at h
  induction h with
  | head => rw [hy]
  | tail e _ ih => rw [ih]

theorem append_core {P : Program} {σ τ : AHeap} {o l : SH} {L : Option Nat → SH} {id tS tX e sz bb s bytes n m : Nat} {ke : AKind} {zz : Option Value} {z x : Value} {c : Option Nat} {cs news : List Value}
    (ht : ty P tS = some ⟨.slice e, sz, bb, zz⟩) (he : ty P e = some ⟨ke, s, bytes, some z⟩) (hz : z.cells.size = s) (hsrc : asrc P τ tX s z x = some (m, news)) (hnl : news.length = m * s) (hcl : cs.length = n * s) (hs : 1 ≤ s)
    (hb1 : (n + m) * bytes ≤ 140737488355328) (hb2 : n + m ≤ 9223372036854775807) (h : Hp σ o l τ) (h1 : σ.next ≤ id) (h2 : id < τ.next) (h3 : ∀ e ∈ l, e.1 ≠ some id) (hu : ∀ c', Upd c (.cells cs e true) (c', .cells (cs ++ news) e true) l (L c')) :
    ∃ c' τ', aappend P τ id tS tX (sv c n) x = some (sv c' (n + m), τ') ∧ Hp σ o (L c') τ' ∧ τ'.next = τ.next ∧ (c' = c ∨ c' = some id) := by
  cases c with
  | none =>
    have hcs : cs = [] := by
      obtain ⟨t, rw, h0⟩ := (h.new _ (hu none).mem).1; cases h0; rfl
    subst hcs
    have hn : n = 0 := by
      rcases Nat.mul_eq_zero.1 hcl.symm with h0 | h0
      · exact h0
      · omega
    subst hn
    by_cases hm : m = 0
    · subst hm
      have : news = [] := List.length_eq_zero_iff.1 (by simpa using hnl)
      subst this
      refine ⟨none, τ, ?_, ?_, rfl, .inl rfl⟩
      · simp only [aappend, ht, he, hz, if_true, hsrc, sv, gv]
      · have := hu none
        rw [List.append_nil] at this
        rw [this.same]; exact h
    · refine ⟨some id, τ.set id (.cells news e true), ?_, ?_, rfl, .inr rfl⟩
      · simp only [aappend, ht, he, hz, if_true, hsrc, sv, gv]
        rw [if_neg hm, if_pos ⟨by simpa using hb1, by omega⟩]
        simp
      · refine h.grow (hu (some id)) h1 h2 h3 _ rfl (by simp [blk_set]) fun b hb _ => blk_ne hb
  | some b =>
    have hblk : τ.blk b = some (.cells cs e true) := (h.new _ (hu none).mem).1.lt.1
    by_cases hm : m = 0
    · subst hm
      have : news = [] := List.length_eq_zero_iff.1 (by simpa using hnl)
      subst this
      refine ⟨some b, τ.set b (.cells cs e true), ?_, ?_, rfl, .inl rfl⟩
      · simp only [aappend, ht, he, hz, if_true, hsrc, sv, gv, hblk, Nat.add_zero, Nat.le_refl]
        rw [if_pos (by rw [hcl]; simp)]
        rfl
      · have hu' := hu (some b)
        rw [List.append_nil] at hu'
        have hs := h.upd (.new (o := o) hu')
        exact hs
    · refine ⟨some id, (τ.del b).set id (.cells (cs ++ news) e true), ?_, ?_, rfl, .inr rfl⟩
      · simp only [aappend, ht, he, hz, if_true, hsrc, sv, gv, hblk]
        rw [if_neg (by omega), if_pos ⟨trivial, hcl.symm, hb1, hb2⟩]
      · refine h.grow (hu (some id)) h1 h2 h3 _ rfl (blk_set _ _ _) fun d hd hdb => ?_
        rw [blk_ne hd, AHeap.del_blk, if_neg fun e' => hdb (by rw [e'])]

theorem ex_append {P : Program} {fr : Fr} {σ σ' : AHeap} {id : Nat} {ar : Array Operand} {t u : TypeId} {d x v : Value} (hx : aevals fr ar.toList = some [d, x]) (hc : aappend P σ id t u d x = some (v, σ')) : EX P σ id fr (.call { callee := .builtin .append, args := ar, argTypes := #[t, u] }) v σ' :=
  ex_call hx (by simp only [abuiltin]; exact hc)
/-- The source of an append: a slice of elements. -/
theorem asrc_gv {P : Program} {σ τ : AHeap} {o l : SH} {tX e e' sz bb s off n cap : Nat} {zz : Option Value} {z : Value} {c : Option Nat} {cs : List Value} {rw : Bool} (h : Hp σ o l τ) (ht : ty P tX = some ⟨.slice e, sz, bb, zz⟩) [hm : SIn c (.cells cs e' rw) o l] (hl : off + n * s ≤ cs.length) (hs : 1 ≤ s) :
    asrc P τ tX s z (gv c off n cap) = some (n, (cs.drop off).take (n * s)) := by
  cases c with
  | none =>
    have := h.none_nil (hm := hm) rfl
    subst this
    have : n = 0 := by
      have h0 : n * s = 0 := by simp only [List.length_nil] at hl; omega
      rcases Nat.mul_eq_zero.1 h0 with h | h
      · exact h
      · omega
    subst this
    simp [asrc, gv, tk, ht]
  | some b => simp only [asrc, gv, tk, ht, hm.blk h]; rw [if_pos hl]
theorem asrc_sv {P : Program} {σ τ : AHeap} {o l : SH} {tX e e' sz bb s n : Nat} {zz : Option Value} {z : Value} {c : Option Nat} {cs : List Value} {rw : Bool} (h : Hp σ o l τ) (ht : ty P tX = some ⟨.slice e, sz, bb, zz⟩) [hm : SIn c (.cells cs e' rw) o l] (hl : cs.length = n * s) (hs : 1 ≤ s) :
    asrc P τ tX s z (sv c n) = some (n, cs) := by
  rw [sv_gv, asrc_gv (hm := hm) h ht (by omega) hs]; simp [← hl]

section
variable {P : Program} {ro : Ro} {f : FuncId} {N : Nat} {R : Value → AHeap → Prop} {k : List Item} {gds : List (Option Tmp)} {r : List SOp} {fr : Fr} {σ : AHeap} {o l : SH}
/-- append -/
theorem SReg.append {d : Tmp} {ar : Array Operand} {L : Option Nat → SH} {tS tX e sz bb s bytes n m : Nat} {ke : AKind} {zz : Option Value} {z x : Value} {c : Option Nat} {cs news : List Value} (hd : decide (d < N) = true) (hx : aevals fr ar.toList = some [sv c n, x])
    (hu : ∀ c', Upd c (.cells cs e true) (c', .cells (cs ++ news) e true) l (L c')) (ht : ty P tS = some ⟨.slice e, sz, bb, zz⟩) (he : ty P e = some ⟨ke, s, bytes, some z⟩) (hz : z.cells.size = s) (hsrc : ∀ τ, Hp σ o l τ → asrc P τ tX s z x = some (m, news)) (hnl : news.length = m * s) (hcl : cs.length = n * s) (hs : 1 ≤ s)
    (hb1 : (n + m) * bytes ≤ 140737488355328) (hb2 : n + m ≤ 9223372036854775807) (hgo : ∀ c', SReg P ro f N gds r k R ((d, sv c' (n + m)) :: fr) σ o (L c')) : SReg P ro f N gds (⟨some d, .call { callee := .builtin .append, args := ar, argTypes := #[tS, tX] }, none⟩ :: r) k R fr σ o l := by
  intro τ hτ
  obtain ⟨c', τ', h1, h2, _, _⟩ := append_core ht he hz (hsrc _ (hτ.bump 1)) hnl hcl hs hb1 hb2 (hτ.bump 1) (id := τ.next) hτ.next (by simp) hτ.fresh hu
  exact AReg.valE hd (ex_append hx h1) (hgo c' τ' h2)
/-- The place of an element. -/
theorem SReg.idx {d : Tmp} {x y : Operand} {t : TypeId} {c : Option Nat} {off n cap j : Nat} {i : Int} {kd : IntKind} {e : TypeId} {s bt : Nat} {z : Option Value} {E : ATy} {cs : List Value} {e' : TypeId} {rw : Bool} (hd : decide (d < N) = true) (hx : aeval fr x = some (gv c off n cap)) (hy : aeval fr y = some (.int kd i)) (ht : ty P t = some ⟨.slice e, s, bt, z⟩) (he : ty P e = some E) (hi : i = (j : Int)) (hj : j < n) [hm : SIn c (.cells cs e' rw) o l] (hn : cs = [] → n = 0)
    (hgo : ∀ b, c = some b → SReg P ro f N gds r k R ((d, .pointer (some ⟨b, off + j * E.size, none⟩)) :: fr) σ o l) : SReg P ro f N gds (⟨some d, .indexAddr t x y, none⟩ :: r) k R fr σ o l := by
  intro τ hτ
  cases c with
  | none => have := hn (hτ.none_nil (hm := hm) rfl); omega
  | some b => exact SReg.val hd (sx_of fun _ _ => ex_idxI hx hy ht he hi hj) (hgo b rfl) τ hτ
theorem SReg.idxG {d : Tmp} {g : Option (Nat × Bool)} {x y : Operand} {t : TypeId} {c : Option Nat} {off n cap j : Nat} {i : Int} {kd : IntKind} {e : TypeId} {s bt : Nat} {z : Option Value} {E : ATy} {cs : List Value} {e' : TypeId} {rw : Bool} (hd : decide (d < N) = true) (hw : awanted gds fr g = some true) (hx : aeval fr x = some (gv c off n cap)) (hy : aeval fr y = some (.int kd i)) (ht : ty P t = some ⟨.slice e, s, bt, z⟩) (he : ty P e = some E) (hi : i = (j : Int)) (hj : j < n) [hm : SIn c (.cells cs e' rw) o l] (hn : cs = [] → n = 0)
    (hgo : ∀ b, c = some b → SReg P ro f N gds r k R ((d, .pointer (some ⟨b, off + j * E.size, none⟩)) :: fr) σ o l) : SReg P ro f N gds (⟨some d, .indexAddr t x y, g⟩ :: r) k R fr σ o l := by
  intro τ hτ
  cases c with
  | none => have := hn (hτ.none_nil (hm := hm) rfl); omega
  | some b => exact SReg.valG hd hw (sx_of fun _ _ => ex_idxI hx hy ht he hi hj) (hgo b rfl) τ hτ
end

/-- A part of a slice. -/
theorem aslice2_gv {P : Program} {σ τ : AHeap} {o l : SH} {t e e' sz bb off n cap a b' : Nat} {zz : Option Value} {E : ATy} {c : Option Nat} {cs : List Value} {rw : Bool} {lo hi : Option Value} (h : Hp σ o l τ) (ht : ty P t = some ⟨.slice e, sz, bb, zz⟩) (he : ty P e = some E) (hee : tsz P e' = some E.size) [hm : SIn c (.cells cs e' rw) o l] (hn : cs = [] → cap = 0)
    (hh : abound n cap hi = some b') (hl : abound 0 b' lo = some a) (hac : a < cap ∨ a = 0) (hbc : b' ≤ cap) (hnc : n ≤ cap) : aslice2 P τ t (gv c off n cap) lo hi = some (gv c (off + a * E.size) (b' - a) (cap - a)) := by
  cases c with
  | none =>
    have hc := hn (h.none_nil (hm := hm) rfl)
    subst hc
    have hb0 : b' = 0 := by omega
    have ha0 : a = 0 := by omega
    have hn0 : n = 0 := by omega
    subst hb0; subst ha0; subst hn0
    simp only [gv, aslice2, aslice, ht, he, hh, hl]
  | some b =>
    simp only [gv, aslice2, ht, he, hm.blk h, hee, if_true, hh, hl]
    rw [if_pos hac]
theorem sx_slice {P : Program} {σ : AHeap} {o l : SH} {fr : Fr} {x : Operand} {lo hi : Option Operand} {lv hv : Option Value} {t e e' sz bb off n cap a b' : Nat} {zz : Option Value} {E : ATy} {c : Option Nat} {cs : List Value} {rw : Bool} (hx : aeval fr x = some (gv c off n cap)) (hlo : aevalO fr lo = some lv) (hhi : aevalO fr hi = some hv) (ht : ty P t = some ⟨.slice e, sz, bb, zz⟩) (he : ty P e = some E) (hee : tsz P e' = some E.size) [hm : SIn c (.cells cs e' rw) o l] (hn : cs = [] → cap = 0)
    (hh : abound n cap hv = some b') (hl : abound 0 b' lv = some a) (hac : a < cap ∨ a = 0) (hbc : b' ≤ cap) (hnc : n ≤ cap) : SX P σ o l fr (.slice t x lo hi none) (gv c (off + a * E.size) (b' - a) (cap - a)) :=
  ⟨fun τ id h => ex_slice hx hlo hhi (aslice2_gv (hm := hm) h ht he hee hn hh hl hac hbc hnc)⟩
theorem abound_int {d top j : Nat} {kd : IntKind} {i : Int} (hi : i = (j : Int)) (hj : j ≤ top) : abound d top (some (.int kd i)) = some j := by subst hi; simp only [abound]; rw [if_pos ⟨by omega, by omega⟩]; simp
theorem abound_none (d top : Nat) : abound d top none = some d := rfl

theorem sx_lenG {P : Program} {σ : AHeap} {o l : SH} {fr : Fr} {x : Operand} {t : TypeId} {c : Option Nat} {off n cap : Nat} {cs : List Value} {e' : TypeId} {rw : Bool} {e : TypeId} {s b : Nat} {z : Option Value} (hx : aeval fr x = some (gv c off n cap)) (ht : ty P t = some ⟨.slice e, s, b, z⟩) [hm : SIn c (.cells cs e' rw) o l] (hn : cs = [] → n = 0) : SX P σ o l fr (.call { callee := .builtin .len, args := #[x], argTypes := #[t] }) (.int .i64 n) := by
  refine ⟨fun τ id hp => ?_⟩
  cases c with
  | some b => exact ex_len hx ht
  | none => rw [hn (hp.none_nil (hm := hm) rfl)]; exact ex_len hx ht

/-- A slice and its elements. -/
theorem hz_nil {α : Type} {cs : List Value} {off : Nat} {zs : List α} {g : α → Value} (hz : (cs.drop off).take zs.length = zs.map g) (h : cs = []) : zs.length = 0 := by
  subst h; simp at hz; rw [hz]; rfl
theorem hz_get {α : Type} {cs : List Value} {off j : Nat} {zs : List α} {g : α → Value} (d : α) (hz : (cs.drop off).take zs.length = zs.map g) (hj : j < zs.length) : cs[off + j]? = some (g (zs.getD j d)) := by
  have h := congrArg (fun l => l[j]?) hz
  simp only [List.getElem?_take, List.getElem?_drop, List.getElem?_map, hj, if_true] at h
  rw [h, List.getD_eq_getElem?_getD, List.getElem?_eq_getElem hj]; rfl
theorem hz_full {α : Type} (zs : List α) (g : α → Value) : ((zs.map g).drop 0).take zs.length = zs.map g := by rw [List.drop_zero, List.take_of_length_le (by simp)]
theorem sld_sub {P : Program} {o l : SH} {α : Type} {g : α → Value} {b off j : Nat} {cs : List Value} {zs : List α} {e : TypeId} {rw : Bool} {t : TypeId} {T : ATy} {d : α} (hz : (cs.drop off).take zs.length = zs.map g) [hb : SIn (some b) (.cells cs e rw) o l] (ht : ty P t = some T) (ha : T.agg = false) (h1 : T.size = 1) (hj : j < zs.length) : SLd P o l t (.pointer (some ⟨b, off + j * 1, none⟩)) (g (zs.getD j d)) :=
  sld_cell (hb := hb) ht ha (by rw [Nat.mul_one]; exact hz_get d hz hj)

/-- The nil slice may be told. -/
theorem Hp.nilE {σ τ : AHeap} {o l : SH} (h : Hp σ o l τ) (e : TypeId) (rw : Bool) : Hp σ o ((none, .cells [] e rw) :: l) τ :=
  ⟨h.next, h.old, fun x hx => by
    rcases List.mem_cons.1 hx with rfl | hx
    · exact ⟨⟨e, rw, rfl⟩, fun b hb => by cases hb⟩
    · exact h.new x hx, h.ndo, List.pairwise_cons.2 ⟨fun _ _ _ => rfl, h.ndl⟩, h.keep⟩
theorem SGo.nilE {P : Program} {ro : Ro} {f : FuncId} {N : Nat} {R : Value → AHeap → Prop} {todo : List Item} {fr : Fr} {σ : AHeap} {o l : SH} (e : TypeId) (rw : Bool) (h : SGo P ro f N todo R fr σ o ((none, .cells [] e rw) :: l)) : SGo P ro f N todo R fr σ o l := fun τ hτ => h τ (hτ.nilE e rw)
/-- Ways through a region that come together behind it. -/
theorem SReg.join {P : Program} {ro : Ro} {f : FuncId} {N : Nat} {R : Value → AHeap → Prop} {gds : List (Option Tmp)} {L : List SOp} {k : List Item} {fr : Fr} {σ : AHeap} {o l : SH} (J : Fr → Prop) (hk : ∀ fr', J fr' → SGo P ro f N k R fr' σ o l) (h : (∀ fr', J fr' → SGo P ro f N k R fr' σ o l) → SReg P ro f N gds L k R fr σ o l) : SReg P ro f N gds L k R fr σ o l := h hk
theorem SDW.join {P : Program} {ro : Ro} {f : FuncId} {N : Nat} {R : Value → AHeap → Prop} {gds : List (Option Tmp)} {L : List SOp} {k : List Item} {S : List Stage} {Af : List Nat} {fr : Fr} {σ : AHeap} {o l : SH} {n : Nat} {U : List Nat} (J : Fr → Prop) (hk : ∀ fr', J fr' → SGo P ro f N k R fr' σ o l) (h : (∀ fr', J fr' → SGo P ro f N k R fr' σ o l) → SDW P N gds L (fun fr τ => AGo P ro f N k R fr τ) S Af fr σ o l n U) : SDW P N gds L (fun fr τ => AGo P ro f N k R fr τ) S Af fr σ o l n U := h hk

/-! ### Drawn regions -/
section
variable {P : Program} {ro : Ro} {f : FuncId} {N : Nat} {R : Value → AHeap → Prop} {gds : List (Option Tmp)} {L : List SOp} {K : Fr → AHeap → Prop} {k : List Item} {S : List Stage} {Af A M : List Nat} {e : Nat} {fr : Fr} {σ : AHeap} {o l : SH} {n : Nat} {U : List Nat}
theorem SGo.draw {id : Nat} {ops : List Oper} (S : List Stage) (Af : List Nat) (hm : P.follows .mixedOrders = true) (hB : drawB ops.toArray S Af = true)
    (h : SDW P N (ops.map (·.dst)) (ops.map slim) (fun fr τ => AGo P ro f N k R fr τ) S Af fr σ o l ops.length []) : SGo P ro f N (.code (.region id ops.toArray true) :: k) R fr σ o l := by
  intro τ hτ
  refine AGo.drawW S Af hm hB (h τ.next _ (hτ.bump _) hτ.next (by simp) fun i _ _ e he hc => ?_)
  have := (hτ.new e he).1
  obtain ⟨c, x⟩ := e
  simp only at hc; subst hc
  have := this.lt.2
  omega
theorem SDW.read {i : Nat} {d : Tmp} {op : Op} {g : Option (Nat × Bool)} {v : Value} (ho : sget L i = some ⟨some d, op, g⟩) (hd : decide (d < N) = true) (hw : awanted gds fr g = some true) (hq : quietOp op = some true) (hx : SX P σ o l fr op v)
    (h : SDW P N gds L K ((A, e, M) :: S) Af ((d, v) :: fr) σ o l n U) : SDW P N gds L K ((i :: A, e, M) :: S) Af fr σ o l n U :=
  fun base τ hτ h1 h2 h3 => DW.readE ho hd hw hq (hx.ex _ _ hτ) (h base τ hτ h1 h2 h3)
theorem SDW.readL {i : Nat} {d : Tmp} {op : Op} {g : Option (Nat × Bool)} {v : Value} (ho : sget L i = some ⟨some d, op, g⟩) (hd : decide (d < N) = true) (hw : awanted gds fr g = some true) (hq : quietOp op = some true) (hx : SX P σ o l fr op v)
    (h : SDW P N gds L K [] Af ((d, v) :: fr) σ o l n U) : SDW P N gds L K [] (i :: Af) fr σ o l n U :=
  fun base τ hτ h1 h2 h3 => DW.readLE ho hd hw hq (hx.ex _ _ hτ) (h base τ hτ h1 h2 h3)
theorem SDW.skip {i : Nat} {d : Tmp} {op : Op} {g : Option (Nat × Bool)} (ho : sget L i = some ⟨some d, op, g⟩) (hd : decide (d < N) = true) (hw : awanted gds fr g = some false)
    (h : SDW P N gds L K ((A, e, M) :: S) Af ((d, .tuple #[]) :: fr) σ o l n U) : SDW P N gds L K ((i :: A, e, M) :: S) Af fr σ o l n U :=
  fun base τ hτ h1 h2 h3 => DW.skipE ho hd hw (h base τ hτ h1 h2 h3)
theorem SDW.skipL {i : Nat} {d : Tmp} {op : Op} {g : Option (Nat × Bool)} (ho : sget L i = some ⟨some d, op, g⟩) (hd : decide (d < N) = true) (hw : awanted gds fr g = some false)
    (h : SDW P N gds L K [] Af ((d, .tuple #[]) :: fr) σ o l n U) : SDW P N gds L K [] (i :: Af) fr σ o l n U :=
  fun base τ hτ h1 h2 h3 => DW.skipL ho hd hw (h base τ hτ h1 h2 h3)
theorem SDW.eff {d : Tmp} {op : Op} {g : Option (Nat × Bool)} {v : Value} (ho : sget L e = some ⟨some d, op, g⟩) (hd : decide (d < N) = true) (hw : awanted gds fr g = some true) (hx : SX P σ o l fr op v)
    (h : SDW P N gds L K S Af ((d, v) :: fr) σ o l n U) : SDW P N gds L K (([], e, []) :: S) Af fr σ o l n U :=
  fun base τ hτ h1 h2 h3 => DW.effE ho hd hw (hx.ex _ _ hτ) (h base τ hτ h1 h2 h3)
theorem SDW.assignM {d : Tmp} {x : Operand} {v : Value} {M A2 : List Nat} {e2 : Nat} {S2 : List Stage} (ho : sget L e = some ⟨some d, .assign x, none⟩) (hd : decide (d < N) = true) (hx : aeval fr x = some v) (hM : offB d L M = true)
    (h : SDW P N gds L K ((M ++ A2, e2, []) :: S2) Af ((d, v) :: fr) σ o l n U) : SDW P N gds L K (([], e, M) :: (M ++ A2, e2, []) :: S2) Af fr σ o l n U :=
  fun base τ hτ h1 h2 h3 => DW.assignM ho hd hx hM (h base τ hτ h1 h2 h3)
theorem SDW.assignML {d : Tmp} {x : Operand} {v : Value} {M A2 : List Nat} (ho : sget L e = some ⟨some d, .assign x, none⟩) (hd : decide (d < N) = true) (hx : aeval fr x = some v) (hM : offB d L M = true)
    (h : SDW P N gds L K [] (M ++ A2) ((d, v) :: fr) σ o l n U) : SDW P N gds L K (([], e, M) :: []) (M ++ A2) fr σ o l n U :=
  fun base τ hτ h1 h2 h3 => DW.assignML ho hd hx hM (h base τ hτ h1 h2 h3)
/-- A new block, as a stage. -/
theorem SDW.new (g : Nat → Value) (x : ABlk) {d : Tmp} {op : Op} {gg : Option (Nat × Bool)} (ho : sget L e = some ⟨some d, op, gg⟩) (hd : decide (d < N) = true) (hw : awanted gds fr gg = some true) (he : e < n) (hU : e ∉ U) (hx : ∀ τ id, Hp σ o l τ → EX P τ id fr op (g id) (τ.set id x))
    (h : ∀ C, SDW P N gds L K S Af ((d, g C) :: fr) σ o ((some C, x) :: l) n (e :: U)) : SDW P N gds L K (([], e, []) :: S) Af fr σ o l n U := by
  intro base τ hτ h1 h2 h3
  refine DW.effE ho hd hw (hx _ _ hτ) (h (base + e) base _ (hτ.add x (by omega) (by omega) (h3 e he hU)) h1 h2 fun i hi hiU y hy hc => ?_)
  rcases List.mem_cons.1 hy with rfl | hy
  · simp only [Option.some.injEq] at hc
    exact hiU (by rw [show i = e by omega]; exact List.mem_cons_self ..)
  · exact h3 i hi (fun hh => hiU (List.mem_cons_of_mem _ hh)) y hy hc
theorem SDW.append {d : Tmp} {gg : Option (Nat × Bool)} {ar : Array Operand} {L' : Option Nat → SH} {tS tX e' sz bb s bytes n' m : Nat} {ke : AKind} {zz : Option Value} {z x : Value} {c : Option Nat} {cs news : List Value} (ho : sget L e = some ⟨some d, .call { callee := .builtin .append, args := ar, argTypes := #[tS, tX] }, gg⟩) (hd : decide (d < N) = true) (hw : awanted gds fr gg = some true) (hen : e < n) (hU : e ∉ U) (hx : aevals fr ar.toList = some [sv c n', x])
    (hu : ∀ c', Upd c (.cells cs e' true) (c', .cells (cs ++ news) e' true) l (L' c')) (ht : ty P tS = some ⟨.slice e', sz, bb, zz⟩) (he : ty P e' = some ⟨ke, s, bytes, some z⟩) (hz : z.cells.size = s) (hsrc : ∀ τ, Hp σ o l τ → asrc P τ tX s z x = some (m, news)) (hnl : news.length = m * s) (hcl : cs.length = n' * s) (hs : 1 ≤ s)
    (hb1 : (n' + m) * bytes ≤ 140737488355328) (hb2 : n' + m ≤ 9223372036854775807) (h : ∀ c', SDW P N gds L K S Af ((d, sv c' (n' + m)) :: fr) σ o (L' c') n (e :: U)) : SDW P N gds L K (([], e, []) :: S) Af fr σ o l n U := by
  intro base τ hτ h1 h2 h3
  obtain ⟨c', τ', a1, a2, a3, a4⟩ := append_core ht he hz (hsrc _ hτ) hnl hcl hs hb1 hb2 hτ (id := base + e) (by omega) (by omega) (h3 e hen hU) hu
  refine DW.effE ho hd hw (ex_append hx a1) (h c' base τ' a2 h1 (by omega) fun i hi hiU y hy hcc => ?_)
  rcases (hu c').inv hτ.ndl y hy with rfl | hy
  · simp only at hcc
    rcases a4 with a4 | a4
    · exact h3 i hi (fun hh => hiU (List.mem_cons_of_mem _ hh)) _ (hu c').mem (by simp only; rw [← a4]; exact hcc)
    · rw [a4] at hcc; simp only [Option.some.injEq] at hcc; exact hiU (by rw [show i = e by omega]; exact List.mem_cons_self ..)
  · exact h3 i hi (fun hh => hiU (List.mem_cons_of_mem _ hh)) y hy.1 hcc
theorem SDW.store {o' l' : SH} {gg : Option (Nat × Bool)} {x y : Operand} {t : TypeId} {T : ATy} {b off : Nat} {v : Value} {cs : List Value} {e' : TypeId} (ho : sget L e = some ⟨none, .store t x y, gg⟩) (hw : awanted gds fr gg = some true) (hx : aeval fr x = some (.pointer (some ⟨b, off, none⟩))) (hy : aeval fr y = some v)
    (hu : Upd2 (some b) (.cells cs e' true) (some b, .cells (setRange cs off v.cells.toList) e' true) o l o' l') (ht : ty P t = some T) (hv : v.cells.size = T.size) (hl : off + T.size ≤ cs.length) (hn : isTuple v = false)
    (h : SDW P N gds L K S Af fr σ o' l' n U) : SDW P N gds L K (([], e, []) :: S) Af fr σ o l n U := by
  intro base τ hτ h1 h2 h3
  refine DW.eff0 ho hw (ae_store hx hy (astore_to (hτ.ent hu.mem).lt.1 ht hv hl hn)) (h base _ (hτ.upd hu) h1 h2 fun i hi hiU y hy hc => ?_)
  cases hu with
  | new hu =>
    rcases hu.inv hτ.ndl y hy with rfl | hy
    · exact h3 i hi hiU _ hu.mem hc
    · exact h3 i hi hiU y hy.1 hc
  | old hu => exact h3 i hi hiU y hy hc
theorem SDW.call {d : Tmp} {op : Op} {gg : Option (Nat × Bool)} {g : FuncId} {vs : List Value} {o1 : SH} {Q : Value → SH → Prop} (hc : SC P g vs o1 Q) (ho : sget L e = some ⟨some d, op, gg⟩) (hd : decide (d < N) = true) (hw : awanted gds fr gg = some true) (ha : acallee fr op = some (g, vs)) (hb : hasBody P g = true) (hs : ∃ m : SH, m.Perm o1 ∧ m.Sublist (o ++ l))
    (h : ∀ v l1, Q v l1 → SDW P N gds L K S Af ((d, v) :: fr) σ o (l1 ++ l) n U) : SDW P N gds L K (([], e, []) :: S) Af fr σ o l n U := by
  intro base τ hτ h1 h2 h3
  refine DW.call ho hd hw ha hb ((hc τ (hτ.enter hs)).mono fun v τ' ⟨l1, k1, k2⟩ => h v l1 k2 base τ' (hτ.call k1 fun e he => let ⟨m, hm, hsub⟩ := hs; hsub.subset (hm.mem_iff.2 he)) h1 (by have := k1.next; omega) fun i hi hiU y hy hcc => ?_)
  rcases List.mem_append.1 hy with hy | hy
  · have := (k1.new y hy).2 _ hcc; omega
  · exact h3 i hi hiU y hy hcc
/-- A call; one reading operation may stand ahead of it or behind it. -/
theorem SDW.callM {d dm : Tmp} {op opm : Op} {vm : Value} {g : FuncId} {vs : List Value} {o1 : SH} {Q : Value → SH → Prop} {A2 : List Nat} {e2 m : Nat} {S2 : List Stage} (hc : SC P g vs o1 Q) (ho : sget L e = some ⟨some d, op, none⟩) (hd : decide (d < N) = true) (ha : acallee fr op = some (g, vs)) (hb : hasBody P g = true) (hs : ∃ m : SH, m.Perm o1 ∧ m.Sublist (o ++ l))
    (hm : sget L m = some ⟨some dm, opm, none⟩) (hdm : decide (dm < N) = true) (hq : quietOp opm = some true) (hx : SX P σ o l fr opm vm) (hx' : ∀ v l1, Q v l1 → SX P σ o (l1 ++ l) ((d, v) :: fr) opm vm)
    (h : ∀ v l1, Q v l1 → SDW P N gds L K ((m :: A2, e2, []) :: S2) Af ((d, v) :: fr) σ o (l1 ++ l) n U) : SDW P N gds L K (([], e, [m]) :: (m :: A2, e2, []) :: S2) Af fr σ o l n U := by
  intro base τ hτ h1 h2 h3
  refine DW.callM ho hd ha hb hm hdm hq (hx.ex _ _ hτ).eq ((hc τ (hτ.enter hs)).mono fun v τ' ⟨l1, k1, k2⟩ => ?_)
  have hτ' := hτ.call k1 fun e he => let ⟨m, hm, hsub⟩ := hs; hsub.subset (hm.mem_iff.2 he)
  refine ⟨((hx' v l1 k2).ex _ _ hτ').eq, h v l1 k2 base τ' hτ' h1 (by have := k1.next; omega) fun i hi hiU y hy hcc => ?_⟩
  rcases List.mem_append.1 hy with hy | hy
  · have := (k1.new y hy).2 _ hcc; omega
  · exact h3 i hi hiU y hy hcc
theorem SDW.idx {i : Nat} {d : Tmp} {g : Option (Nat × Bool)} {x y : Operand} {t : TypeId} {c : Option Nat} {off n' cap j : Nat} {z' : Int} {kd : IntKind} {e' : TypeId} {s bt : Nat} {z : Option Value} {E : ATy} {cs : List Value} {e2 : TypeId} {rw : Bool} (ho : sget L i = some ⟨some d, .indexAddr t x y, g⟩) (hd : decide (d < N) = true) (hw : awanted gds fr g = some true) (hx : aeval fr x = some (gv c off n' cap)) (hy : aeval fr y = some (.int kd z')) (hq : quietOp (.indexAddr t x y) = some true) (ht : ty P t = some ⟨.slice e', s, bt, z⟩) (he : ty P e' = some E) (hi : z' = (j : Int)) (hj : j < n') [hm : SIn c (.cells cs e2 rw) o l] (hn : cs = [] → n' = 0)
    (h : ∀ b, c = some b → SDW P N gds L K ((A, e, M) :: S) Af ((d, .pointer (some ⟨b, off + j * E.size, none⟩)) :: fr) σ o l n U) : SDW P N gds L K ((i :: A, e, M) :: S) Af fr σ o l n U := by
  intro base τ hτ h1 h2 h3
  cases c with
  | none => have := hn (hτ.none_nil (hm := hm) rfl); omega
  | some b => exact SDW.read ho hd hw hq (sx_of fun _ _ => ex_idxI hx hy ht he hi hj) (h b rfl) base τ hτ h1 h2 h3
theorem SDW.idxL {i : Nat} {d : Tmp} {g : Option (Nat × Bool)} {x y : Operand} {t : TypeId} {c : Option Nat} {off n' cap j : Nat} {z' : Int} {kd : IntKind} {e' : TypeId} {s bt : Nat} {z : Option Value} {E : ATy} {cs : List Value} {e2 : TypeId} {rw : Bool} (ho : sget L i = some ⟨some d, .indexAddr t x y, g⟩) (hd : decide (d < N) = true) (hw : awanted gds fr g = some true) (hx : aeval fr x = some (gv c off n' cap)) (hy : aeval fr y = some (.int kd z')) (hq : quietOp (.indexAddr t x y) = some true) (ht : ty P t = some ⟨.slice e', s, bt, z⟩) (he : ty P e' = some E) (hi : z' = (j : Int)) (hj : j < n') [hm : SIn c (.cells cs e2 rw) o l] (hn : cs = [] → n' = 0)
    (h : ∀ b, c = some b → SDW P N gds L K [] Af ((d, .pointer (some ⟨b, off + j * E.size, none⟩)) :: fr) σ o l n U) : SDW P N gds L K [] (i :: Af) fr σ o l n U := by
  intro base τ hτ h1 h2 h3
  cases c with
  | none => have := hn (hτ.none_nil (hm := hm) rfl); omega
  | some b => exact SDW.readL ho hd hw hq (sx_of fun _ _ => ex_idxI hx hy ht he hi hj) (h b rfl) base τ hτ h1 h2 h3
theorem SDW.done (h : SGo P ro f N k R fr σ o l) : SDW P N gds L (fun fr τ => AGo P ro f N k R fr τ) [] [] fr σ o l n U := fun base τ hτ _ _ _ => DW.done (h τ hτ)
theorem SDW.know {p : Prop} (hp : ∀ τ, Hp σ o l τ → p) (h : p → SDW P N gds L K S Af fr σ o l n U) : SDW P N gds L K S Af fr σ o l n U := fun base τ hτ => h (hp τ hτ) base τ hτ
end
/-! ### copy -/
theorem ex_copy {P : Program} {fr : Fr} {σ σ' : AHeap} {id : Nat} {ar : Array Operand} {t u : TypeId} {d x v : Value} (hx : aevals fr ar.toList = some [d, x]) (hc : acopy P σ t u d x = some (v, σ')) : EX P σ id fr (.call { callee := .builtin .copy, args := ar, argTypes := #[t, u] }) v σ' :=
  ex_call hx (by simp only [abuiltin]; exact hc)
theorem acopy_at {P : Program} {σ : AHeap} {tD tX e sz bb b b' off off' dl dc sl sc n : Nat} {zz : Option Value} {E : ATy} {cs cs' : List Value} {e1 e' : TypeId} {rw : Bool} (ht : ty P tD = some ⟨.slice e, sz, bb, zz⟩) (he : ty P e = some E) (hb : σ.blk b = some (.cells cs e1 true)) (hb' : σ.blk b' = some (.cells cs' e' rw)) (hn : Nat.min sl dl = n) (h1 : off + n * E.size ≤ cs.length) (h2 : off' + n * E.size ≤ cs'.length) :
    acopy P σ tD tX (.slice (some ⟨b, off, none⟩) dl dc) (.slice (some ⟨b', off', none⟩) sl sc) = some (.int .i64 ((n : Nat) : Int), σ.set b (.cells (setRange cs off ((cs'.drop off').take (n * E.size))) e1 true)) := by
  subst hn
  simp only [acopy, ht, he, hb, hb']
  rw [if_pos ⟨h1, h2⟩]
theorem SReg.copy {P : Program} {ro : Ro} {f : FuncId} {N : Nat} {R : Value → AHeap → Prop} {k : List Item} {gds : List (Option Tmp)} {r : List SOp} {fr : Fr} {σ : AHeap} {o l o' l' : SH} {d : Tmp} {ar : Array Operand} {tD tX e sz bb b b' off off' dl dc sl sc n : Nat} {zz : Option Value} {E : ATy} {cs cs' : List Value} {e1 e' : TypeId} {rw : Bool} (hd : decide (d < N) = true) (hx : aevals fr ar.toList = some [.slice (some ⟨b, off, none⟩) dl dc, .slice (some ⟨b', off', none⟩) sl sc]) (ht : ty P tD = some ⟨.slice e, sz, bb, zz⟩) (he : ty P e = some E) [hb' : SIn (some b') (.cells cs' e' rw) o l] (hn : Nat.min sl dl = n) (h1 : off + n * E.size ≤ cs.length) (h2 : off' + n * E.size ≤ cs'.length)
    (hu : Upd2 (some b) (.cells cs e1 true) (some b, .cells (setRange cs off ((cs'.drop off').take (n * E.size))) e1 true) o l o' l') (hgo : SReg P ro f N gds r k R ((d, .int .i64 ((n : Nat) : Int)) :: fr) σ o' l') : SReg P ro f N gds (⟨some d, .call { callee := .builtin .copy, args := ar, argTypes := #[tD, tX] }, none⟩ :: r) k R fr σ o l :=
  fun τ hτ => AReg.valE hd (ex_copy hx (acopy_at ht he ((hτ.bump 1).ent hu.mem).lt.1 (hb'.blk (hτ.bump 1)) hn h1 h2)) (hgo _ ((hτ.bump 1).upd hu))
theorem SDW.copyM {P : Program} {N : Nat} {gds : List (Option Tmp)} {L : List SOp} {K : Fr → AHeap → Prop} {M A2 : List Nat} {e2 : Nat} {S2 : List Stage} {Af : List Nat} {ee : Nat} {fr : Fr} {σ : AHeap} {o l o' l' : SH} {nn : Nat} {U : List Nat} {d : Tmp} {ar : Array Operand} {tD tX e sz bb b b' off off' dl dc sl sc n : Nat} {zz : Option Value} {E : ATy} {cs cs' : List Value} {e1 e' : TypeId} {rw : Bool} (ho : sget L ee = some ⟨some d, .call { callee := .builtin .copy, args := ar, argTypes := #[tD, tX] }, none⟩) (hd : decide (d < N) = true) (hM : offB d L M = true) (hP : moveB L M = true) (hx : aevals fr ar.toList = some [.slice (some ⟨b, off, none⟩) dl dc, .slice (some ⟨b', off', none⟩) sl sc]) (ht : ty P tD = some ⟨.slice e, sz, bb, zz⟩) (he : ty P e = some E) [hb' : SIn (some b') (.cells cs' e' rw) o l] (hn : Nat.min sl dl = n) (h1 : off + n * E.size ≤ cs.length) (h2 : off' + n * E.size ≤ cs'.length)
    (hu : Upd2 (some b) (.cells cs e1 true) (some b, .cells (setRange cs off ((cs'.drop off').take (n * E.size))) e1 true) o l o' l') (h : SDW P N gds L K ((M ++ A2, e2, []) :: S2) Af ((d, .int .i64 ((n : Nat) : Int)) :: fr) σ o' l' nn U) : SDW P N gds L K (([], ee, M) :: (M ++ A2, e2, []) :: S2) Af fr σ o l nn U := by
  intro base τ hτ g1 g2 g3
  refine DW.effM ho hd (ex_copy hx (acopy_at ht he (hτ.ent hu.mem).lt.1 (hb'.blk hτ) hn h1 h2)).eq hM hP (h base _ (hτ.upd hu) g1 g2 fun i hi hiU y hy hc => ?_)
  cases hu with
  | new hu =>
    rcases hu.inv hτ.ndl y hy with rfl | hy
    · exact g3 i hi hiU _ hu.mem hc
    · exact g3 i hi hiU y hy.1 hc
  | old hu => exact g3 i hi hiU y hy hc
theorem zerosL_one {z : Value} (hz : z.cells.toList = [z]) (N : Nat) : zerosL z N = List.replicate N z := by
  unfold zerosL
  rw [hz]
  induction N with
  | zero => rfl
  | succ n ih => rw [List.replicate_succ, List.flatten_cons, ih]; rfl
theorem setRange_mid (v : Value) : ∀ (n a : Nat) (zs : List Value), n ≤ zs.length → setRange (List.replicate a v ++ zs) a (List.replicate n v) = List.replicate (a + n) v ++ zs.drop n
  | 0, a, zs, _ => by simp [setRange]
  | n + 1, a, zs, h => by
    cases zs with
    | nil => simp at h
    | cons z zs =>
      have e : (List.replicate a v ++ z :: zs).set a v = List.replicate (a + 1) v ++ zs := by
        rw [List.set_append_right _ _ (by simp)]
        simp [List.replicate_succ', List.append_assoc]
      rw [List.replicate_succ, setRange, e, setRange_mid v n (a + 1) zs (by simpa using h)]
      simp only [List.drop_succ_cons, show a + 1 + n = a + (n + 1) by omega]
theorem amakeSlice_at {P : Program} {t e sz bb s bytes n m : Nat} {ke : AKind} {zz : Option Value} {z : Value} {k k' : IntKind} (ht : ty P t = some ⟨.slice e, sz, bb, zz⟩) (he : ty P e = some ⟨ke, s, bytes, some z⟩) (hz : closedV z = true) (hs : z.cells.size = s) (hn : n ≤ m) (h1 : m ≤ 9223372036854775807) (h2 : bytes * m ≤ 140737488355328) (σ : AHeap) (id : Nat) :
    amakeSlice P σ id t (.int k (n : Int)) (.int k' (m : Int)) = some (.slice (some ⟨id, 0, none⟩) n m, σ.set id (.cells (zerosL z m) e true)) := by
  simp only [amakeSlice, ht, he]
  rw [if_pos ⟨hz, hs, by omega, by omega, by omega, by have : ((bytes * m : Nat) : Int) = (bytes : Int) * (m : Int) := Int.natCast_mul _ _; omega⟩]
  simp only [Int.toNat_natCast]

/-- A slice of one element that is built. -/
theorem abuildSlice_one {P : Program} {t e sz bb bytes : Nat} {ke : AKind} {zz : Option Value} {z v : Value} (ht : ty P t = some ⟨.slice e, sz, bb, zz⟩) (he : ty P e = some ⟨ke, 1, bytes, some z⟩) (hz : closedV z = true) (hs : z.cells.toList = [z]) (hv : v.cells.toList = [v]) (σ : AHeap) (id : Nat) :
    abuildSlice P σ id t 1 [(0, v)] = some (.slice (some ⟨id, 0, none⟩) 1 1, σ.set id (.cells [v] e true)) := by
  have h1 : z.cells.size = 1 := by rw [← Array.length_toList, hs]; rfl
  have h2 : v.cells.size = 1 := by rw [← Array.length_toList, hv]; rfl
  simp only [abuildSlice, ht, he]
  rw [if_pos ⟨hz, h1, by decide⟩]
  have hzl : zerosL z 1 = [z] := by rw [zerosL_one hs]; rfl
  have hf : afill (fun i => some (i * 1, 1)) (zerosL z 1) [(0, v)] = some [v] := by
    rw [hzl]
    simp only [afill, h2]
    rw [if_neg (by simp)]
    simp only [hv, setRange]
    rfl
  rw [hf]

/-! ### Short rules -/
section
variable {P : Program} {ro : Ro} {f : FuncId} {N : Nat} {R : Value → AHeap → Prop} {k : List Item} {gds : List (Option Tmp)} {r : List SOp} {fr : Fr} {σ : AHeap} {o l : SH} {d : Tmp} {g : Option (Nat × Bool)} {v : Value}
theorem SReg.ex {op : Op} (hd : decide (d < N) = true) (hw : awanted gds fr g = some true) (h : ∀ τ id, EX P τ id fr op v τ) (hgo : SReg P ro f N gds r k R ((d, v) :: fr) σ o l) : SReg P ro f N gds (⟨some d, op, g⟩ :: r) k R fr σ o l := SReg.valG hd hw (sx_of h) hgo
theorem SReg.mv {x : Operand} (hd : decide (d < N) = true) (hw : awanted gds fr g = some true) (h : aeval fr x = some v) (hgo : SReg P ro f N gds r k R ((d, v) :: fr) σ o l) : SReg P ro f N gds (⟨some d, .move x, g⟩ :: r) k R fr σ o l := SReg.valG hd hw (sx_of fun _ _ => ex_move h) hgo
theorem SReg.as {x : Operand} (hd : decide (d < N) = true) (hw : awanted gds fr g = some true) (h : aeval fr x = some v) (hgo : SReg P ro f N gds r k R ((d, v) :: fr) σ o l) : SReg P ro f N gds (⟨some d, .assign x, g⟩ :: r) k R fr σ o l := SReg.valG hd hw (sx_of fun _ _ => ex_assign h) hgo
theorem SReg.ld {x : Operand} {t : TypeId} {p : Value} (hd : decide (d < N) = true) (hw : awanted gds fr g = some true) (hx : aeval fr x = some p) (h : SLd P o l t p v) (hgo : SReg P ro f N gds r k R ((d, v) :: fr) σ o l) : SReg P ro f N gds (⟨some d, .load t x, g⟩ :: r) k R fr σ o l := SReg.valG hd hw (sx_load hx h) hgo
end
theorem map_nil {α : Type} {zs : List α} {g : α → Value} (h : zs.map g = []) : zs.length = 0 := by simp at h; simp [h]
theorem len_nil {cs : List Value} {n : Nat} (h : cs.length = n) (h' : cs = []) : n = 0 := by subst h'; exact h.symm
end Go.Abs

/- THE ABSTRACT MACHINE, part Zi: a range over a function, over heaps told as lists. -/
namespace Go.Abs
open Go

/-- The first block is no longer looked at. -/
theorem Hp.delHead {σ τ : AHeap} {o l : SH} {L : Nat} {x : ABlk} (h : Hp σ o ((some L, x) :: l) τ) : Hp σ o l (τ.del L) := by
  have hL := h.new _ (List.mem_cons_self ..)
  have hn : σ.next ≤ L := hL.2 L rfl
  refine ⟨h.next, fun e he => ⟨(h.old e he).1.of (Nat.le_refl _) fun b hb => ?_, (h.old e he).2⟩, fun e he => ⟨(h.new e (List.mem_cons_of_mem _ he)).1.of (Nat.le_refl _) fun b hb => ?_, (h.new e (List.mem_cons_of_mem _ he)).2⟩, h.ndo, (List.pairwise_cons.1 h.ndl).2, fun b hb ho => ?_⟩
  · rw [AHeap.del_blk, if_neg (by have := (h.old e he).2 b hb; omega)]
  · rw [AHeap.del_blk, if_neg fun e' => by have := (List.pairwise_cons.1 h.ndl).1 e he (by rw [hb, e']); cases this]
  · rw [AHeap.del_blk, if_neg (by omega)]; exact h.keep b hb ho
section
variable {P : Program} {ro : Ro} {f : FuncId} {N : Nat} {R : Value → AHeap → Prop} {k : List Item} {gds : List (Option Tmp)} {r : List SOp} {fr : Fr} {σ : AHeap} {o l : SH}
theorem SGo.rangeFunc {ds : List Deferred} {g : Operand} {ps : Array Tmp} {as bd : Code} {it : FuncId} {xs ys : Array Value} {fn : Func} {c : Code} (hg : aeval fr g = some (.func (.func it) xs ys)) (hb : hasBody P it = true) (hfn : P.funcs[it]? = some fn) (hc : fn.body = some c) (hn : xs.size + 1 + ys.size ≤ fn.ntmps)
    (h : ∀ L, SGo P .top it fn.ntmps [.code c] (fun _ τ' => ∃ o' l' st pd, Hp σ o' ((some L, .loop st pd f N fr ps as bd) :: l') τ' ∧ st ≠ .busy ∧ ∀ d, SGo P ⟨none, d :: ds⟩ f N ((pd.map Item.code).toList ++ k) R fr σ o' l') (aenter 0 (xs.toList ++ [.func (.yield L) #[] #[]] ++ ys.toList)) σ o ((some L, .loop .ready none f N fr ps as bd) :: l)) :
    SGo P ⟨none, ds⟩ f N (.code (.rangeFunc g ps as bd) :: k) R fr σ o l := by
  intro τ hτ
  refine AGo.rangeFunc hg hb fun L hL => ?_
  subst hL
  refine ACalls.enter hfn hc (by simp; omega) ((h τ.next _ (hτ.addN _)).mono fun v τ' ⟨o', l', st, pd, h1, h2, h3⟩ => ⟨st, pd, (h1.new _ (List.mem_cons_self ..)).1.lt.1, h2, fun d => h3 d _ h1.delHead⟩)
theorem SReg.yield {op : SOp} {L : Nat} {vs : List Value} {st : LoopState} {pd : Option Code} {f' : FuncId} {N' : Nat} {F : Fr} {ps : Array Tmp} {as bd : Code} [hL : SIn (some L) (.loop st pd f' N' F ps as bd) o l] (hd : dstOk N op.dst = true) (hw : awanted gds fr op.guard = some true) (hc : yieldCall fr op.op = some (L, vs)) (hn : vs.length = ps.size) (hps : ps.toList.all (· < N') = true)
    (h : ∀ l0, SGo P ⟨some (L, l0), []⟩ f' N' [.code as, .beginRound, .code bd] (fun v τ => AReg P ro f N gds r k R (adst fr op.dst v) τ) (aputs F (ps.toList.zip vs)) σ o l) : SReg P ro f N gds (op :: r) k R fr σ o l :=
  fun τ hτ => AReg.yield hd hw hc (hL.blk hτ) hn hps fun l0 => h l0 τ hτ
theorem SGo.beginRound {L l0 : Nat} {ds : List Deferred} {o' l' : SH} {pd : Option Code} {f' : FuncId} {N' : Nat} {F : Fr} {ps : Array Tmp} {as bd : Code} (hu : Upd2 (some L) (.loop .ready pd f' N' F ps as bd) (some L, .loop .busy pd f' N' F ps as bd) o l o' l')
    (h : SGo P ⟨some (L, l0), ds⟩ f N k R fr σ o' l') : SGo P ⟨some (L, l0), ds⟩ f N (.beginRound :: k) R fr σ o l :=
  fun τ hτ => AGo.beginRound (hτ.ent hu.mem).lt.1 (h _ (hτ.upd hu))
theorem SGo.roundEnd {L l0 : Nat} {ds : List Deferred} {o' l' : SH} {st : LoopState} {pd : Option Code} {f' : FuncId} {N' : Nat} {F : Fr} {ps : Array Tmp} {as bd : Code} (hu : Upd2 (some L) (.loop st pd f' N' F ps as bd) (some L, .loop .ready none f' N' F ps as bd) o l o' l')
    (hR : ∀ τ, Hp σ o' l' τ → R (.bool true) τ) : SGo P ⟨some (L, l0), ds⟩ f N [] R fr σ o l :=
  fun τ hτ => AGo.roundEnd (hτ.ent hu.mem).lt.1 (hR _ (hτ.upd hu))
theorem SGo.roundRet {L l0 : Nat} {ds : List Deferred} {o' l' : SH} {st : LoopState} {pd : Option Code} {f' : FuncId} {N' : Nat} {F : Fr} {ps : Array Tmp} {as bd : Code} (hu : Upd2 (some L) (.loop st pd f' N' F ps as bd) (some L, .loop .done (some .ret) f' N' F ps as bd) o l o' l')
    (hR : ∀ τ, Hp σ o' l' τ → R (.bool false) τ) : SGo P ⟨some (L, l0), ds⟩ f N (.code .ret :: k) R fr σ o l :=
  fun τ hτ => AGo.roundRet (hτ.ent hu.mem).lt.1 (hR _ (hτ.upd hu))
theorem SReg.less {L : List SOp} {l' : SH} (hs : l'.Sublist l) (h : SReg P ro f N gds L k R fr σ o l') : SReg P ro f N gds L k R fr σ o l := fun τ hτ => h τ (hτ.less hs)
/-- With a guard that lets it be done. -/
theorem SReg.newG (g : Nat → Value) (x : ABlk) {d : Tmp} {op : Op} {gg : Option (Nat × Bool)} (hd : decide (d < N) = true) (hw : awanted gds fr gg = some true) (h : ∀ τ id, Hp σ o l τ → EX P τ id fr op (g id) (τ.set id x)) (hgo : ∀ C, SReg P ro f N gds r k R ((d, g C) :: fr) σ o ((some C, x) :: l)) : SReg P ro f N gds (⟨some d, op, gg⟩ :: r) k R fr σ o l :=
  fun τ hτ => AReg.valGE hd hw (h _ _ (hτ.bump 1)) (hgo τ.next _ (hτ.addN x))
theorem SReg.buildSliceG {d : Tmp} {gg : Option (Nat × Bool)} {t : TypeId} {len : Nat} {ps : Array (Nat × Operand)} {qs : List (Nat × Value)} {cs : List Value} {e : TypeId} (hd : decide (d < N) = true) (hw : awanted gds fr gg = some true) (hp : aparts fr ps.toList = some qs) (hb : ∀ τ id, abuildSlice P τ id t len qs = some (.slice (some ⟨id, 0, none⟩) len len, τ.set id (.cells cs e true)))
    (hgo : ∀ C, SReg P ro f N gds r k R ((d, sv (some C) len) :: fr) σ o ((some C, .cells cs e true) :: l)) : SReg P ro f N gds (⟨some d, .buildSlice t len ps, gg⟩ :: r) k R fr σ o l :=
  SReg.newG (fun id => sv (some id) len) _ hd hw (fun τ id _ => ex_buildSlice hp (hb τ id)) hgo
theorem SReg.goG {d : Tmp} {op : Op} {gg : Option (Nat × Bool)} {g : FuncId} {vs : List Value} {o1 : SH} {Q : Value → SH → Prop} (hc : SC P g vs o1 Q) (hd : decide (d < N) = true) (hw : awanted gds fr gg = some true) (ha : acallee fr op = some (g, vs)) (hb : hasBody P g = true) (hs : ∃ m : SH, m.Perm o1 ∧ m.Sublist (o ++ l)) (hgo : ∀ v l1, Q v l1 → SReg P ro f N gds r k R ((d, v) :: fr) σ o (l1 ++ l)) : SReg P ro f N gds (⟨some d, op, gg⟩ :: r) k R fr σ o l :=
  fun τ hτ => AReg.goG hd hw ha hb ((hc τ (hτ.enter hs)).mono fun v τ' ⟨l1, h1, h2⟩ => hgo v l1 h2 τ' (hτ.call h1 fun e he => let ⟨m, hm, hsub⟩ := hs; hsub.subset (hm.mem_iff.2 he)))
theorem SReg.out {L : List SOp} (h : SReg P ro f N gds L k R fr σ o l) : ∀ τ, Hp σ o l τ → AReg P ro f N gds L k R fr τ := h
end
end Go.Abs

/- THE ABSTRACT MACHINE, part Zj: laws whose arguments are slices. -/
namespace Go.Abs
open Go Go.RowKit Go.ChangeShapes Go.WideShapes

/-- An argument that is a slice, and its elements. -/
inductive Sl1 (P : Program) (w : World) {α : Type} (g : α → Value) (e : TypeId) : Value → List α → Prop
  | nil : Sl1 P w g e (.slice none 0 0) []
  | some {b off cap : Nat} {cs : List Value} {L : List α} (hok : In.Ok P w ⟨b, off, cs, e, 1⟩) (hz : (cs.drop 0).take L.length = L.map g) (hl : L.length ≤ cap) (hc : cap ≤ maxLen) (hcs : cs.length = cap) : Sl1 P w g e (.slice (some ⟨b, off, none⟩) L.length cap) L

theorem Hp.ofIns {ins : List In} {o : SH} (h : ∀ e ∈ o, (∃ t, e = (none, .cells [] t false)) ∨ ∃ i x, ins[i]? = some x ∧ e = (some i, .cells x.cs x.e false)) (nd : SNd o) : Hp (inHeap ins) o [] (inHeap ins) where
  next := Nat.le_refl _
  old e he := by
    rcases h e he with ⟨t, rfl⟩ | ⟨i, x, hx, rfl⟩
    · exact ⟨⟨t, false, rfl⟩, fun b hb => by cases hb⟩
    · have hlt : i < ins.length := (List.getElem?_eq_some_iff.1 hx).1
      exact ⟨⟨by simp [inHeap, hx], hlt⟩, fun b hb => by cases hb; exact hlt⟩
  new e he := by cases he
  ndo := nd
  ndl := .nil
  keep _ _ _ := rfl
theorem addr_add (b off n : Nat) : (⟨b, off, none⟩ : Addr).add n = ⟨b, off + n, none⟩ := by
  unfold Addr.add
  split
  · rename_i h; rw [h]; rfl
  · rfl
theorem RVs.one {φ : BMap} {v v' : Value} (h : RV φ v v') : RVs φ [v] [v'] := .cons h (.nil φ)

/-- A law of one slice and of scalars. -/
theorem SC.slice1 {P : Program} {f : FuncId} {e : TypeId} {α : Type} {g : α → Value} {L : List α} {v : Value} {w : World} {sc : List Value} (hsl : Sl1 P w g e v L) (hsc : sc.all Go.Abs.closedCell = true)
    (law : ∀ (c : Option Nat) (cap : Nat) (cs : List Value), (cs.drop 0).take L.length = L.map g → SC P f (gv c 0 L.length cap :: sc) [(c, .cells cs e false)] fun v l => v = .bool true ∧ l = []) :
    Calls P f (v :: sc).toArray w fun e w' => e = .returned (.bool true) ∧ Below w.heap.size w w' := by
  cases hsl with
  | nil =>
    refine ACalls.topIn (args := gv none 0 0 0 :: sc) [] (fun x hx => by cases hx) ?_ ((law none 0 [] (by simp) _ (Hp.ofIns (fun e' he => ?_) ?_)).mono fun v τ ⟨l, _, hq⟩ => hq.1)
    · exact .cons .nilslice (RVs.closed hsc)
    · simp only [List.mem_singleton] at he; exact .inl ⟨e, he⟩
    · exact List.pairwise_singleton _ _
  | @some b off cap cs _ hok hz hl hc hcs =>
    refine ACalls.topIn (args := gv (some 0) 0 L.length cap :: sc) [⟨b, off, cs, e, 1⟩] (fun x hx => by simp only [List.mem_singleton] at hx; subst hx; exact hok) ?_ ((law (some 0) cap cs hz _ (Hp.ofIns (fun e' he => ?_) ?_)).mono fun v τ ⟨l, _, hq⟩ => hq.1)
    · exact .cons (RV.inSlice (ins := [⟨b, off, cs, e, 1⟩]) (b := 0) (x := ⟨b, off, cs, e, 1⟩) rfl hl) (RVs.closed hsc)
    · simp only [List.mem_singleton] at he; exact .inr ⟨0, _, rfl, he⟩
    · exact List.pairwise_singleton _ _

/-- The same; the block has as many cells as the slice has room. -/
theorem SC.slice1c {P : Program} {f : FuncId} {e : TypeId} {α : Type} {g : α → Value} {L : List α} {v : Value} {w : World} {sc : List Value} (hsl : Sl1 P w g e v L) (hsc : sc.all Go.Abs.closedCell = true)
    (law : ∀ (c : Option Nat) (cap : Nat) (cs : List Value), (cs.drop 0).take L.length = L.map g → cs.length = cap → SC P f (gv c 0 L.length cap :: sc) [(c, .cells cs e false)] fun v l => v = .bool true ∧ l = []) :
    Calls P f (v :: sc).toArray w fun e w' => e = .returned (.bool true) ∧ Below w.heap.size w w' := by
  cases hsl with
  | nil =>
    refine ACalls.topIn (args := gv none 0 0 0 :: sc) [] (fun x hx => by cases hx) ?_ ((law none 0 [] (by simp) rfl _ (Hp.ofIns (fun e' he => ?_) ?_)).mono fun v τ ⟨l, _, hq⟩ => hq.1)
    · exact .cons .nilslice (RVs.closed hsc)
    · simp only [List.mem_singleton] at he; exact .inl ⟨e, he⟩
    · exact List.pairwise_singleton _ _
  | @some b off cap cs _ hok hz hl hc hcs =>
    refine ACalls.topIn (args := gv (some 0) 0 L.length cap :: sc) [⟨b, off, cs, e, 1⟩] (fun x hx => by simp only [List.mem_singleton] at hx; subst hx; exact hok) ?_ ((law (some 0) cap cs hz hcs _ (Hp.ofIns (fun e' he => ?_) ?_)).mono fun v τ ⟨l, _, hq⟩ => hq.1)
    · exact .cons (RV.inSlice (ins := [⟨b, off, cs, e, 1⟩]) (b := 0) (x := ⟨b, off, cs, e, 1⟩) rfl hl) (RVs.closed hsc)
    · simp only [List.mem_singleton] at he; exact .inr ⟨0, _, rfl, he⟩
    · exact List.pairwise_singleton _ _

section
variable {H : Type} {enc : TypeId × Value → H} {P : Program} {w : World}
theorem okWide_spot {t e : TypeId} {a : Addr} {len cap base : Nat} (ht : P.underlying t = some (.slice e)) (h : Value.okWide P w .any base t (.slice (some a) len cap)) : a.spot = none := by
  unfold Value.okWide at h
  rw [ht] at h
  simp only [Cell.okWide, ht, Cell.ok] at h
  exact h.2.2.2.1
theorem sl_ints {t e : TypeId} {k : IntKind} {v : Value} {d : DataW H} {ps : List MemPlace} {base b0 : Nat} {held : Bool} (ht : P.underlying t = some (.slice e)) (he : P.underlying e = some (.int k)) (hc : P.cellsOf e = 1) (hs : tsz P e = some 1) (hval : Value.okWide P w .any b0 t v) (h : DataW.Trod enc P w base (fun _ => true) held t v d ps) :
    ∃ L, Sl1 P w (Value.int k) e v L ∧ ∀ n ∈ L, (Lit.int k n).wf = true := by
  obtain ⟨a, len, cap, rfl⟩ := okWide_slice ht hval
  obtain ⟨fuel, hf⟩ := h
  rcases open_ints ht he hc hf with ⟨hcs, _⟩ | ⟨x, l, c, zs, hcs, _, hl, hm, hz, _, hcell, hwz⟩
  · simp [Value.cells] at hcs
    obtain ⟨rfl, rfl, rfl⟩ := hcs
    exact ⟨[], .nil, fun n hn => by cases hn⟩
  · simp [Value.cells] at hcs
    obtain ⟨rfl, rfl, rfl⟩ := hcs
    have hsp := okWide_spot ht hval
    obtain ⟨b, off, spot⟩ := x
    simp only at hsp; subst hsp
    simp only [if_true] at hz
    have hlen : (zs.take len).length = len := by rw [List.length_take]; omega
    refine ⟨zs.take len, ?_, fun n hn => hwz n (List.mem_of_mem_take hn)⟩
    have := Sl1.some (P := P) (w := w) (g := Value.int k) (e := e) (b := b) (off := off) (cap := cap) (cs := zs.map (Value.int k)) (L := zs.take len) ⟨fun i v hv => ?_, fun i v hv => ?_, hs⟩ (by rw [List.drop_zero, hlen, List.map_take]) (by omega) hm (by simp [hz])
    · rw [hlen] at this; exact this
    · rw [List.getElem?_map] at hv
      obtain ⟨n, _, rfl⟩ := Option.map_eq_some_iff.1 hv
      rfl
    · simp only [List.getElem?_map] at hv
      obtain ⟨n, hn, rfl⟩ := Option.map_eq_some_iff.1 hv
      have hi : i < zs.length := (List.getElem?_eq_some_iff.1 hn).1
      refine ⟨rfl, ?_⟩
      have h1 := hcell i hi
      rw [List.getD_eq_getElem?_getD, hn] at h1
      rw [addr_add] at h1; exact h1
theorem sl_bools {t e : TypeId} {v : Value} {d : DataW H} {ps : List MemPlace} {base b0 : Nat} {held : Bool} (ht : P.underlying t = some (.slice e)) (he : P.underlying e = some .bool) (hc : P.cellsOf e = 1) (hs : tsz P e = some 1) (hval : Value.okWide P w .any b0 t v) (h : DataW.Trod enc P w base (fun _ => true) held t v d ps) :
    ∃ L, Sl1 P w Value.bool e v L := by
  obtain ⟨a, len, cap, rfl⟩ := okWide_slice ht hval
  obtain ⟨fuel, hf⟩ := h
  rcases Go.Deep.open_bools ht he hc hf with ⟨hcs, _⟩ | ⟨x, l, c, B, hcs, _, hl, hm, _, hcell⟩
  · simp [Value.cells] at hcs
    obtain ⟨rfl, rfl, rfl⟩ := hcs
    exact ⟨[], .nil⟩
  · simp [Value.cells] at hcs
    obtain ⟨rfl, rfl, rfl⟩ := hcs
    have hsp := okWide_spot ht hval
    obtain ⟨b, off, spot⟩ := x
    simp only at hsp; subst hsp
    have hlen : ((List.range len).map B).length = len := by simp
    refine ⟨(List.range len).map B, ?_⟩
    have := Sl1.some (P := P) (w := w) (g := Value.bool) (e := e) (b := b) (off := off) (cap := cap) (cs := ((List.range cap).map B).map Value.bool) (L := (List.range len).map B) ⟨fun i v hv => ?_, fun i v hv => ?_, hs⟩ (by rw [List.drop_zero, hlen, ← List.map_take, ← List.map_take, List.take_range, Nat.min_eq_left hl]) (by omega) hm (by simp)
    · rw [hlen] at this; exact this
    · rw [List.getElem?_map] at hv
      obtain ⟨n, _, rfl⟩ := Option.map_eq_some_iff.1 hv
      rfl
    · simp only [List.getElem?_map, Option.map_map] at hv
      obtain ⟨n, hn, rfl⟩ := Option.map_eq_some_iff.1 hv
      have hi : i < cap := by have := (List.getElem?_eq_some_iff.1 hn).1; simpa using this
      have hin : n = i := by rw [List.getElem?_range hi] at hn; cases hn; rfl
      subst hin
      exact ⟨rfl, by have h1 := hcell n hi; rw [addr_add] at h1; exact h1⟩
end
theorem sl_len {P : Program} {w : World} {α : Type} {g : α → Value} {e : TypeId} {v : Value} {L : List α} (h : Sl1 P w g e v L) : L.length ≤ 9223372036854775807 := by
  cases h with
  | nil => simp
  | some hok hz hl hc _ =>
    have : maxLen = 9223372036854775807 := by decide
    omega
end Go.Abs

