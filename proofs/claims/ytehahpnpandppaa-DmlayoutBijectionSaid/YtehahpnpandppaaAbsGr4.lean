/- A part of the proof: contracts of functions of the program, shown by walking through their code in an abstract machine. Condition: none. -/
import Derived.Test.YtehahpnpandppaaAbsGr3
import Derived.Below
set_option linter.unusedVariables false
set_option linter.unusedSimpArgs false
/- THE ABSTRACT MACHINE, part U: from a contract to the walk of a law. -/
namespace Go.Abs
open Go Go.RowKit

theorem ACalls.top {P : Program} {f : FuncId} {args : List Value} {args' : Array Value} {w : World} {σ0 : AHeap} {φ0 : BMap} (hr : RH P φ0 σ0 w w.heap.size) (hargs : RVs φ0 args args'.toList) (hro : ∀ b x, σ0.blk b = some x → x.rw = false)
    (h : ACalls P f args σ0 fun v _ => v = .bool true) : Calls P f args' w fun e w' => e = .returned (.bool true) ∧ Below w.heap.size w w' := by
  intro cs
  obtain ⟨v, v', σ', φ', w1, w', frm, rfl, a2, a3, a4, a5, a6, a7, rfl⟩ := h w.heap.size φ0 w args'.toList cs hr hargs
  cases a2.bool_inv
  refine ⟨_, w', frm, ⟨rfl, ⟨a4.os, a4.tape, a4.output, a4.size, fun k hk => a4.kept k hk fun ⟨b, x, p, hx, hrw, _⟩ => ?_⟩⟩, ?_, a6, a7⟩
  · rw [hro b x hx] at hrw; cases hrw
  · show Steps P _ _
    simpa using a5

theorem RH.empty (P : Program) (w : World) : RH P (fun _ => none) empty0 w w.heap.size := ⟨Nat.le_refl _, fun _ _ => rfl, fun b x hx => (by cases hx), fun b c x y p q hx => (by cases hx)⟩

/-- Arguments without blocks. -/
theorem ACalls.top0 {P : Program} {f : FuncId} {args : List Value} {w : World} (hc : args.all closedCell = true) (h : ACalls P f args empty0 fun v _ => v = .bool true) :
    Calls P f args.toArray w fun e w' => e = .returned (.bool true) ∧ Below w.heap.size w w' := by
  refine ACalls.top (RH.empty P w) ⟨rfl, fun i v v' a b => ?_⟩ (fun b x hx => by cases hx) h
  simp only at b
  rw [a] at b; cases b
  simp only [List.all_eq_true] at hc
  have := hc v (List.mem_of_getElem? a)
  unfold closedCell at this
  split at this
  · exact .bool _
  · exact .int _ _
  · exact .string _
  · exact .nilptr
  · exact .nilslice
  · exact .nilmap
  · exact .nilFunc
  · exact .nilIface
  · cases this
end Go.Abs

/- THE ABSTRACT MACHINE, part V: struct types whose values are compared as data. -/
namespace Go.Abs
open Go

theorem KeyOk.deep {P : Program} {m : Nat} (hm : m + 1 ≤ 10000) {k : TypeId} (hk : P.keyTypeAt m k = true) (ht : P.tiled m k = true) (hwide : (match P.underlying k with | some (.array _ _) | some (.struct _) => true | _ => false) = true) (hg : P.eqGuardType P.depth k = false) : KeyOk P k where
  law := deep_law hm hk ht hwide
  eq w x y hx hy := by
    obtain ⟨lx, hlx⟩ := Option.isSome_iff_exists.1 hx
    obtain ⟨ly, hly⟩ := Option.isSome_iff_exists.1 hy
    obtain ⟨r, h1, h2⟩ := run_equal_deep w (by omega) hk hwide hlx hly
    refine ⟨r, h1, h2.trans ⟨fun e => ?_, fun e => ?_⟩⟩
    · subst e; exact keyOf_inj_deep ht hwide hlx hly
    · subst e; rw [hlx] at hly; cases hly; rfl
  guard := hg
end Go.Abs

/- THE ABSTRACT MACHINE, part W: words for walks by hand: heaps in one form, loops, numbers. -/
namespace Go.Abs
open Go

theorem bump_bump (σ : AHeap) (a b : Nat) : (σ.bump a).bump b = σ.bump (a + b) := by simp [AHeap.bump, Nat.add_assoc]
theorem set_bump (σ : AHeap) (b : Nat) (x : ABlk) (n : Nat) : (σ.set b x).bump n = (σ.bump n).set b x := rfl
theorem del_bump (σ : AHeap) (b : Nat) (n : Nat) : (σ.del b).bump n = (σ.bump n).del b := rfl
theorem set_set (σ : AHeap) (b : Nat) (x y : ABlk) : (σ.set b x).set b y = σ.set b y := by
  refine AHeap.ext (σ := (σ.set b x).set b y) (τ := σ.set b y) rfl ?_
  intro i; simp only [AHeap.set_blk]; split <;> rfl

theorem Sub.bump {σ τ : AHeap} (h : Sub σ τ) (n : Nat) : Sub (σ.bump n) (τ.bump n) := h
theorem Sub.set {σ τ : AHeap} (h : Sub σ τ) (b : Nat) (x : ABlk) (hb : σ.blk b = none) : Sub σ (τ.set b x) := by
  intro c y hc
  rw [AHeap.set_blk]
  split
  · rename_i e; subst e; rw [hb] at hc; cases hc
  · exact h c y hc
theorem Sub.both {σ τ : AHeap} (h : Sub σ τ) (b : Nat) (x : ABlk) : Sub (σ.set b x) (τ.set b x) := by
  intro c y hc
  rw [AHeap.set_blk] at hc ⊢
  split
  · rename_i e; rw [if_pos e] at hc; exact hc
  · rename_i e; rw [if_neg e] at hc; exact h c y hc

/-- Every slot of the first frame lies in the second. -/
def Has : Fr → Fr → Prop
  | [], _ => True
  | (t, v) :: r, fr => aget fr t = some v ∧ Has r fr
theorem Has.get : ∀ {F fr : Fr}, Has F fr → ∀ t v, aget F t = some v → aget fr t = some v
  | [], _, _, t, v, h => by simp [aget] at h
  | (s, u) :: r, fr, h, t, v, hv => by
    rw [aget_cons] at hv
    split at hv
    · rename_i e; subst e; cases hv; exact h.1
    · exact h.2.get t v hv
theorem AGo.has {P : Program} {ro : Option Nat} {f : FuncId} {N : Nat} {R : Value → AHeap → Prop} {fr F : Fr} {σ : AHeap} {todo : List Item} (hF : Has F fr) (h : AGo P ro f N todo R F σ) : AGo P ro f N todo R fr σ := AGo.weaken hF.get h

/-- A LOOP. F: the slots that are known at its head; S: what holds of the heap there; μ: what falls. -/
theorem AGo.loopI {P : Program} {ro : Option Nat} {f : FuncId} {N : Nat} {R : Value → AHeap → Prop} {c : Code} {k : List Item} {ι : Type} (F : ι → Fr) (S : ι → AHeap → Prop) (μ : ι → Nat)
    (body : ∀ x σ, S x σ → (∀ y σ' fr', μ y < μ x → S y σ' → Has (F y) fr' → AGo P ro f N (.inLoop c :: k) R fr' σ') → AGo P ro f N (.code c :: .inLoop c :: k) R (F x) σ)
    {x0 : ι} {σ : AHeap} {fr : Fr} (h0 : S x0 σ) (hF : Has (F x0) fr) : AGo P ro f N (.inLoop c :: k) R fr σ := by
  have key : ∀ (n : Nat) (x : ι), μ x ≤ n → ∀ (σ : AHeap) (fr : Fr), S x σ → Has (F x) fr → AGo P ro f N (.inLoop c :: k) R fr σ := by
    intro n
    induction n with
    | zero =>
      intro x hx σ fr hS hH
      exact AGo.inLoop (AGo.has hH (body x σ hS fun y σ' fr' hlt _ _ => absurd hlt (by omega)))
    | succ n ih =>
      intro x hx σ fr hS hH
      exact AGo.inLoop (AGo.has hH (body x σ hS fun y σ' fr' hlt h1 h2 => ih y (by omega) σ' fr' h1 h2))
  exact key (μ x0) x0 (Nat.le_refl _) σ fr h0 hF

/-- What was there is as it was. -/
structure More (σ σ' : AHeap) : Prop where
  next : σ.next ≤ σ'.next
  blk : ∀ b, b < σ.next → σ'.blk b = σ.blk b
theorem More.refl (σ : AHeap) : More σ σ := ⟨Nat.le_refl _, fun _ _ => rfl⟩
theorem More.trans {σ τ υ : AHeap} (h : More σ τ) (k : More τ υ) : More σ υ := ⟨Nat.le_trans h.next k.next, fun b hb => (k.blk b (Nat.lt_of_lt_of_le hb h.next)).trans (h.blk b hb)⟩
theorem More.bump (σ : AHeap) (n : Nat) : More σ (σ.bump n) := ⟨by simp, fun _ _ => rfl⟩
theorem More.bump' {σ τ : AHeap} (h : More σ τ) (n : Nat) : More σ (τ.bump n) := h.trans (.bump τ n)
theorem More.set {σ τ : AHeap} (h : More σ τ) {b : Nat} (x : ABlk) (hb : σ.next ≤ b) : More σ (τ.set b x) :=
  ⟨h.next, fun c hc => by rw [AHeap.set_blk, if_neg (by omega)]; exact h.blk c hc⟩
theorem More.del {σ τ : AHeap} (h : More σ τ) {b : Nat} (hb : σ.next ≤ b) : More σ (τ.del b) :=
  ⟨h.next, fun c hc => by rw [AHeap.del_blk, if_neg (by omega)]; exact h.blk c hc⟩

theorem wrap64 {n : Int} (h : -9223372036854775808 ≤ n ∧ n ≤ 9223372036854775807) : IntKind.i64.wrap n = n := IntWalk.i64_in n h
end Go.Abs

/- THE ABSTRACT MACHINE, part X: one rule per operation, for walks by hand. -/
namespace Go.Abs
open Go

/-- Only numbers of blocks have gone by. -/
def Gr (σ τ : AHeap) : Prop := ∃ n, τ = σ.bump n
theorem Gr.refl (σ : AHeap) : Gr σ σ := ⟨0, rfl⟩
theorem Gr.b {σ τ : AHeap} (h : Gr σ τ) (n : Nat) : Gr σ (τ.bump n) := by
  obtain ⟨m, rfl⟩ := h; exact ⟨m + n, bump_bump _ _ _⟩
theorem Gr.trans {σ τ υ : AHeap} (h : Gr σ τ) (k : Gr τ υ) : Gr σ υ := by
  obtain ⟨m, rfl⟩ := h; obtain ⟨n, rfl⟩ := k; exact ⟨m + n, bump_bump _ _ _⟩
theorem Gr.blk {σ τ : AHeap} (h : Gr σ τ) (b : Nat) : τ.blk b = σ.blk b := by obtain ⟨n, rfl⟩ := h; rfl
theorem Gr.ld {P : Program} {σ τ : AHeap} (h : Gr σ τ) {t : TypeId} {p v : Value} (hl : aload P σ t p = some v) : aload P τ t p = some v := by obtain ⟨n, rfl⟩ := h; exact hl
theorem Gr.next {σ τ : AHeap} (h : Gr σ τ) : σ.next ≤ τ.next := by obtain ⟨n, rfl⟩ := h; simp

theorem aload_set_ne {P : Program} {σ : AHeap} {c : Nat} {x : ABlk} {t : TypeId} {b o : Nat} (h : b ≠ c) : aload P (σ.set c x) t (.pointer (some ⟨b, o, none⟩)) = aload P σ t (.pointer (some ⟨b, o, none⟩)) := by
  simp only [aload, AHeap.set_blk, if_neg h]
theorem aload_bump (P : Program) (σ : AHeap) (n : Nat) (t : TypeId) (p : Value) : aload P (σ.bump n) t p = aload P σ t p := rfl
/-- Of a block that was just set, a cell. -/
theorem aload_cell {P : Program} {σ : AHeap} {b o : Nat} {cs : List Value} {e : TypeId} {rw : Bool} {t : TypeId} {T : ATy} {v : Value} (hb : σ.blk b = some (.cells cs e rw)) (ht : ty P t = some T) (ha : T.agg = false) (hv : cs[o]? = some v) : aload P σ t (.pointer (some ⟨b, o, none⟩)) = some v := by
  simp only [aload, hb, ht, ha]; exact hv
theorem aload_agg {P : Program} {σ : AHeap} {b o : Nat} {cs : List Value} {e : TypeId} {rw : Bool} {t : TypeId} {T : ATy} (hb : σ.blk b = some (.cells cs e rw)) (ht : ty P t = some T) (ha : T.agg = true) (hl : o + T.size ≤ cs.length) : aload P σ t (.pointer (some ⟨b, o, none⟩)) = some (.agg ((cs.drop o).take T.size).toArray) := by
  simp only [aload, hb, ht, ha, if_true, if_pos hl]
theorem blk_set (σ : AHeap) (b : Nat) (x : ABlk) : (σ.set b x).blk b = some x := by rw [AHeap.set_blk, if_pos rfl]
theorem blk_ne {σ : AHeap} {b c : Nat} {x : ABlk} (h : b ≠ c) : (σ.set c x).blk b = σ.blk b := by rw [AHeap.set_blk, if_neg h]

theorem astore_to {P : Program} {σ : AHeap} {b o : Nat} {cs : List Value} {e : TypeId} {t : TypeId} {T : ATy} {v : Value} (hb : σ.blk b = some (.cells cs e true)) (ht : ty P t = some T) (hv : v.cells.size = T.size) (hl : o + T.size ≤ cs.length) (hn : isTuple v = false) :
    astore P σ t (.pointer (some ⟨b, o, none⟩)) v = some (σ.set b (.cells (setRange cs o v.cells.toList) e true)) := by
  simp only [astore, hb, ht]; rw [if_pos ⟨hv, hl, hn⟩]

section
variable {P : Program} {ro : Option Nat} {f : FuncId} {N : Nat} {R : Value → AHeap → Prop} {k : List Item} {gds : List (Option Tmp)} {r : List SOp} {fr : Fr} {σ : AHeap}

theorem AGo.reg {id : Nat} {l : List Oper} (h : AReg P ro f N (l.map (·.dst)) (l.map slim) k R fr σ) : AGo P ro f N (.code (.region id l.toArray false) :: k) R fr σ := AGo.code rfl rfl h

theorem aop_of {d : Tmp} {o : Op} {v : Value} {σ' : AHeap} (hd : decide (d < N) = true) (h : aexec P (σ.bump 1) σ.next fr o = some (v, σ')) : aop P N gds ⟨some d, o, none⟩ fr σ = some (aput fr d v, σ') := by
  simp only [aop, dstOk, hd, awanted, h, adst]
theorem aop_of0 {o : Op} {v : Value} {σ' : AHeap} (h : aexec P (σ.bump 1) σ.next fr o = some (v, σ')) : aop P N gds ⟨none, o, none⟩ fr σ = some (fr, σ') := by
  simp only [aop, dstOk, awanted, h, adst]

theorem AReg.has {fr' : Fr} {L : List SOp} (hs : ∀ t v, aget fr' t = some v → aget fr t = some v) (h : AReg P ro f N gds L k R fr' σ) : AReg P ro f N gds L k R fr σ := fun ops is e1 e2 => AGo.weaken hs (h ops is e1 e2)
theorem cons_aput {d : Tmp} {v : Value} {t : Nat} {u : Value} (h : aget ((d, v) :: fr) t = some u) : aget (aput fr d v) t = some u := by
  rw [aget_aput]; rw [aget_cons] at h; exact h

/-- An operation that leaves a value. -/
theorem AReg.val {d : Tmp} {o : Op} {v : Value} {σ' : AHeap} (hd : decide (d < N) = true) (h : aexec P (σ.bump 1) σ.next fr o = some (v, σ')) (hgo : AReg P ro f N gds r k R ((d, v) :: fr) σ') : AReg P ro f N gds (⟨some d, o, none⟩ :: r) k R fr σ := AReg.op (aop_of hd h) (AReg.has (fun _ _ => cons_aput) hgo)
theorem AReg.eff {o : Op} {v : Value} {σ' : AHeap} (h : aexec P (σ.bump 1) σ.next fr o = some (v, σ')) (hgo : AReg P ro f N gds r k R fr σ') : AReg P ro f N gds (⟨none, o, none⟩ :: r) k R fr σ := AReg.op (aop_of0 h) hgo

theorem AReg.move {d : Tmp} {x : Operand} {v : Value} (hd : decide (d < N) = true) (hx : aeval fr x = some v) (hgo : AReg P ro f N gds r k R ((d, v) :: fr) (σ.bump 1)) : AReg P ro f N gds (⟨some d, .move x, none⟩ :: r) k R fr σ :=
  AReg.val hd (by simp only [aexec, hx, Option.map_some]) hgo
theorem AReg.assign {d : Tmp} {x : Operand} {v : Value} (hd : decide (d < N) = true) (hx : aeval fr x = some v) (hgo : AReg P ro f N gds r k R ((d, v) :: fr) (σ.bump 1)) : AReg P ro f N gds (⟨some d, .assign x, none⟩ :: r) k R fr σ :=
  AReg.val hd (by simp only [aexec, hx, Option.map_some]) hgo
theorem AReg.lss {d : Tmp} {x y : Operand} {t u : TypeId} {kd : IntKind} {a b : Int} (hd : decide (d < N) = true) (hx : aeval fr x = some (.int kd a)) (hy : aeval fr y = some (.int kd b)) (hgo : AReg P ro f N gds r k R ((d, (.bool (decide (a < b)))) :: fr) (σ.bump 1)) : AReg P ro f N gds (⟨some d, .binOp .lss t x y u, none⟩ :: r) k R fr σ :=
  AReg.val hd (by simp only [aexec, hx, hy, abinT, abin, if_pos, Option.map_some]) hgo
theorem AReg.leq {d : Tmp} {x y : Operand} {t u : TypeId} {kd : IntKind} {a b : Int} (hd : decide (d < N) = true) (hx : aeval fr x = some (.int kd a)) (hy : aeval fr y = some (.int kd b)) (hgo : AReg P ro f N gds r k R ((d, (.bool (decide (a ≤ b)))) :: fr) (σ.bump 1)) : AReg P ro f N gds (⟨some d, .binOp .leq t x y u, none⟩ :: r) k R fr σ :=
  AReg.val hd (by simp only [aexec, hx, hy, abinT, abin, if_pos, Option.map_some]) hgo
theorem AReg.gtr {d : Tmp} {x y : Operand} {t u : TypeId} {kd : IntKind} {a b : Int} (hd : decide (d < N) = true) (hx : aeval fr x = some (.int kd a)) (hy : aeval fr y = some (.int kd b)) (hgo : AReg P ro f N gds r k R ((d, (.bool (decide (a > b)))) :: fr) (σ.bump 1)) : AReg P ro f N gds (⟨some d, .binOp .gtr t x y u, none⟩ :: r) k R fr σ :=
  AReg.val hd (by simp only [aexec, hx, hy, abinT, abin, if_pos, Option.map_some]) hgo
theorem AReg.geq {d : Tmp} {x y : Operand} {t u : TypeId} {kd : IntKind} {a b : Int} (hd : decide (d < N) = true) (hx : aeval fr x = some (.int kd a)) (hy : aeval fr y = some (.int kd b)) (hgo : AReg P ro f N gds r k R ((d, (.bool (decide (a ≥ b)))) :: fr) (σ.bump 1)) : AReg P ro f N gds (⟨some d, .binOp .geq t x y u, none⟩ :: r) k R fr σ :=
  AReg.val hd (by simp only [aexec, hx, hy, abinT, abin, if_pos, Option.map_some]) hgo
theorem AReg.eql {d : Tmp} {x y : Operand} {t u : TypeId} {kd : IntKind} {a b : Int} (hd : decide (d < N) = true) (hx : aeval fr x = some (.int kd a)) (hy : aeval fr y = some (.int kd b)) (hgo : AReg P ro f N gds r k R ((d, (.bool (decide (a = b)))) :: fr) (σ.bump 1)) : AReg P ro f N gds (⟨some d, .binOp .eql t x y u, none⟩ :: r) k R fr σ :=
  AReg.val hd (by simp only [aexec, hx, hy, abinT, abin, if_pos, Option.map_some]; rfl) hgo
theorem AReg.neq {d : Tmp} {x y : Operand} {t u : TypeId} {kd : IntKind} {a b : Int} (hd : decide (d < N) = true) (hx : aeval fr x = some (.int kd a)) (hy : aeval fr y = some (.int kd b)) (hgo : AReg P ro f N gds r k R ((d, (.bool (decide (a ≠ b)))) :: fr) (σ.bump 1)) : AReg P ro f N gds (⟨some d, .binOp .neq t x y u, none⟩ :: r) k R fr σ := by
  have e : (a != b) = decide (a ≠ b) := by by_cases h : a = b <;> simp [h]
  exact AReg.val hd (by simp only [aexec, hx, hy, abinT, abin, if_pos, Option.map_some, e]) hgo
theorem AReg.add {d : Tmp} {x y : Operand} {t u : TypeId} {a b : Int} (hd : decide (d < N) = true) (hx : aeval fr x = some (.int .i64 a)) (hy : aeval fr y = some (.int .i64 b)) (hr : -9223372036854775808 ≤ a + b ∧ a + b ≤ 9223372036854775807) (hgo : AReg P ro f N gds r k R ((d, (.int .i64 (a + b))) :: fr) (σ.bump 1)) : AReg P ro f N gds (⟨some d, .binOp .add t x y u, none⟩ :: r) k R fr σ :=
  AReg.val hd (by simp only [aexec, hx, hy, abinT, abin, if_pos, Option.map_some, wrap64 hr]) hgo
theorem AReg.sub {d : Tmp} {x y : Operand} {t u : TypeId} {a b : Int} (hd : decide (d < N) = true) (hx : aeval fr x = some (.int .i64 a)) (hy : aeval fr y = some (.int .i64 b)) (hr : -9223372036854775808 ≤ a - b ∧ a - b ≤ 9223372036854775807) (hgo : AReg P ro f N gds r k R ((d, (.int .i64 (a - b))) :: fr) (σ.bump 1)) : AReg P ro f N gds (⟨some d, .binOp .sub t x y u, none⟩ :: r) k R fr σ :=
  AReg.val hd (by simp only [aexec, hx, hy, abinT, abin, if_pos, Option.map_some, wrap64 hr]) hgo
theorem AReg.mul {d : Tmp} {x y : Operand} {t u : TypeId} {a b : Int} (hd : decide (d < N) = true) (hx : aeval fr x = some (.int .i64 a)) (hy : aeval fr y = some (.int .i64 b)) (hr : -9223372036854775808 ≤ a * b ∧ a * b ≤ 9223372036854775807) (hgo : AReg P ro f N gds r k R ((d, (.int .i64 (a * b))) :: fr) (σ.bump 1)) : AReg P ro f N gds (⟨some d, .binOp .mul t x y u, none⟩ :: r) k R fr σ :=
  AReg.val hd (by simp only [aexec, hx, hy, abinT, abin, if_pos, Option.map_some, wrap64 hr]) hgo
theorem AReg.not {d : Tmp} {x : Operand} {t : TypeId} {b : Bool} (hd : decide (d < N) = true) (hx : aeval fr x = some (.bool b)) (hgo : AReg P ro f N gds r k R ((d, (.bool !b)) :: fr) (σ.bump 1)) : AReg P ro f N gds (⟨some d, .unOp .not t x, none⟩ :: r) k R fr σ :=
  AReg.val hd (by simp only [aexec, hx, aun, Option.map_some]) hgo
theorem AReg.lenS {d : Tmp} {x : Operand} {t : TypeId} {a : Option Addr} {n c : Nat} {e : TypeId} {s b : Nat} {z : Option Value} (hd : decide (d < N) = true) (hx : aeval fr x = some (.slice a n c)) (ht : ty P t = some ⟨.slice e, s, b, z⟩) (hgo : AReg P ro f N gds r k R ((d, (.int .i64 n)) :: fr) (σ.bump 1)) :
    AReg P ro f N gds (⟨some d, .call { callee := .builtin .len, args := #[x], argTypes := #[t] }, none⟩ :: r) k R fr σ :=
  AReg.val hd (by simp [aexec, aevals, hx, abuiltin, alen, tk, ht]) hgo
theorem AReg.idx {d : Tmp} {x y : Operand} {t : TypeId} {b off n c j : Nat} {kd : IntKind} {e : TypeId} {s bt : Nat} {z : Option Value} {E : ATy} (hd : decide (d < N) = true) (hx : aeval fr x = some (.slice (some ⟨b, off, none⟩) n c)) (hy : aeval fr y = some (.int kd (j : Int))) (ht : ty P t = some ⟨.slice e, s, bt, z⟩) (he : ty P e = some E) (hj : j < n)
    (hgo : AReg P ro f N gds r k R ((d, (.pointer (some ⟨b, off + j * E.size, none⟩))) :: fr) (σ.bump 1)) : AReg P ro f N gds (⟨some d, .indexAddr t x y, none⟩ :: r) k R fr σ :=
  AReg.val hd (by simp only [aexec, hx, hy, aindexAddr, ht, he]; rw [if_pos ⟨by omega, by omega⟩]; simp only [Int.toNat_natCast, Option.map_some]) hgo
theorem AReg.load {d : Tmp} {x : Operand} {t : TypeId} {p v : Value} (hd : decide (d < N) = true) (hx : aeval fr x = some p) (hl : aload P (σ.bump 1) t p = some v) (hgo : AReg P ro f N gds r k R ((d, v) :: fr) (σ.bump 1)) : AReg P ro f N gds (⟨some d, .load t x, none⟩ :: r) k R fr σ :=
  AReg.val hd (by simp only [aexec, hx, hl, Option.map_some]) hgo
theorem AReg.store {x y : Operand} {t : TypeId} {p v : Value} {σ' : AHeap} (hx : aeval fr x = some p) (hy : aeval fr y = some v) (hs : astore P (σ.bump 1) t p v = some σ') (hgo : AReg P ro f N gds r k R fr σ') : AReg P ro f N gds (⟨none, .store t x y, none⟩ :: r) k R fr σ :=
  AReg.eff (v := .tuple #[]) (by simp only [aexec, hx, hy, hs, Option.map_some]) hgo
theorem AReg.extract {d : Tmp} {x : Operand} {i : Nat} {vs : Array Value} {v : Value} (hd : decide (d < N) = true) (hx : aeval fr x = some (.tuple vs)) (hv : vs[i]? = some v) (hgo : AReg P ro f N gds r k R ((d, v) :: fr) (σ.bump 1)) : AReg P ro f N gds (⟨some d, .extract x i, none⟩ :: r) k R fr σ :=
  AReg.val hd (by simp only [aexec, hx, aextract, hv, Option.map_some]) hgo
theorem AReg.box {d : Tmp} {e : TypeId} {x : Operand} {v : Value} (hd : decide (d < N) = true) (hx : aeval fr x = some v) (hv : isTuple v = false) (he : (ty P e).isSome = true)
    (hgo : AReg P ro f N gds r k R ((d, (.pointer (some ⟨σ.next, 0, none⟩))) :: fr) ((σ.bump 1).set σ.next (.cells v.cells.toList e true))) : AReg P ro f N gds (⟨some d, .box e x, none⟩ :: r) k R fr σ :=
  AReg.val hd (by simp only [aexec, hx, hv, anew, he, if_true, Bool.false_eq_true, if_false, Option.map_some]) hgo
theorem AReg.alloc {d : Tmp} {e : TypeId} {kk : AKind} {s b : Nat} {z : Value} (hd : decide (d < N) = true) (he : ty P e = some ⟨kk, s, b, some z⟩) (hz : closedV z = true)
    (hgo : AReg P ro f N gds r k R ((d, (.pointer (some ⟨σ.next, 0, none⟩))) :: fr) ((σ.bump 1).set σ.next (.cells z.cells.toList e true))) : AReg P ro f N gds (⟨some d, .alloc e, none⟩ :: r) k R fr σ :=
  AReg.val hd (by simp only [aexec, he, hz, if_true, anew, Option.isSome_some, Option.map_some]) hgo
theorem AReg.fieldA {d : Tmp} {t : TypeId} {x : Operand} {i b off : Nat} {fs : List (Nat × TypeId)} {s bt : Nat} {z : Option Value} {o : Nat} {u : TypeId} {U : ATy} (hd : decide (d < N) = true) (hx : aeval fr x = some (.pointer (some ⟨b, off, none⟩))) (ht : ty P t = some ⟨.struct fs, s, bt, z⟩)
    (hf : fs[i]? = some (o, u)) (hu : ty P u = some U) (h0 : Nat.beq U.size 0 = false) (hgo : AReg P ro f N gds r k R ((d, (.pointer (some ⟨b, off + o, none⟩))) :: fr) (σ.bump 1)) : AReg P ro f N gds (⟨some d, .fieldAddr t x i, none⟩ :: r) k R fr σ :=
  AReg.val hd (by simp only [aexec, hx, afieldAddr, ht, hf, tsz, hu]; rw [if_neg (Nat.ne_of_beq_eq_false h0)]; rfl) hgo
theorem AReg.makeFunc {d : Tmp} {g : FuncId} {a b : Array Operand} {xs ys : List Value} (hd : decide (d < N) = true) (ha : aevals fr a.toList = some xs) (hb : aevals fr b.toList = some ys)
    (hgo : AReg P ro f N gds r k R ((d, (.func (.func g) xs.toArray ys.toArray)) :: fr) (σ.bump 1)) : AReg P ro f N gds (⟨some d, .makeFunc (.func g) a b, none⟩ :: r) k R fr σ :=
  AReg.val hd (by simp only [aexec, ha, hb]) hgo
theorem AReg.build {d : Tmp} {t : TypeId} {ps : Array (Nat × Operand)} {qs : List (Nat × Value)} {v : Value} (hd : decide (d < N) = true) (hp : aparts fr ps.toList = some qs) (hb : abuild P t qs = some v) (hgo : AReg P ro f N gds r k R ((d, v) :: fr) (σ.bump 1)) : AReg P ro f N gds (⟨some d, .build t ps, none⟩ :: r) k R fr σ :=
  AReg.val hd (by simp only [aexec, hp, hb, Option.map_some]) hgo
theorem AReg.slc {d : Tmp} {t : TypeId} {x : Operand} {lo hi : Option Operand} {u w : Value} {l h : Option Value} (hd : decide (d < N) = true) (hx : aeval fr x = some u) (hl : aevalO fr lo = some l) (hh : aevalO fr hi = some h) (hs : aslice2 P (σ.bump 1) t u l h = some w)
    (hgo : AReg P ro f N gds r k R ((d, w) :: fr) (σ.bump 1)) : AReg P ro f N gds (⟨some d, .slice t x lo hi none, none⟩ :: r) k R fr σ :=
  AReg.val hd (by simp only [aexec, hx, hl, hh, hs, Option.map_some]) hgo
theorem AReg.clear {t : TypeId} {T : ATy} {x : Operand} {v : Value} {σ' : AHeap} (hx : aeval fr x = some v) (ht : ty P t = some T) (hc : aclear P (σ.bump 1) t v = some σ') (hgo : AReg P ro f N gds r k R fr σ') : AReg P ro f N gds (⟨none, .call { callee := .builtin .clear, args := #[x], argTypes := #[t] }, none⟩ :: r) k R fr σ :=
  AReg.eff (v := .tuple #[]) (by simp [aexec, aevals, hx, abuiltin, tk, ht, hc]) hgo
/-- A call. -/
theorem AReg.go {d : Tmp} {o : Op} {g : FuncId} {vs : List Value} (hd : decide (d < N) = true) (hc : acallee fr o = some (g, vs)) (hb : hasBody P g = true) (h : ACalls P g vs σ fun v σ' => AReg P ro f N gds r k R ((d, v) :: fr) σ') : AReg P ro f N gds (⟨some d, o, none⟩ :: r) k R fr σ :=
  AReg.call (by simpa [dstOk] using hd) rfl hc hb (h.mono fun _ _ hh => AReg.has (fun _ _ => cons_aput) hh)
/-- Both ways of a condition. -/
theorem AGo.condD {c : Operand} {x y : Code} {p : Prop} [Decidable p] (hc : aeval fr c = some (.bool (decide p))) (hT : p → AGo P ro f N (.code x :: k) R fr σ) (hF : ¬p → AGo P ro f N (.code y :: k) R fr σ) : AGo P ro f N (.code (.cond c x y) :: k) R fr σ := by
  by_cases h : p
  · exact AGo.condT (by rw [hc, decide_eq_true h]) (hT h)
  · exact AGo.condF (by rw [hc, decide_eq_false h]) (hF h)
theorem AGo.condB {c : Operand} {x y : Code} {b : Bool} (hc : aeval fr c = some (.bool b)) (hT : b = true → AGo P ro f N (.code x :: k) R fr σ) (hF : b = false → AGo P ro f N (.code y :: k) R fr σ) : AGo P ro f N (.code (.cond c x y) :: k) R fr σ := by
  cases b with
  | true => exact AGo.condT hc (hT rfl)
  | false => exact AGo.condF hc (hF rfl)
end
end Go.Abs

/- THE ABSTRACT MACHINE, part Y: what an operation that only reads comes to; regions whose order is drawn, by hand. -/
namespace Go.Abs
open Go

/-- Operations that only read, one behind the other: literal frames. -/
inductive NR (P : Program) (N : Nat) (gds : List (Option Tmp)) (L : List SOp) (base : Nat) (σ : AHeap) : List Nat → Fr → List Ent → Fr → Prop
  | nil (fr : Fr) : NR P N gds L base σ [] fr [] fr
  | cons {i : Nat} {l : List Nat} {fr : Fr} {d : Tmp} {op : Op} {v : Value} {T : List Ent} {fr' : Fr} (ho : sget L i = some ⟨some d, op, none⟩) (hd : decide (d < N) = true) (hq : quietOp op = some true) (hx : aexec P σ (base + i) fr op = some (v, σ)) (h : NR P N gds L base σ l ((d, v) :: fr) T fr') :
      NR P N gds L base σ (i :: l) fr (⟨i, ⟨some d, op, none⟩, v, none⟩ :: T) fr'

section
variable {P : Program} {fr : Fr} {σ : AHeap} {id : Nat}
theorem ae_move {x : Operand} {v : Value} (hx : aeval fr x = some v) : aexec P σ id fr (.move x) = some (v, σ) := by simp only [aexec, hx, Option.map_some]
theorem ae_lss {x y : Operand} {t u : TypeId} {kd : IntKind} {a b : Int} (hx : aeval fr x = some (.int kd a)) (hy : aeval fr y = some (.int kd b)) : aexec P σ id fr (.binOp .lss t x y u) = some (.bool (decide (a < b)), σ) := by simp only [aexec, hx, hy, abinT, abin, if_pos, Option.map_some]
theorem ae_leq {x y : Operand} {t u : TypeId} {kd : IntKind} {a b : Int} (hx : aeval fr x = some (.int kd a)) (hy : aeval fr y = some (.int kd b)) : aexec P σ id fr (.binOp .leq t x y u) = some (.bool (decide (a ≤ b)), σ) := by simp only [aexec, hx, hy, abinT, abin, if_pos, Option.map_some]
theorem ae_gtr {x y : Operand} {t u : TypeId} {kd : IntKind} {a b : Int} (hx : aeval fr x = some (.int kd a)) (hy : aeval fr y = some (.int kd b)) : aexec P σ id fr (.binOp .gtr t x y u) = some (.bool (decide (a > b)), σ) := by simp only [aexec, hx, hy, abinT, abin, if_pos, Option.map_some]
theorem ae_geq {x y : Operand} {t u : TypeId} {kd : IntKind} {a b : Int} (hx : aeval fr x = some (.int kd a)) (hy : aeval fr y = some (.int kd b)) : aexec P σ id fr (.binOp .geq t x y u) = some (.bool (decide (a ≥ b)), σ) := by simp only [aexec, hx, hy, abinT, abin, if_pos, Option.map_some]
theorem ae_eql {x y : Operand} {t u : TypeId} {kd : IntKind} {a b : Int} (hx : aeval fr x = some (.int kd a)) (hy : aeval fr y = some (.int kd b)) : aexec P σ id fr (.binOp .eql t x y u) = some (.bool (decide (a = b)), σ) := by simp only [aexec, hx, hy, abinT, abin, if_pos, Option.map_some]; rfl
theorem ae_neq {x y : Operand} {t u : TypeId} {kd : IntKind} {a b : Int} (hx : aeval fr x = some (.int kd a)) (hy : aeval fr y = some (.int kd b)) : aexec P σ id fr (.binOp .neq t x y u) = some (.bool (decide (a ≠ b)), σ) := by
  have e : (a != b) = decide (a ≠ b) := by by_cases h : a = b <;> simp [h]
  simp only [aexec, hx, hy, abinT, abin, if_pos, Option.map_some, e]
theorem ae_add {x y : Operand} {t u : TypeId} {a b : Int} (hx : aeval fr x = some (.int .i64 a)) (hy : aeval fr y = some (.int .i64 b)) (hr : -9223372036854775808 ≤ a + b ∧ a + b ≤ 9223372036854775807) : aexec P σ id fr (.binOp .add t x y u) = some (.int .i64 (a + b), σ) := by simp only [aexec, hx, hy, abinT, abin, if_pos, Option.map_some, wrap64 hr]
theorem ae_sub {x y : Operand} {t u : TypeId} {a b : Int} (hx : aeval fr x = some (.int .i64 a)) (hy : aeval fr y = some (.int .i64 b)) (hr : -9223372036854775808 ≤ a - b ∧ a - b ≤ 9223372036854775807) : aexec P σ id fr (.binOp .sub t x y u) = some (.int .i64 (a - b), σ) := by simp only [aexec, hx, hy, abinT, abin, if_pos, Option.map_some, wrap64 hr]
theorem ae_mul {x y : Operand} {t u : TypeId} {a b : Int} (hx : aeval fr x = some (.int .i64 a)) (hy : aeval fr y = some (.int .i64 b)) (hr : -9223372036854775808 ≤ a * b ∧ a * b ≤ 9223372036854775807) : aexec P σ id fr (.binOp .mul t x y u) = some (.int .i64 (a * b), σ) := by simp only [aexec, hx, hy, abinT, abin, if_pos, Option.map_some, wrap64 hr]
theorem ae_not {x : Operand} {t : TypeId} {b : Bool} (hx : aeval fr x = some (.bool b)) : aexec P σ id fr (.unOp .not t x) = some (.bool !b, σ) := by simp only [aexec, hx, aun, Option.map_some]
theorem ae_len {x : Operand} {t : TypeId} {a : Option Addr} {n c : Nat} {e : TypeId} {s b : Nat} {z : Option Value} (hx : aeval fr x = some (.slice a n c)) (ht : ty P t = some ⟨.slice e, s, b, z⟩) : aexec P σ id fr (.call { callee := .builtin .len, args := #[x], argTypes := #[t] }) = some (.int .i64 n, σ) := by simp [aexec, aevals, hx, abuiltin, alen, tk, ht]
theorem ae_idx {x y : Operand} {t : TypeId} {b off n c j : Nat} {kd : IntKind} {e : TypeId} {s bt : Nat} {z : Option Value} {E : ATy} (hx : aeval fr x = some (.slice (some ⟨b, off, none⟩) n c)) (hy : aeval fr y = some (.int kd (j : Int))) (ht : ty P t = some ⟨.slice e, s, bt, z⟩) (he : ty P e = some E) (hj : j < n) :
    aexec P σ id fr (.indexAddr t x y) = some (.pointer (some ⟨b, off + j * E.size, none⟩), σ) := by
  simp only [aexec, hx, hy, aindexAddr, ht, he]; rw [if_pos ⟨by omega, by omega⟩]; simp only [Int.toNat_natCast, Option.map_some]
theorem ae_load {x : Operand} {t : TypeId} {p v : Value} (hx : aeval fr x = some p) (hl : aload P σ t p = some v) : aexec P σ id fr (.load t x) = some (v, σ) := by simp only [aexec, hx, hl, Option.map_some]
theorem ae_extract {x : Operand} {i : Nat} {vs : Array Value} {v : Value} (hx : aeval fr x = some (.tuple vs)) (hv : vs[i]? = some v) : aexec P σ id fr (.extract x i) = some (v, σ) := by simp only [aexec, hx, aextract, hv, Option.map_some]
end

section
variable {P : Program} {N : Nat} {gds : List (Option Tmp)} {L : List SOp} {base : Nat} {fr : Fr} {σ : AHeap}
/-! ### Regions whose order is drawn -/
def FEqv (fr fr' : Fr) : Prop := ∀ t, aget fr t = aget fr' t
theorem FEqv.refl (fr : Fr) : FEqv fr fr := fun _ => rfl
theorem FEqv.put {fr fr' : Fr} (h : FEqv fr fr') (d : Option Tmp) (v : Value) : FEqv (adst fr d v) (adst fr' d v) := by
  intro t
  cases d with
  | none => exact h t
  | some d => simp only [adst, aget_aput, h t]
theorem FEqv.cons {fr fr' : Fr} (h : FEqv fr fr') (d : Tmp) (v : Value) : FEqv (aput fr d v) ((d, v) :: fr') := by
  intro t; rw [aget_aput, aget_cons, h t]
theorem nval_feqv {fr fr' : Fr} (h : FEqv fr fr') (id : Nat) (o : SOp) : nval P N gds σ id fr o = nval P N gds σ id fr' o := by
  have hw : awanted gds fr o.guard = awanted gds fr' o.guard := by
    unfold awanted
    cases o.guard with
    | none => rfl
    | some x => obtain ⟨j, w⟩ := x; simp only; cases nth gds j with
      | none => rfl
      | some d => simp only [h d]
  simp only [nval, hw, aexec_congr (fr := fr) (fr' := fr') fun x _ => aeval_congr fun t _ => h t]
theorem nrun_feqv : ∀ {l : List Nat} {fr fr' : Fr}, FEqv fr fr' → nrun P N gds L base σ l fr = nrun P N gds L base σ l fr'
  | [], _, _, _ => rfl
  | i :: l, fr, fr', h => by
    simp only [nrun]
    cases sget L i with
    | none => rfl
    | some o =>
      simp only [nval_feqv h]
      cases nval P N gds σ (base + i) fr' o with
      | none => rfl
      | some x => obtain ⟨v, nb⟩ := x; simp only [nrun_feqv (l := l) (h.put o.dst v)]

theorem agree_nil (T : List Ent) : agree [] T := fun x hx => by cases hx
theorem NR.run {l : List Nat} {fr fr' : Fr} {T : List Ent} (h : NR P N gds L base σ l fr T fr') : ∀ {fr0 : Fr}, FEqv fr0 fr → nrun P N gds L base σ l fr0 = some T ∧ FEqv (putT fr0 T) fr' ∧ ∀ τ : AHeap, setT base τ T = τ := by
  induction h with
  | nil fr => intro fr0 h0; exact ⟨rfl, h0, fun _ => rfl⟩
  | @cons i l fr d op v T fr' ho hd hq hx _ ih =>
    intro fr0 h0
    obtain ⟨a, b, c⟩ := ih (h0.cons d v)
    have hv : nval P N gds σ (base + i) fr0 ⟨some d, op, none⟩ = some (v, none) := by
      rw [nval_feqv h0]
      simp only [nval, dstOk, hd, awanted, hq, hx, cond]
    refine ⟨?_, ?_, ?_⟩
    · simp only [nrun, ho, hv, adst, a]
    · exact b
    · intro τ; exact c τ
end

section
variable {P : Program} {ro : Option Nat} {f : FuncId} {N : Nat} {R : Value → AHeap → Prop} {fr : Fr} {σ : AHeap} {k : List Item}

theorem AGo.feqv {todo : List Item} {fr fr' : Fr} (h : FEqv fr fr') (hg : AGo P ro f N todo R fr' σ) : AGo P ro f N todo R fr σ := AGo.weaken (fun t v hv => by rw [h t]; exact hv) hg

/-- A drawn region that only reads. -/
theorem AGo.drawR {id : Nat} {l : List Oper} {T : List Ent} {fr' : Fr} (hm : P.follows .mixedOrders = true) (hB : drawB l.toArray [] (List.range l.length) = true)
    (hn : NR P N (l.map (·.dst)) (l.map slim) σ.next (σ.bump l.length) (List.range l.length) fr T fr') (h : AGo P ro f N k R fr' (σ.bump l.length)) : AGo P ro f N (.code (.region id l.toArray true) :: k) R fr σ := by
  obtain ⟨a, b, c⟩ := hn.run (FEqv.refl _)
  refine AGo.draw [] (List.range l.length) hm hB rfl rfl ⟨T, a, agree_nil _, ?_⟩
  rw [c]; exact AGo.feqv b h

/-- A drawn region with one call and operations that only read: A ahead of it, Af behind it. -/
theorem AGo.draw1 {id e : Nat} {l : List Oper} {A Af : List Nat} {T : List Ent} {fr' : Fr} {d : Tmp} {op : Op} {g : FuncId} {vs : List Value} (hm : P.follows .mixedOrders = true) (hB : drawB l.toArray [(A, e, [])] Af = true)
    (hn : NR P N (l.map (·.dst)) (l.map slim) σ.next (σ.bump l.length) A fr T fr') (ho : sget (l.map slim) e = some ⟨some d, op, none⟩) (hd : decide (d < N) = true) (hc : acallee fr' op = some (g, vs)) (hb : hasBody P g = true)
    (h : ACalls P g vs (σ.bump l.length) fun v σ1 => ∃ T' fr'', NR P N (l.map (·.dst)) (l.map slim) σ.next σ1 Af ((d, v) :: fr') T' fr'' ∧ AGo P ro f N k R fr'' σ1) : AGo P ro f N (.code (.region id l.toArray true) :: k) R fr σ := by
  obtain ⟨a, b, c⟩ := hn.run (FEqv.refl _)
  refine AGo.draw [(A, e, [])] Af hm hB rfl rfl ⟨T, [], _, a, rfl, agree_nil _, ho, ?_⟩
  refine ⟨by simpa [dstOk] using hd, .inr ⟨rfl, .inr ⟨g, vs, ?_, hb, ?_⟩⟩⟩
  · rw [acallee_congr (fr' := fr') fun x _ => aeval_congr fun t _ => b t]; exact hc
  · rw [c]
    refine h.mono fun v σ1 ⟨T', fr'', h1, h2⟩ => ?_
    obtain ⟨a', b', c'⟩ := h1.run (b.cons d v)
    refine ⟨T', a', agree_nil _, ?_⟩
    rw [c']; exact AGo.feqv b' h2
end

/-- The heap under a name. -/
theorem AGo.opq {P : Program} {ro : Option Nat} {f : FuncId} {N : Nat} {R : Value → AHeap → Prop} {fr : Fr} {σ : AHeap} {todo : List Item} (h : ∀ τ, τ = σ → AGo P ro f N todo R fr τ) : AGo P ro f N todo R fr σ := h σ rfl
theorem AReg.opq {P : Program} {ro : Option Nat} {f : FuncId} {N : Nat} {R : Value → AHeap → Prop} {gds : List (Option Tmp)} {L : List SOp} {k : List Item} {fr : Fr} {σ : AHeap} (h : ∀ τ, τ = σ → AReg P ro f N gds L k R fr τ) : AReg P ro f N gds L k R fr σ := h σ rfl
/-- A guarded operation that is wanted, and one that is not. -/
theorem AReg.valG {P : Program} {ro : Option Nat} {f : FuncId} {N : Nat} {R : Value → AHeap → Prop} {k : List Item} {gds : List (Option Tmp)} {r : List SOp} {fr : Fr} {σ σ' : AHeap} {d : Tmp} {o : Op} {g : Option (Nat × Bool)} {v : Value} (hd : decide (d < N) = true) (hw : awanted gds fr g = some true) (h : aexec P (σ.bump 1) σ.next fr o = some (v, σ'))
    (hgo : AReg P ro f N gds r k R ((d, v) :: fr) σ') : AReg P ro f N gds (⟨some d, o, g⟩ :: r) k R fr σ :=
  AReg.op (fr' := aput fr d v) (σ' := σ') (by simp only [aop, dstOk, hd, hw, h, adst]) (AReg.has (fun _ _ => cons_aput) hgo)
theorem AReg.skipG {P : Program} {ro : Option Nat} {f : FuncId} {N : Nat} {R : Value → AHeap → Prop} {k : List Item} {gds : List (Option Tmp)} {r : List SOp} {fr : Fr} {σ : AHeap} {d : Tmp} {o : Op} {g : Option (Nat × Bool)} (hd : decide (d < N) = true) (hw : awanted gds fr g = some false)
    (hgo : AReg P ro f N gds r k R ((d, .tuple #[]) :: fr) σ) : AReg P ro f N gds (⟨some d, o, g⟩ :: r) k R fr σ :=
  AReg.op (fr' := aput fr d (.tuple #[])) (σ' := σ) (by simp only [aop, dstOk, hd, hw, adst]) (AReg.has (fun _ _ => cons_aput) hgo)

/-- Both ways of a condition, which come together again: J holds there. -/
theorem AGo.condJ {P : Program} {ro : Option Nat} {f : FuncId} {N : Nat} {R : Value → AHeap → Prop} {fr : Fr} {σ : AHeap} {k : List Item} {c : Operand} {x y : Code} {b : Bool} (J : Fr → AHeap → Prop) (hc : aeval fr c = some (.bool b))
    (hT : b = true → (∀ fr' τ, J fr' τ → AGo P ro f N k R fr' τ) → AGo P ro f N (.code x :: k) R fr σ) (hF : b = false → (∀ fr' τ, J fr' τ → AGo P ro f N k R fr' τ) → AGo P ro f N (.code y :: k) R fr σ)
    (hk : ∀ fr' τ, J fr' τ → AGo P ro f N k R fr' τ) : AGo P ro f N (.code (.cond c x y) :: k) R fr σ := by
  cases b with
  | true => exact AGo.condT hc (hT rfl hk)
  | false => exact AGo.condF hc (hF rfl hk)
theorem ares_nil {P : Program} {fr : Fr} {σ : AHeap} : aresults P fr σ [] = some [] := rfl
theorem ares_cell {P : Program} {fr : Fr} {σ : AHeap} {a : Tmp} {t : TypeId} {r : List ResultVar} {p v : Value} {vs : List Value} (ha : aget fr a = some p) (hl : aload P σ t p = some v) (hr : aresults P fr σ r = some vs) : aresults P fr σ (.cell a t :: r) = some (v :: vs) := by
  simp only [aresults, aresult, ha, hl, hr]
theorem ares_tmp {P : Program} {fr : Fr} {σ : AHeap} {a : Tmp} {r : List ResultVar} {v : Value} {vs : List Value} (ha : aget fr a = some v) (hr : aresults P fr σ r = some vs) : aresults P fr σ (.tmp a :: r) = some (v :: vs) := by
  simp only [aresults, aresult, ha, hr]
theorem Gr.ofNext {σ : AHeap} {n : Nat} (h : σ.next ≤ n) : Gr σ ⟨n, σ.blk⟩ := ⟨n - σ.next, by simp only [AHeap.bump]; congr; omega⟩
/-- What was made on the way is no longer looked at. -/
theorem ACalls.drop {P : Program} {f : FuncId} {args : List Value} {σ : AHeap} {Q : Value → Prop} (h : ACalls P f args σ fun v σ' => Q v ∧ ∃ σ0, Gr σ σ0 ∧ Sub σ0 σ' ∧ σ0.next = σ'.next) : ACalls P f args σ fun v σ' => Q v ∧ Gr σ σ' :=
  h.sub fun _ _ ⟨h1, σ0, h2, h3, h4⟩ => ⟨σ0, h3, h4, h1, h2⟩
end Go.Abs

/- THE ABSTRACT MACHINE, part Z: more of what an operation comes to. -/
namespace Go.Abs
open Go
section
variable {P : Program} {fr : Fr} {σ : AHeap} {id : Nat}
theorem ae_assign {x : Operand} {v : Value} (hx : aeval fr x = some v) : aexec P σ id fr (.assign x) = some (v, σ) := by simp only [aexec, hx, Option.map_some]
theorem ae_bool {o : Op} {p q : Bool} {σ' : AHeap} (h : aexec P σ id fr o = some (.bool p, σ')) (e : p = q) : aexec P σ id fr o = some (.bool q, σ') := e ▸ h
theorem ae_pickT {c x y : Operand} {v : Value} (hc : aeval fr c = some (.bool true)) (hx : aeval fr x = some v) : aexec P σ id fr (.pick c x y) = some (v, σ) := by simp only [aexec, hc, hx, if_true, Option.map_some]
theorem ae_pickF {c x y : Operand} {v : Value} (hc : aeval fr c = some (.bool false)) (hy : aeval fr y = some v) : aexec P σ id fr (.pick c x y) = some (v, σ) := by simp only [aexec, hc, hy, Bool.false_eq_true, if_false, Option.map_some]
theorem ae_fieldA {t : TypeId} {x : Operand} {i b off : Nat} {fs : List (Nat × TypeId)} {s bt : Nat} {z : Option Value} {o : Nat} {u : TypeId} {U : ATy} (hx : aeval fr x = some (.pointer (some ⟨b, off, none⟩))) (ht : ty P t = some ⟨.struct fs, s, bt, z⟩)
    (hf : fs[i]? = some (o, u)) (hu : ty P u = some U) (h0 : Nat.beq U.size 0 = false) : aexec P σ id fr (.fieldAddr t x i) = some (.pointer (some ⟨b, off + o, none⟩), σ) := by
  simp only [aexec, hx, afieldAddr, ht, hf, tsz, hu]; rw [if_neg (Nat.ne_of_beq_eq_false h0)]; rfl
theorem ae_field {t : TypeId} {x : Operand} {i : Nat} {p v : Value} (hx : aeval fr x = some p) (hf : afield P t p i = some v) : aexec P σ id fr (.field t x i) = some (v, σ) := by simp only [aexec, hx, hf, Option.map_some]
theorem ae_makeFunc {g : FuncId} {a b : Array Operand} {xs ys : List Value} (ha : aevals fr a.toList = some xs) (hb : aevals fr b.toList = some ys) : aexec P σ id fr (.makeFunc (.func g) a b) = some (.func (.func g) xs.toArray ys.toArray, σ) := by simp only [aexec, ha, hb]
theorem ae_build {t : TypeId} {ps : Array (Nat × Operand)} {qs : List (Nat × Value)} {v : Value} (hp : aparts fr ps.toList = some qs) (hb : abuild P t qs = some v) : aexec P σ id fr (.build t ps) = some (v, σ) := by simp only [aexec, hp, hb, Option.map_some]
theorem ae_bin {op : BinOp} {t u : TypeId} {x y : Operand} {a b v : Value} (hx : aeval fr x = some a) (hy : aeval fr y = some b) (h : abinT P op t a b = some v) : aexec P σ id fr (.binOp op t x y u) = some (v, σ) := by simp only [aexec, hx, hy, h, Option.map_some]
theorem ae_box {e : TypeId} {x : Operand} {v : Value} (hx : aeval fr x = some v) (hv : isTuple v = false) (he : (ty P e).isSome = true) : aexec P σ id fr (.box e x) = some (.pointer (some ⟨id, 0, none⟩), σ.set id (.cells v.cells.toList e true)) := by
  simp only [aexec, hx, hv, anew, he, if_true, Bool.false_eq_true, if_false, Option.map_some]
theorem ae_alloc {e : TypeId} {kk : AKind} {s b : Nat} {z : Value} (he : ty P e = some ⟨kk, s, b, some z⟩) (hz : closedV z = true) : aexec P σ id fr (.alloc e) = some (.pointer (some ⟨id, 0, none⟩), σ.set id (.cells z.cells.toList e true)) := by
  simp only [aexec, he, hz, if_true, anew, Option.isSome_some, Option.map_some]
end
/-- An operation is known by what it comes to. -/
theorem AReg.ok {P : Program} {ro : Option Nat} {f : FuncId} {N : Nat} {R : Value → AHeap → Prop} {k : List Item} {gds : List (Option Tmp)} {r : List SOp} {fr : Fr} {σ σ' : AHeap} {d : Tmp} {o : Op} {v : Value} (hd : decide (d < N) = true) (h : aexec P (σ.bump 1) σ.next fr o = some (v, σ')) (hgo : AReg P ro f N gds r k R ((d, v) :: fr) σ') : AReg P ro f N gds (⟨some d, o, none⟩ :: r) k R fr σ := AReg.val hd h hgo
/-- A guarded call that is wanted. -/
theorem AReg.goG {P : Program} {ro : Option Nat} {f : FuncId} {N : Nat} {R : Value → AHeap → Prop} {k : List Item} {gds : List (Option Tmp)} {r : List SOp} {fr : Fr} {σ : AHeap} {d : Tmp} {o : Op} {gg : Option (Nat × Bool)} {g : FuncId} {vs : List Value} (hd : decide (d < N) = true) (hw : awanted gds fr gg = some true) (hc : acallee fr o = some (g, vs)) (hb : hasBody P g = true)
    (h : ACalls P g vs σ fun v σ' => AReg P ro f N gds r k R ((d, v) :: fr) σ') : AReg P ro f N gds (⟨some d, o, gg⟩ :: r) k R fr σ :=
  AReg.call (by simpa [dstOk] using hd) hw hc hb (h.mono fun _ _ hh => AReg.has (fun _ _ => cons_aput) hh)
/-- Values of a struct type that are the same. -/
theorem agg_same {P : Program} {t : TypeId} {x : Value} (hk : KeyOk P t) (hx : (match x with | .agg _ => true | _ => false) = true) (hp : plainKey x = true) (hs : (keyOf P t x).isSome = true) : abinT P .eql t x x = some (.bool true) ∧ abinT P .neq t x x = some (.bool false) := by
  cases x with
  | agg xs => simp only [abinT]; rw [if_pos ⟨hk, hp, hp, hs, hs⟩, if_pos ⟨hk, hp, hp, hs, hs⟩]; simp
  | _ => cases hx
/-- Ways through a region that come together behind it: J holds there. -/
theorem AReg.join {P : Program} {ro : Option Nat} {f : FuncId} {N : Nat} {R : Value → AHeap → Prop} {k : List Item} {gds : List (Option Tmp)} {L : List SOp} {fr : Fr} {σ : AHeap} (J : Fr → AHeap → Prop) (hk : ∀ fr' τ, J fr' τ → AGo P ro f N k R fr' τ) (h : (∀ fr' τ, J fr' τ → AGo P ro f N k R fr' τ) → AReg P ro f N gds L k R fr σ) : AReg P ro f N gds L k R fr σ := h hk
end Go.Abs

/- THE ABSTRACT MACHINE, part Zb: a walk through a region whose order is drawn. -/
namespace Go.Abs
open Go

/-- What is left of a drawn region, in one order that stands for all. -/
def DW (P : Program) (N : Nat) (gds : List (Option Tmp)) (L : List SOp) (base : Nat) (K : Fr → AHeap → Prop) (S : List Stage) (Af : List Nat) (fr : Fr) (σ : AHeap) : Prop :=
  ∀ fr0, FEqv fr0 fr → DGo P N gds L base K [] S Af fr0 σ

section
variable {P : Program} {N : Nat} {gds : List (Option Tmp)} {L : List SOp} {base : Nat} {K : Fr → AHeap → Prop} {S : List Stage} {Af A : List Nat} {e : Nat} {fr : Fr} {σ : AHeap}

theorem awanted_feqv {fr fr' : Fr} (h : FEqv fr fr') (g : Option (Nat × Bool)) : awanted gds fr g = awanted gds fr' g := by
  unfold awanted
  cases g with
  | none => rfl
  | some x => obtain ⟨j, w⟩ := x; simp only; cases nth gds j with
    | none => rfl
    | some d => simp only [h d]

/-- One reading operation. -/
theorem DW.step {i : Nat} {o : SOp} {v : Value} (ho : sget L i = some o) (hv : nval P N gds σ (base + i) fr o = some (v, none)) (h : DW P N gds L base K ((A, e, []) :: S) Af (adst fr o.dst v) σ) : DW P N gds L base K ((i :: A, e, []) :: S) Af fr σ := by
  intro fr0 h0
  obtain ⟨TA, TM, o', a1, a2, _, a4, a5⟩ := h _ (h0.put o.dst v)
  rw [← nval_feqv h0] at hv
  refine ⟨⟨i, o, v, none⟩ :: TA, TM, o', ?_, ?_, agree_nil _, a4, a5⟩
  · simp only [nrun, ho, hv, a1]
  · exact a2
theorem DW.last {i : Nat} {o : SOp} {v : Value} (ho : sget L i = some o) (hv : nval P N gds σ (base + i) fr o = some (v, none)) (h : DW P N gds L base K [] Af (adst fr o.dst v) σ) : DW P N gds L base K [] (i :: Af) fr σ := by
  intro fr0 h0
  obtain ⟨T, a1, _, a3⟩ := h _ (h0.put o.dst v)
  rw [← nval_feqv h0] at hv
  refine ⟨⟨i, o, v, none⟩ :: T, ?_, agree_nil _, a3⟩
  simp only [nrun, ho, hv, a1]
theorem DW.frame {fr' : Fr} (h : FEqv fr fr') (hd : DW P N gds L base K S Af fr' σ) : DW P N gds L base K S Af fr σ := fun fr0 h0 => hd fr0 fun t => (h0 t).trans (h t)
theorem feqv_cons (fr : Fr) (d : Tmp) (v : Value) : FEqv (adst fr (some d) v) ((d, v) :: fr) := (FEqv.refl fr).cons d v

theorem nval_read {id : Nat} {d : Tmp} {op : Op} {g : Option (Nat × Bool)} {v : Value} (hd : decide (d < N) = true) (hw : awanted gds fr g = some true) (hq : quietOp op = some true) (hx : aexec P σ id fr op = some (v, σ)) : nval P N gds σ id fr ⟨some d, op, g⟩ = some (v, none) := by
  simp only [nval, dstOk, hd, hw, hq, hx, cond]
theorem nval_skip {id : Nat} {d : Tmp} {op : Op} {g : Option (Nat × Bool)} (hd : decide (d < N) = true) (hw : awanted gds fr g = some false) : nval P N gds σ id fr ⟨some d, op, g⟩ = some (.tuple #[], none) := by
  simp only [nval, dstOk, hd, hw]

theorem DW.read {i : Nat} {d : Tmp} {op : Op} {g : Option (Nat × Bool)} {v : Value} (ho : sget L i = some ⟨some d, op, g⟩) (hd : decide (d < N) = true) (hw : awanted gds fr g = some true) (hq : quietOp op = some true) (hx : aexec P σ (base + i) fr op = some (v, σ))
    (h : DW P N gds L base K ((A, e, []) :: S) Af ((d, v) :: fr) σ) : DW P N gds L base K ((i :: A, e, []) :: S) Af fr σ :=
  DW.step ho (nval_read hd hw hq hx) (DW.frame (feqv_cons fr d v) h)
theorem DW.skip {i : Nat} {d : Tmp} {op : Op} {g : Option (Nat × Bool)} (ho : sget L i = some ⟨some d, op, g⟩) (hd : decide (d < N) = true) (hw : awanted gds fr g = some false)
    (h : DW P N gds L base K ((A, e, []) :: S) Af ((d, .tuple #[]) :: fr) σ) : DW P N gds L base K ((i :: A, e, []) :: S) Af fr σ :=
  DW.step ho (nval_skip hd hw) (DW.frame (feqv_cons fr d _) h)
theorem DW.readL {i : Nat} {d : Tmp} {op : Op} {g : Option (Nat × Bool)} {v : Value} (ho : sget L i = some ⟨some d, op, g⟩) (hd : decide (d < N) = true) (hw : awanted gds fr g = some true) (hq : quietOp op = some true) (hx : aexec P σ (base + i) fr op = some (v, σ))
    (h : DW P N gds L base K [] Af ((d, v) :: fr) σ) : DW P N gds L base K [] (i :: Af) fr σ :=
  DW.last ho (nval_read hd hw hq hx) (DW.frame (feqv_cons fr d v) h)
theorem DW.skipL {i : Nat} {d : Tmp} {op : Op} {g : Option (Nat × Bool)} (ho : sget L i = some ⟨some d, op, g⟩) (hd : decide (d < N) = true) (hw : awanted gds fr g = some false)
    (h : DW P N gds L base K [] Af ((d, .tuple #[]) :: fr) σ) : DW P N gds L base K [] (i :: Af) fr σ :=
  DW.last ho (nval_skip hd hw) (DW.frame (feqv_cons fr d _) h)
theorem DW.fin (h : ∀ fr0, FEqv fr0 fr → K fr0 σ) : DW P N gds L base K [] [] fr σ := fun fr0 h0 => ⟨[], rfl, agree_nil _, h fr0 h0⟩

theorem DW.exec {o : SOp} (ho : sget L e = some o) (h : ∀ fr0, FEqv fr0 fr → Exec P N gds (base + e) o fr0 σ fun v σ1 => DGo P N gds L base K [] S Af (adst fr0 o.dst v) σ1) : DW P N gds L base K (([], e, []) :: S) Af fr σ :=
  fun fr0 h0 => ⟨[], [], o, rfl, rfl, agree_nil _, ho, h fr0 h0⟩
/-- An operation with an effect. -/
theorem DW.eff {d : Tmp} {op : Op} {g : Option (Nat × Bool)} {v : Value} {σ1 : AHeap} (ho : sget L e = some ⟨some d, op, g⟩) (hd : decide (d < N) = true) (hw : awanted gds fr g = some true) (hx : aexec P σ (base + e) fr op = some (v, σ1))
    (h : DW P N gds L base K S Af ((d, v) :: fr) σ1) : DW P N gds L base K (([], e, []) :: S) Af fr σ :=
  DW.exec ho fun fr0 h0 => ⟨by simpa [dstOk] using hd, .inr ⟨by rw [awanted_feqv h0]; exact hw, .inl ⟨v, σ1, by rw [aexec_congr (fr' := fr) fun x _ => aeval_congr fun t _ => h0 t]; exact hx, h _ (h0.cons d v)⟩⟩⟩
theorem DW.eff0 {op : Op} {g : Option (Nat × Bool)} {v : Value} {σ1 : AHeap} (ho : sget L e = some ⟨none, op, g⟩) (hw : awanted gds fr g = some true) (hx : aexec P σ (base + e) fr op = some (v, σ1))
    (h : DW P N gds L base K S Af fr σ1) : DW P N gds L base K (([], e, []) :: S) Af fr σ :=
  DW.exec ho fun fr0 h0 => ⟨rfl, .inr ⟨by rw [awanted_feqv h0]; exact hw, .inl ⟨v, σ1, by rw [aexec_congr (fr' := fr) fun x _ => aeval_congr fun t _ => h0 t]; exact hx, h _ h0⟩⟩⟩
theorem DW.call {d : Tmp} {op : Op} {gg : Option (Nat × Bool)} {g : FuncId} {vs : List Value} (ho : sget L e = some ⟨some d, op, gg⟩) (hd : decide (d < N) = true) (hw : awanted gds fr gg = some true) (hc : acallee fr op = some (g, vs)) (hb : hasBody P g = true)
    (h : ACalls P g vs σ fun v σ1 => DW P N gds L base K S Af ((d, v) :: fr) σ1) : DW P N gds L base K (([], e, []) :: S) Af fr σ :=
  DW.exec ho fun fr0 h0 => ⟨by simpa [dstOk] using hd, .inr ⟨by rw [awanted_feqv h0]; exact hw, .inr ⟨g, vs, by rw [acallee_congr (fr' := fr) fun x _ => aeval_congr fun t _ => h0 t]; exact hc, hb, h.mono fun v σ1 hh => hh _ (h0.cons d v)⟩⟩⟩

/-- These operations do not look at the slot d and have no guard. -/
def offB (d : Tmp) (L : List SOp) (M : List Nat) : Bool := M.all fun i => match sget L i with
  | some o => !(opTmps o.op).contains d && o.guard.isNone
  | none => false
def EqOff (d : Tmp) (fr fr' : Fr) : Prop := ∀ t, t ≠ d → aget fr t = aget fr' t
theorem EqOff.put {d : Tmp} {fr fr' : Fr} (h : EqOff d fr fr') (x : Option Tmp) (v : Value) : EqOff d (adst fr x v) (adst fr' x v) := by
  intro t ht
  cases x with
  | none => exact h t ht
  | some x => simp only [adst, aget_aput, h t ht]
theorem nval_off {d : Tmp} {fr fr' : Fr} (h : EqOff d fr fr') {id : Nat} {o : SOp} (hn : ((opTmps o.op).contains d) = false) (hg : o.guard = none) : nval P N gds σ id fr o = nval P N gds σ id fr' o := by
  have e : aexec P σ id fr o.op = aexec P σ id fr' o.op := by
    refine aexec_congr fun x hx => aeval_congr fun t ht => h t fun htd => ?_
    subst htd
    have : t ∈ opTmps o.op := by
      simp only [opTmps, List.mem_filterMap]
      exact ⟨x, hx, by rw [ht]⟩
    simp only [List.contains_eq_mem, decide_eq_false_iff_not] at hn
    exact hn this
  simp only [nval, hg, awanted, e]
theorem nrun_off {d : Tmp} : ∀ {M : List Nat} {fr fr' : Fr}, offB d L M = true → EqOff d fr fr' → nrun P N gds L base σ M fr = nrun P N gds L base σ M fr'
  | [], _, _, _, _ => rfl
  | i :: M, fr, fr', hM, h => by
    simp only [offB, List.all_cons, Bool.and_eq_true] at hM
    obtain ⟨h1, h2⟩ := hM
    simp only [nrun]
    cases ho : sget L i with
    | none => rfl
    | some o =>
      rw [ho] at h1
      simp only [Bool.and_eq_true, Bool.not_eq_true', Option.isNone_iff_eq_none] at h1
      simp only [nval_off h h1.1 h1.2]
      cases nval P N gds σ (base + i) fr' o with
      | none => rfl
      | some x => obtain ⟨v, nb⟩ := x; simp only [nrun_off (M := M) (by simp only [offB]; exact h2) (h.put o.dst v)]
theorem nrun_app : ∀ {A B : List Nat} {fr : Fr} {T : List Ent}, nrun P N gds L base σ (A ++ B) fr = some T → ∃ T1 T2, nrun P N gds L base σ A fr = some T1 ∧ T = T1 ++ T2
  | [], B, fr, T, h => ⟨[], T, rfl, rfl⟩
  | i :: A, B, fr, T, h => by
    simp only [List.cons_append, nrun] at h ⊢
    cases ho : sget L i with
    | none => rw [ho] at h; cases h
    | some o =>
      rw [ho] at h
      simp only at h ⊢
      cases hv : nval P N gds σ (base + i) fr o with
      | none => rw [hv] at h; cases h
      | some x =>
        obtain ⟨v, nb⟩ := x
        rw [hv] at h
        simp only at h ⊢
        cases hr : nrun P N gds L base σ (A ++ B) (adst fr o.dst v) with
        | none => rw [hr] at h; cases h
        | some T' =>
          rw [hr] at h
          cases h
          obtain ⟨T1, T2, a, b⟩ := nrun_app hr
          exact ⟨⟨i, o, v, nb⟩ :: T1, T2, by rw [a], by rw [b]; rfl⟩
theorem agree_pre (T1 T2 T3 : List Ent) : agree T1 (T1 ++ T2 ++ T3) := fun x hx => ⟨x, by simp [hx], rfl, rfl, rfl⟩
/-- A slot is assigned to; the operations M may stand ahead of it or behind it. -/
theorem DW.assignM {d : Tmp} {x : Operand} {v : Value} {M A2 : List Nat} {e2 : Nat} {S2 : List Stage} (ho : sget L e = some ⟨some d, .assign x, none⟩) (hd : decide (d < N) = true) (hx : aeval fr x = some v) (hM : offB d L M = true)
    (h : DW P N gds L base K ((M ++ A2, e2, []) :: S2) Af ((d, v) :: fr) σ) : DW P N gds L base K (([], e, M) :: (M ++ A2, e2, []) :: S2) Af fr σ := by
  intro fr0 h0
  obtain ⟨TA, TM, o', a1, a2, _, a4, a5⟩ := h (adst fr0 (some d) v) (h0.cons d v)
  obtain ⟨T1, T2, b1, rfl⟩ := nrun_app a1
  have b2 : nrun P N gds L base σ M fr0 = some T1 := by
    rw [← b1]
    refine nrun_off hM fun t ht => ?_
    show aget fr0 t = aget (aput fr0 d v) t
    rw [aget_aput, if_neg (fun e => ht e.symm)]
  refine ⟨[], T1, _, rfl, b2, agree_nil _, ho, ?_⟩
  refine ⟨by simpa [dstOk] using hd, .inr ⟨rfl, .inl ⟨v, σ, ?_, ?_⟩⟩⟩
  · have : aeval fr0 x = some v := by rw [aeval_congr fun t _ => h0 t]; exact hx
    show aexec P σ (base + e) fr0 (.assign x) = _
    simp only [aexec, this, Option.map_some]
  · exact ⟨_, TM, o', a1, a2, agree_pre _ _ _, a4, a5⟩
theorem DW.assignML {d : Tmp} {x : Operand} {v : Value} {M A2 : List Nat} (ho : sget L e = some ⟨some d, .assign x, none⟩) (hd : decide (d < N) = true) (hx : aeval fr x = some v) (hM : offB d L M = true)
    (h : DW P N gds L base K [] (M ++ A2) ((d, v) :: fr) σ) : DW P N gds L base K (([], e, M) :: []) (M ++ A2) fr σ := by
  intro fr0 h0
  obtain ⟨TA, a1, _, a3⟩ := h (adst fr0 (some d) v) (h0.cons d v)
  obtain ⟨T1, T2, b1, rfl⟩ := nrun_app a1
  have b2 : nrun P N gds L base σ M fr0 = some T1 := by
    rw [← b1]
    refine nrun_off hM fun t ht => ?_
    show aget fr0 t = aget (aput fr0 d v) t
    rw [aget_aput, if_neg (fun e => ht e.symm)]
  refine ⟨[], T1, _, rfl, b2, agree_nil _, ho, ?_⟩
  refine ⟨by simpa [dstOk] using hd, .inr ⟨rfl, .inl ⟨v, σ, ?_, ?_⟩⟩⟩
  · have : aeval fr0 x = some v := by rw [aeval_congr fun t _ => h0 t]; exact hx
    show aexec P σ (base + e) fr0 (.assign x) = _
    simp only [aexec, this, Option.map_some]
  · exact ⟨_, a1, by simpa using agree_pre T1 T2 [], a3⟩
/-- These operations only move. -/
def moveB (L : List SOp) (M : List Nat) : Bool := M.all fun i => match sget L i with
  | some ⟨_, .move _, none⟩ => true
  | _ => false
theorem nrun_move {σ τ : AHeap} : ∀ {M : List Nat} {fr : Fr}, moveB L M = true → nrun P N gds L base σ M fr = nrun P N gds L base τ M fr
  | [], _, _ => rfl
  | i :: M, fr, h => by
    simp only [moveB, List.all_cons, Bool.and_eq_true] at h
    obtain ⟨h1, h2⟩ := h
    simp only [nrun]
    split at h1
    · rename_i d x ho
      rw [ho]
      simp only
      have e : nval P N gds σ (base + i) fr ⟨d, .move x, none⟩ = nval P N gds τ (base + i) fr ⟨d, .move x, none⟩ := by
        simp only [nval, aexec, quietOp, awanted]
        cases aeval fr x <;> rfl
      rw [e]
      cases nval P N gds τ (base + i) fr ⟨d, .move x, none⟩ with
      | none => rfl
      | some y => obtain ⟨v, nb⟩ := y; simp only [nrun_move (M := M) (σ := σ) (τ := τ) (by simp only [moveB]; exact h2)]
    · cases h1
/-- An operation with an effect; the moves M may stand ahead of it or behind it. -/
theorem DW.effM {d : Tmp} {op : Op} {v : Value} {σ1 : AHeap} {M A2 : List Nat} {e2 : Nat} {S2 : List Stage} (ho : sget L e = some ⟨some d, op, none⟩) (hd : decide (d < N) = true) (hx : aexec P σ (base + e) fr op = some (v, σ1)) (hM : offB d L M = true) (hP : moveB L M = true)
    (h : DW P N gds L base K ((M ++ A2, e2, []) :: S2) Af ((d, v) :: fr) σ1) : DW P N gds L base K (([], e, M) :: (M ++ A2, e2, []) :: S2) Af fr σ := by
  intro fr0 h0
  obtain ⟨TA, TM, o', a1, a2, _, a4, a5⟩ := h (adst fr0 (some d) v) (h0.cons d v)
  obtain ⟨T1, T2, b1, rfl⟩ := nrun_app a1
  have b2 : nrun P N gds L base σ M fr0 = some T1 := by
    rw [← b1, nrun_move (τ := σ1) hP]
    refine nrun_off hM fun t ht => ?_
    show aget fr0 t = aget (aput fr0 d v) t
    rw [aget_aput, if_neg (fun e => ht e.symm)]
  refine ⟨[], T1, _, rfl, b2, agree_nil _, ho, ?_⟩
  refine ⟨by simpa [dstOk] using hd, .inr ⟨rfl, .inl ⟨v, σ1, ?_, ?_⟩⟩⟩
  · show aexec P σ (base + e) fr0 op = _
    rw [aexec_congr (fr' := fr) fun x _ => aeval_congr fun t _ => h0 t]; exact hx
  · exact ⟨_, TM, o', a1, a2, agree_pre _ _ _, a4, a5⟩
/-- One reading operation in a stage with some that may stand behind it. -/
theorem DW.stepM {i : Nat} {M : List Nat} {o : SOp} {v : Value} (ho : sget L i = some o) (hv : nval P N gds σ (base + i) fr o = some (v, none)) (h : DW P N gds L base K ((A, e, M) :: S) Af (adst fr o.dst v) σ) : DW P N gds L base K ((i :: A, e, M) :: S) Af fr σ := by
  intro fr0 h0
  obtain ⟨TA, TM, o', a1, a2, _, a4, a5⟩ := h _ (h0.put o.dst v)
  rw [← nval_feqv h0] at hv
  refine ⟨⟨i, o, v, none⟩ :: TA, TM, o', ?_, ?_, agree_nil _, a4, a5⟩
  · simp only [nrun, ho, hv, a1]
  · exact a2
theorem DW.readM {i : Nat} {M : List Nat} {d : Tmp} {op : Op} {g : Option (Nat × Bool)} {v : Value} (ho : sget L i = some ⟨some d, op, g⟩) (hd : decide (d < N) = true) (hw : awanted gds fr g = some true) (hq : quietOp op = some true) (hx : aexec P σ (base + i) fr op = some (v, σ))
    (h : DW P N gds L base K ((A, e, M) :: S) Af ((d, v) :: fr) σ) : DW P N gds L base K ((i :: A, e, M) :: S) Af fr σ :=
  DW.stepM ho (nval_read hd hw hq hx) (DW.frame (feqv_cons fr d v) h)
end

/-- A drawn region: the effects e of S, each behind its A; the rest Af only reads. -/
theorem AGo.drawW {P : Program} {ro : Option Nat} {f : FuncId} {N : Nat} {R : Value → AHeap → Prop} {fr : Fr} {σ : AHeap} {k : List Item} {id : Nat} {l : List Oper} (S : List Stage) (Af : List Nat) (hm : P.follows .mixedOrders = true) (hB : drawB l.toArray S Af = true)
    (h : DW P N (l.map (·.dst)) (l.map slim) σ.next (fun fr σ => AGo P ro f N k R fr σ) S Af fr (σ.bump l.length)) : AGo P ro f N (.code (.region id l.toArray true) :: k) R fr σ :=
  AGo.draw S Af hm hB rfl rfl (h fr (FEqv.refl _))
theorem DW.done {P : Program} {ro : Option Nat} {f : FuncId} {N : Nat} {R : Value → AHeap → Prop} {fr : Fr} {σ : AHeap} {k : List Item} {gds : List (Option Tmp)} {L : List SOp} {base : Nat} (h : AGo P ro f N k R fr σ) : DW P N gds L base (fun fr σ => AGo P ro f N k R fr σ) [] [] fr σ :=
  DW.fin fun _ h0 => AGo.feqv h0 h
theorem ae_nilCheck {P : Program} {fr : Fr} {σ : AHeap} {id : Nat} {x : Operand} {p : Addr} (hx : aeval fr x = some (.pointer (some p))) : aexec P σ id fr (.nilCheck x) = some (.pointer (some p), σ) := by simp only [aexec, hx]
theorem ae_quo {P : Program} {fr : Fr} {σ : AHeap} {id : Nat} {x y : Operand} {t u : TypeId} {a b : Int} (hx : aeval fr x = some (.int .i64 a)) (hy : aeval fr y = some (.int .i64 b)) (h0 : b ≠ 0) (hr : -9223372036854775808 ≤ a.tdiv b ∧ a.tdiv b ≤ 9223372036854775807) : aexec P σ id fr (.binOp .quo t x y u) = some (.int .i64 (a.tdiv b), σ) := by
  simp only [aexec, hx, hy, abinT, abin]; rw [if_pos ⟨trivial, h0⟩, wrap64 hr]; rfl
theorem ae_rem {P : Program} {fr : Fr} {σ : AHeap} {id : Nat} {x y : Operand} {t u : TypeId} {a b : Int} (hx : aeval fr x = some (.int .i64 a)) (hy : aeval fr y = some (.int .i64 b)) (h0 : b ≠ 0) : aexec P σ id fr (.binOp .rem t x y u) = some (.int .i64 (a.tmod b), σ) := by
  simp only [aexec, hx, hy, abinT, abin]; rw [if_pos ⟨trivial, h0⟩]; rfl
theorem ae_idxA {P : Program} {fr : Fr} {σ : AHeap} {id : Nat} {x y : Operand} {t : TypeId} {b off n j : Nat} {kd : IntKind} {e : TypeId} {s bt : Nat} {z : Option Value} {E : ATy} (hx : aeval fr x = some (.pointer (some ⟨b, off, none⟩))) (hy : aeval fr y = some (.int kd (j : Int))) (ht : ty P t = some ⟨.array n e, s, bt, z⟩) (he : ty P e = some E) (hj : j < n) :
    aexec P σ id fr (.indexAddr t x y) = some (.pointer (some ⟨b, off + j * E.size, none⟩), σ) := by
  simp only [aexec, hx, hy, aindexAddr, ht, he]; rw [if_pos ⟨by omega, by omega⟩]; simp only [Int.toNat_natCast, Option.map_some]
theorem ae_idxAI {P : Program} {fr : Fr} {σ : AHeap} {id : Nat} {x y : Operand} {t : TypeId} {b off n j : Nat} {i : Int} {kd : IntKind} {e : TypeId} {s bt : Nat} {z : Option Value} {E : ATy} (hx : aeval fr x = some (.pointer (some ⟨b, off, none⟩))) (hy : aeval fr y = some (.int kd i)) (ht : ty P t = some ⟨.array n e, s, bt, z⟩) (he : ty P e = some E) (hi : i = (j : Int)) (hj : j < n) :
    aexec P σ id fr (.indexAddr t x y) = some (.pointer (some ⟨b, off + j * E.size, none⟩), σ) := by subst hi; exact ae_idxA hx hy ht he hj
theorem ae_buildSlice {P : Program} {fr : Fr} {σ σ' : AHeap} {id : Nat} {t : TypeId} {len : Nat} {ps : Array (Nat × Operand)} {qs : List (Nat × Value)} {v : Value} (hp : aparts fr ps.toList = some qs) (hb : abuildSlice P σ id t len qs = some (v, σ')) : aexec P σ id fr (.buildSlice t len ps) = some (v, σ') := by simp only [aexec, hp, hb]
theorem ae_store {P : Program} {fr : Fr} {σ σ' : AHeap} {id : Nat} {x y : Operand} {t : TypeId} {p v : Value} (hx : aeval fr x = some p) (hy : aeval fr y = some v) (hs : astore P σ t p v = some σ') : aexec P σ id fr (.store t x y) = some (.tuple #[], σ') := by simp only [aexec, hx, hy, hs, Option.map_some]
theorem ae_idxI {P : Program} {fr : Fr} {σ : AHeap} {id : Nat} {x y : Operand} {t : TypeId} {b off n c j : Nat} {i : Int} {kd : IntKind} {e : TypeId} {s bt : Nat} {z : Option Value} {E : ATy} (hx : aeval fr x = some (.slice (some ⟨b, off, none⟩) n c)) (hy : aeval fr y = some (.int kd i)) (ht : ty P t = some ⟨.slice e, s, bt, z⟩) (he : ty P e = some E) (hi : i = (j : Int)) (hj : j < n) :
    aexec P σ id fr (.indexAddr t x y) = some (.pointer (some ⟨b, off + j * E.size, none⟩), σ) := by subst hi; exact ae_idx hx hy ht he hj
theorem ae_convert {P : Program} {fr : Fr} {σ : AHeap} {id : Nat} {src dst : TypeId} {x : Operand} {k0 k : IntKind} {n : Int} {S : ATy} {sz b : Nat} {z : Option Value} (hx : aeval fr x = some (.int k0 n)) (hs : ty P src = some S) (hd : ty P dst = some ⟨.int k, sz, b, z⟩) (hw : k.wrap n = n) : aexec P σ id fr (.convert src dst x) = some (.int k n, σ) := by
  simp only [aexec, hx, aconvert, hs, hd, hw]
theorem ae_call {P : Program} {fr : Fr} {σ σ' : AHeap} {id : Nat} {b : Builtin} {as : Array Operand} {ts : Array TypeId} {vs : List Value} {v : Value} (hx : aevals fr as.toList = some vs) (hb : abuiltin P σ id b ts vs = some (v, σ')) : aexec P σ id fr (.call { callee := .builtin b, args := as, argTypes := ts }) = some (v, σ') := by
  simp only [aexec, hx, hb]
theorem ae_slice {P : Program} {fr : Fr} {σ : AHeap} {id : Nat} {t : TypeId} {x : Operand} {lo hi : Option Operand} {u w : Value} {l h : Option Value} (hx : aeval fr x = some u) (hl : aevalO fr lo = some l) (hh : aevalO fr hi = some h) (hs : aslice2 P σ t u l h = some w) : aexec P σ id fr (.slice t x lo hi none) = some (w, σ) := by
  simp only [aexec, hx, hl, hh, hs, Option.map_some]
theorem ae_makeSlice {P : Program} {fr : Fr} {σ σ' : AHeap} {id : Nat} {t : TypeId} {x y : Operand} {l c v : Value} (hx : aeval fr x = some l) (hy : aeval fr y = some c) (hs : amakeSlice P σ id t l c = some (v, σ')) : aexec P σ id fr (.makeSlice t x y) = some (v, σ') := by simp only [aexec, hx, hy, hs]
section
variable {P : Program} {ro : Option Nat} {f : FuncId} {N : Nat} {R : Value → AHeap → Prop} {k : List Item} {gds : List (Option Tmp)} {r : List SOp} {fr : Fr} {σ : AHeap}
/-- New blocks under a name. -/
theorem AReg.buildSliceO {d : Tmp} {t : TypeId} {len : Nat} {ps : Array (Nat × Operand)} {qs : List (Nat × Value)} {cs : List Value} {e : TypeId} (hd : decide (d < N) = true) (hp : aparts fr ps.toList = some qs)
    (hb : ∀ σ id, abuildSlice P σ id t len qs = some (.slice (some ⟨id, 0, none⟩) len len, σ.set id (.cells cs e true)))
    (hgo : ∀ C τ, σ.next ≤ C → C < τ.next → τ.blk C = some (.cells cs e true) → More σ τ → AReg P ro f N gds r k R ((d, .slice (some ⟨C, 0, none⟩) len len) :: fr) τ) : AReg P ro f N gds (⟨some d, .buildSlice t len ps, none⟩ :: r) k R fr σ :=
  AReg.val hd (ae_buildSlice hp (hb _ _)) (hgo _ _ (Nat.le_refl _) (by simp) (blk_set _ _ _) (((More.refl σ).bump' 1).set _ (Nat.le_refl _)))
theorem AReg.newV (g : Nat → Value) (x : ABlk) {d : Tmp} {o : Op} (hd : decide (d < N) = true) (h : ∀ σ id, aexec P σ id fr o = some (g id, σ.set id x))
    (hgo : ∀ C τ, σ.next ≤ C → C < τ.next → τ.blk C = some x → More σ τ → AReg P ro f N gds r k R ((d, g C) :: fr) τ) : AReg P ro f N gds (⟨some d, o, none⟩ :: r) k R fr σ :=
  AReg.val hd (h _ _) (hgo _ _ (Nat.le_refl _) (by simp) (blk_set _ _ _) (((More.refl σ).bump' 1).set _ (Nat.le_refl _)))
theorem AReg.boxO {d : Tmp} {e : TypeId} {x : Operand} {v : Value} (hd : decide (d < N) = true) (hx : aeval fr x = some v) (hv : isTuple v = false) (he : (ty P e).isSome = true)
    (hgo : ∀ C τ, σ.next ≤ C → C < τ.next → τ.blk C = some (.cells v.cells.toList e true) → More σ τ → AReg P ro f N gds r k R ((d, .pointer (some ⟨C, 0, none⟩)) :: fr) τ) : AReg P ro f N gds (⟨some d, .box e x, none⟩ :: r) k R fr σ :=
  AReg.val hd (ae_box hx hv he) (hgo _ _ (Nat.le_refl _) (by simp) (blk_set _ _ _) (((More.refl σ).bump' 1).set _ (Nat.le_refl _)))
theorem AReg.allocO {d : Tmp} {e : TypeId} {kk : AKind} {s b : Nat} {z : Value} (hd : decide (d < N) = true) (he : ty P e = some ⟨kk, s, b, some z⟩) (hz : closedV z = true)
    (hgo : ∀ C τ, σ.next ≤ C → C < τ.next → τ.blk C = some (.cells z.cells.toList e true) → More σ τ → AReg P ro f N gds r k R ((d, .pointer (some ⟨C, 0, none⟩)) :: fr) τ) : AReg P ro f N gds (⟨some d, .alloc e, none⟩ :: r) k R fr σ :=
  AReg.val hd (ae_alloc he hz) (hgo _ _ (Nat.le_refl _) (by simp) (blk_set _ _ _) (((More.refl σ).bump' 1).set _ (Nat.le_refl _)))
end
end Go.Abs

/- THE ABSTRACT MACHINE, part Zc (printed by mkZc.py): what an operation comes to, as a proposition of its own, so that no attempt unfolds it. -/
namespace Go.Abs
open Go
structure EX (P : Program) (σ : AHeap) (id : Nat) (fr : Fr) (o : Op) (v : Value) (σ' : AHeap) : Prop where
  eq : aexec P σ id fr o = some (v, σ')
section
variable {P : Program} {fr : Fr} {σ : AHeap} {id : Nat}
theorem ex_move {x : Operand} {v : Value} (hx : aeval fr x = some v) : EX P σ id fr (.move x) (v) (σ) := ⟨ae_move hx⟩
theorem ex_lss {x y : Operand} {t u : TypeId} {kd : IntKind} {a b : Int} (hx : aeval fr x = some (.int kd a)) (hy : aeval fr y = some (.int kd b)) : EX P σ id fr (.binOp .lss t x y u) (.bool (decide (a < b))) (σ) := ⟨ae_lss hx hy⟩
theorem ex_leq {x y : Operand} {t u : TypeId} {kd : IntKind} {a b : Int} (hx : aeval fr x = some (.int kd a)) (hy : aeval fr y = some (.int kd b)) : EX P σ id fr (.binOp .leq t x y u) (.bool (decide (a ≤ b))) (σ) := ⟨ae_leq hx hy⟩
theorem ex_gtr {x y : Operand} {t u : TypeId} {kd : IntKind} {a b : Int} (hx : aeval fr x = some (.int kd a)) (hy : aeval fr y = some (.int kd b)) : EX P σ id fr (.binOp .gtr t x y u) (.bool (decide (a > b))) (σ) := ⟨ae_gtr hx hy⟩
theorem ex_geq {x y : Operand} {t u : TypeId} {kd : IntKind} {a b : Int} (hx : aeval fr x = some (.int kd a)) (hy : aeval fr y = some (.int kd b)) : EX P σ id fr (.binOp .geq t x y u) (.bool (decide (a ≥ b))) (σ) := ⟨ae_geq hx hy⟩
theorem ex_eql {x y : Operand} {t u : TypeId} {kd : IntKind} {a b : Int} (hx : aeval fr x = some (.int kd a)) (hy : aeval fr y = some (.int kd b)) : EX P σ id fr (.binOp .eql t x y u) (.bool (decide (a = b))) (σ) := ⟨ae_eql hx hy⟩
theorem ex_neq {x y : Operand} {t u : TypeId} {kd : IntKind} {a b : Int} (hx : aeval fr x = some (.int kd a)) (hy : aeval fr y = some (.int kd b)) : EX P σ id fr (.binOp .neq t x y u) (.bool (decide (a ≠ b))) (σ) := ⟨ae_neq hx hy⟩
theorem ex_add {x y : Operand} {t u : TypeId} {a b : Int} (hx : aeval fr x = some (.int .i64 a)) (hy : aeval fr y = some (.int .i64 b)) (hr : -9223372036854775808 ≤ a + b ∧ a + b ≤ 9223372036854775807) : EX P σ id fr (.binOp .add t x y u) (.int .i64 (a + b)) (σ) := ⟨ae_add hx hy hr⟩
theorem ex_sub {x y : Operand} {t u : TypeId} {a b : Int} (hx : aeval fr x = some (.int .i64 a)) (hy : aeval fr y = some (.int .i64 b)) (hr : -9223372036854775808 ≤ a - b ∧ a - b ≤ 9223372036854775807) : EX P σ id fr (.binOp .sub t x y u) (.int .i64 (a - b)) (σ) := ⟨ae_sub hx hy hr⟩
theorem ex_mul {x y : Operand} {t u : TypeId} {a b : Int} (hx : aeval fr x = some (.int .i64 a)) (hy : aeval fr y = some (.int .i64 b)) (hr : -9223372036854775808 ≤ a * b ∧ a * b ≤ 9223372036854775807) : EX P σ id fr (.binOp .mul t x y u) (.int .i64 (a * b)) (σ) := ⟨ae_mul hx hy hr⟩
theorem ex_not {x : Operand} {t : TypeId} {b : Bool} (hx : aeval fr x = some (.bool b)) : EX P σ id fr (.unOp .not t x) (.bool !b) (σ) := ⟨ae_not hx⟩
theorem ex_len {x : Operand} {t : TypeId} {a : Option Addr} {n c : Nat} {e : TypeId} {s b : Nat} {z : Option Value} (hx : aeval fr x = some (.slice a n c)) (ht : ty P t = some ⟨.slice e, s, b, z⟩) : EX P σ id fr (.call { callee := .builtin .len, args := #[x], argTypes := #[t] }) (.int .i64 n) (σ) := ⟨ae_len hx ht⟩
theorem ex_idx {x y : Operand} {t : TypeId} {b off n c j : Nat} {kd : IntKind} {e : TypeId} {s bt : Nat} {z : Option Value} {E : ATy} (hx : aeval fr x = some (.slice (some ⟨b, off, none⟩) n c)) (hy : aeval fr y = some (.int kd (j : Int))) (ht : ty P t = some ⟨.slice e, s, bt, z⟩) (he : ty P e = some E) (hj : j < n) : EX P σ id fr (.indexAddr t x y) (.pointer (some ⟨b, off + j * E.size, none⟩)) (σ) := ⟨ae_idx hx hy ht he hj⟩
theorem ex_load {x : Operand} {t : TypeId} {p v : Value} (hx : aeval fr x = some p) (hl : aload P σ t p = some v) : EX P σ id fr (.load t x) (v) (σ) := ⟨ae_load hx hl⟩
theorem ex_extract {x : Operand} {i : Nat} {vs : Array Value} {v : Value} (hx : aeval fr x = some (.tuple vs)) (hv : vs[i]? = some v) : EX P σ id fr (.extract x i) (v) (σ) := ⟨ae_extract hx hv⟩
theorem ex_assign {x : Operand} {v : Value} (hx : aeval fr x = some v) : EX P σ id fr (.assign x) (v) (σ) := ⟨ae_assign hx⟩
theorem ex_bool {o : Op} {p q : Bool} {σ' : AHeap} (h : EX P σ id fr o (.bool p) σ') (e : p = q)  : EX P σ id fr o (.bool q) (σ') := ⟨ae_bool h.eq e⟩
theorem ex_pickT {c x y : Operand} {v : Value} (hc : aeval fr c = some (.bool true)) (hx : aeval fr x = some v) : EX P σ id fr (.pick c x y) (v) (σ) := ⟨ae_pickT hc hx⟩
theorem ex_pickF {c x y : Operand} {v : Value} (hc : aeval fr c = some (.bool false)) (hy : aeval fr y = some v) : EX P σ id fr (.pick c x y) (v) (σ) := ⟨ae_pickF hc hy⟩
theorem ex_fieldA {t : TypeId} {x : Operand} {i b off : Nat} {fs : List (Nat × TypeId)} {s bt : Nat} {z : Option Value} {o : Nat} {u : TypeId} {U : ATy} (hx : aeval fr x = some (.pointer (some ⟨b, off, none⟩))) (ht : ty P t = some ⟨.struct fs, s, bt, z⟩)
    (hf : fs[i]? = some (o, u)) (hu : ty P u = some U) (h0 : Nat.beq U.size 0 = false) : EX P σ id fr (.fieldAddr t x i) (.pointer (some ⟨b, off + o, none⟩)) (σ) := ⟨ae_fieldA hx ht hf hu h0⟩
theorem ex_field {t : TypeId} {x : Operand} {i : Nat} {p v : Value} (hx : aeval fr x = some p) (hf : afield P t p i = some v) : EX P σ id fr (.field t x i) (v) (σ) := ⟨ae_field hx hf⟩
theorem ex_makeFunc {g : FuncId} {a b : Array Operand} {xs ys : List Value} (ha : aevals fr a.toList = some xs) (hb : aevals fr b.toList = some ys) : EX P σ id fr (.makeFunc (.func g) a b) (.func (.func g) xs.toArray ys.toArray) (σ) := ⟨ae_makeFunc ha hb⟩
theorem ex_build {t : TypeId} {ps : Array (Nat × Operand)} {qs : List (Nat × Value)} {v : Value} (hp : aparts fr ps.toList = some qs) (hb : abuild P t qs = some v) : EX P σ id fr (.build t ps) (v) (σ) := ⟨ae_build hp hb⟩
theorem ex_bin {op : BinOp} {t u : TypeId} {x y : Operand} {a b v : Value} (hx : aeval fr x = some a) (hy : aeval fr y = some b) (h : abinT P op t a b = some v) : EX P σ id fr (.binOp op t x y u) (v) (σ) := ⟨ae_bin hx hy h⟩
theorem ex_box {e : TypeId} {x : Operand} {v : Value} (hx : aeval fr x = some v) (hv : isTuple v = false) (he : (ty P e).isSome = true) : EX P σ id fr (.box e x) (.pointer (some ⟨id, 0, none⟩)) (σ.set id (.cells v.cells.toList e true)) := ⟨ae_box hx hv he⟩
theorem ex_alloc {e : TypeId} {kk : AKind} {s b : Nat} {z : Value} (he : ty P e = some ⟨kk, s, b, some z⟩) (hz : closedV z = true) : EX P σ id fr (.alloc e) (.pointer (some ⟨id, 0, none⟩)) (σ.set id (.cells z.cells.toList e true)) := ⟨ae_alloc he hz⟩
theorem ex_nilCheck     {x : Operand} {p : Addr} (hx : aeval fr x = some (.pointer (some p))) : EX P σ id fr (.nilCheck x) (.pointer (some p)) (σ) := ⟨ae_nilCheck hx⟩
theorem ex_quo     {x y : Operand} {t u : TypeId} {a b : Int} (hx : aeval fr x = some (.int .i64 a)) (hy : aeval fr y = some (.int .i64 b)) (h0 : b ≠ 0) (hr : -9223372036854775808 ≤ a.tdiv b ∧ a.tdiv b ≤ 9223372036854775807) : EX P σ id fr (.binOp .quo t x y u) (.int .i64 (a.tdiv b)) (σ) := ⟨ae_quo hx hy h0 hr⟩
theorem ex_rem     {x y : Operand} {t u : TypeId} {a b : Int} (hx : aeval fr x = some (.int .i64 a)) (hy : aeval fr y = some (.int .i64 b)) (h0 : b ≠ 0) : EX P σ id fr (.binOp .rem t x y u) (.int .i64 (a.tmod b)) (σ) := ⟨ae_rem hx hy h0⟩
theorem ex_idxA     {x y : Operand} {t : TypeId} {b off n j : Nat} {kd : IntKind} {e : TypeId} {s bt : Nat} {z : Option Value} {E : ATy} (hx : aeval fr x = some (.pointer (some ⟨b, off, none⟩))) (hy : aeval fr y = some (.int kd (j : Int))) (ht : ty P t = some ⟨.array n e, s, bt, z⟩) (he : ty P e = some E) (hj : j < n) : EX P σ id fr (.indexAddr t x y) (.pointer (some ⟨b, off + j * E.size, none⟩)) (σ) := ⟨ae_idxA hx hy ht he hj⟩
theorem ex_idxAI     {x y : Operand} {t : TypeId} {b off n j : Nat} {i : Int} {kd : IntKind} {e : TypeId} {s bt : Nat} {z : Option Value} {E : ATy} (hx : aeval fr x = some (.pointer (some ⟨b, off, none⟩))) (hy : aeval fr y = some (.int kd i)) (ht : ty P t = some ⟨.array n e, s, bt, z⟩) (he : ty P e = some E) (hi : i = (j : Int)) (hj : j < n) : EX P σ id fr (.indexAddr t x y) (.pointer (some ⟨b, off + j * E.size, none⟩)) (σ) := ⟨ae_idxAI hx hy ht he hi hj⟩
theorem ex_buildSlice   {σ' : AHeap}  {t : TypeId} {len : Nat} {ps : Array (Nat × Operand)} {qs : List (Nat × Value)} {v : Value} (hp : aparts fr ps.toList = some qs) (hb : abuildSlice P σ id t len qs = some (v, σ')) : EX P σ id fr (.buildSlice t len ps) (v) (σ') := ⟨ae_buildSlice hp hb⟩
theorem ex_store   {σ' : AHeap}  {x y : Operand} {t : TypeId} {p v : Value} (hx : aeval fr x = some p) (hy : aeval fr y = some v) (hs : astore P σ t p v = some σ') : EX P σ id fr (.store t x y) (.tuple #[]) (σ') := ⟨ae_store hx hy hs⟩
theorem ex_idxI     {x y : Operand} {t : TypeId} {b off n c j : Nat} {i : Int} {kd : IntKind} {e : TypeId} {s bt : Nat} {z : Option Value} {E : ATy} (hx : aeval fr x = some (.slice (some ⟨b, off, none⟩) n c)) (hy : aeval fr y = some (.int kd i)) (ht : ty P t = some ⟨.slice e, s, bt, z⟩) (he : ty P e = some E) (hi : i = (j : Int)) (hj : j < n) : EX P σ id fr (.indexAddr t x y) (.pointer (some ⟨b, off + j * E.size, none⟩)) (σ) := ⟨ae_idxI hx hy ht he hi hj⟩
theorem ex_convert     {src dst : TypeId} {x : Operand} {k0 k : IntKind} {n : Int} {S : ATy} {sz b : Nat} {z : Option Value} (hx : aeval fr x = some (.int k0 n)) (hs : ty P src = some S) (hd : ty P dst = some ⟨.int k, sz, b, z⟩) (hw : k.wrap n = n) : EX P σ id fr (.convert src dst x) (.int k n) (σ) := ⟨ae_convert hx hs hd hw⟩
theorem ex_call   {σ' : AHeap}  {b : Builtin} {as : Array Operand} {ts : Array TypeId} {vs : List Value} {v : Value} (hx : aevals fr as.toList = some vs) (hb : abuiltin P σ id b ts vs = some (v, σ')) : EX P σ id fr (.call { callee := .builtin b, args := as, argTypes := ts }) (v) (σ') := ⟨ae_call hx hb⟩
theorem ex_slice     {t : TypeId} {x : Operand} {lo hi : Option Operand} {u w : Value} {l h : Option Value} (hx : aeval fr x = some u) (hl : aevalO fr lo = some l) (hh : aevalO fr hi = some h) (hs : aslice2 P σ t u l h = some w) : EX P σ id fr (.slice t x lo hi none) (w) (σ) := ⟨ae_slice hx hl hh hs⟩
theorem ex_makeSlice   {σ' : AHeap}  {t : TypeId} {x y : Operand} {l c v : Value} (hx : aeval fr x = some l) (hy : aeval fr y = some c) (hs : amakeSlice P σ id t l c = some (v, σ')) : EX P σ id fr (.makeSlice t x y) (v) (σ') := ⟨ae_makeSlice hx hy hs⟩
end
section
variable {P : Program} {ro : Option Nat} {f : FuncId} {N : Nat} {R : Value → AHeap → Prop} {k : List Item} {gds : List (Option Tmp)} {r : List SOp} {fr : Fr} {σ σ' : AHeap}
theorem AReg.valE {d : Tmp} {o : Op} {v : Value} (hd : decide (d < N) = true) (h : EX P (σ.bump 1) σ.next fr o v σ') (hgo : AReg P ro f N gds r k R ((d, v) :: fr) σ') : AReg P ro f N gds (⟨some d, o, none⟩ :: r) k R fr σ := AReg.val hd h.eq hgo
theorem AReg.newO (g : Nat → Value) (x : ABlk) {d : Tmp} {o : Op} (hd : decide (d < N) = true) (h : ∀ σ id, EX P σ id fr o (g id) (σ.set id x))
    (hgo : ∀ C τ, σ.next ≤ C → C < τ.next → τ.blk C = some x → More σ τ → AReg P ro f N gds r k R ((d, g C) :: fr) τ) : AReg P ro f N gds (⟨some d, o, none⟩ :: r) k R fr σ := AReg.newV g x hd (fun σ id => (h σ id).eq) hgo
theorem AReg.valGE {d : Tmp} {o : Op} {g : Option (Nat × Bool)} {v : Value} (hd : decide (d < N) = true) (hw : awanted gds fr g = some true) (h : EX P (σ.bump 1) σ.next fr o v σ') (hgo : AReg P ro f N gds r k R ((d, v) :: fr) σ') : AReg P ro f N gds (⟨some d, o, g⟩ :: r) k R fr σ := AReg.valG hd hw h.eq hgo
end
section
variable {P : Program} {N : Nat} {gds : List (Option Tmp)} {L : List SOp} {base : Nat} {K : Fr → AHeap → Prop} {S : List Stage} {Af A M : List Nat} {e : Nat} {fr : Fr} {σ σ1 : AHeap}
theorem DW.readE {i : Nat} {d : Tmp} {op : Op} {g : Option (Nat × Bool)} {v : Value} (ho : sget L i = some ⟨some d, op, g⟩) (hd : decide (d < N) = true) (hw : awanted gds fr g = some true) (hq : quietOp op = some true) (hx : EX P σ (base + i) fr op v σ)
    (h : DW P N gds L base K ((A, e, M) :: S) Af ((d, v) :: fr) σ) : DW P N gds L base K ((i :: A, e, M) :: S) Af fr σ := DW.readM ho hd hw hq hx.eq h
theorem DW.skipE {i : Nat} {d : Tmp} {op : Op} {g : Option (Nat × Bool)} (ho : sget L i = some ⟨some d, op, g⟩) (hd : decide (d < N) = true) (hw : awanted gds fr g = some false)
    (h : DW P N gds L base K ((A, e, M) :: S) Af ((d, .tuple #[]) :: fr) σ) : DW P N gds L base K ((i :: A, e, M) :: S) Af fr σ :=
  DW.stepM ho (nval_skip hd hw) (DW.frame (feqv_cons fr d _) h)
theorem DW.readLE {i : Nat} {d : Tmp} {op : Op} {g : Option (Nat × Bool)} {v : Value} (ho : sget L i = some ⟨some d, op, g⟩) (hd : decide (d < N) = true) (hw : awanted gds fr g = some true) (hq : quietOp op = some true) (hx : EX P σ (base + i) fr op v σ)
    (h : DW P N gds L base K [] Af ((d, v) :: fr) σ) : DW P N gds L base K [] (i :: Af) fr σ := DW.readL ho hd hw hq hx.eq h
theorem DW.effE {d : Tmp} {op : Op} {g : Option (Nat × Bool)} {v : Value} (ho : sget L e = some ⟨some d, op, g⟩) (hd : decide (d < N) = true) (hw : awanted gds fr g = some true) (hx : EX P σ (base + e) fr op v σ1)
    (h : DW P N gds L base K S Af ((d, v) :: fr) σ1) : DW P N gds L base K (([], e, []) :: S) Af fr σ := DW.eff ho hd hw hx.eq h
end
theorem NR.consE {P : Program} {N : Nat} {gds : List (Option Tmp)} {L : List SOp} {base : Nat} {σ : AHeap} {i : Nat} {l : List Nat} {fr : Fr} {d : Tmp} {op : Op} {v : Value} {T : List Ent} {fr' : Fr} (ho : sget L i = some ⟨some d, op, none⟩) (hd : decide (d < N) = true) (hq : quietOp op = some true) (hx : EX P σ (base + i) fr op v σ) (h : NR P N gds L base σ l ((d, v) :: fr) T fr') :
      NR P N gds L base σ (i :: l) fr (⟨i, ⟨some d, op, none⟩, v, none⟩ :: T) fr' := NR.cons ho hd hq hx.eq h
end Go.Abs

