/- THE ABSTRACT MACHINE, part X: one rule per operation, for walks by hand. -/
import Derived.Test.YtehahpnpandppaaAbsW
set_option linter.unusedVariables false
set_option linter.unusedSimpArgs false
namespace Go.Abs
open Go

/-- Only numbers of blocks have gone by. -/
def Gr (σ τ : AHeap) : Prop := ∃ n, τ = σ.bump n
theorem Gr.refl (σ : AHeap) : Gr σ σ := ⟨0, rfl⟩
theorem Gr.b {σ τ : AHeap} (h : Gr σ τ) (n : Nat) : Gr σ (τ.bump n) := by
  obtain ⟨m, rfl⟩ := h; exact ⟨m + n, bump_bump _ _ _⟩
theorem Gr.trans {σ τ υ : AHeap} (h : Gr σ τ) (k : Gr τ υ) : Gr σ υ := by
  obtain ⟨m, rfl⟩ := h; obtain ⟨n, rfl⟩ := k; exact ⟨m + n, bump_bump _ _ _⟩
theorem Gr.blk {σ τ : AHeap} (h : Gr σ τ) (b : Nat) : τ.blk b = σ.blk b := by obtain ⟨n, rfl⟩ := h; rfl
theorem Gr.ld {P : Program} {σ τ : AHeap} (h : Gr σ τ) {t : TypeId} {p v : Value} (hl : aload P σ t p = some v) : aload P τ t p = some v := by obtain ⟨n, rfl⟩ := h; exact hl
theorem Gr.next {σ τ : AHeap} (h : Gr σ τ) : σ.next ≤ τ.next := by obtain ⟨n, rfl⟩ := h; simp

theorem aload_set_ne {P : Program} {σ : AHeap} {c : Nat} {x : ABlk} {t : TypeId} {b o : Nat} (h : b ≠ c) : aload P (σ.set c x) t (.pointer (some ⟨b, o, none⟩)) = aload P σ t (.pointer (some ⟨b, o, none⟩)) := by
  simp only [aload, AHeap.set_blk, if_neg h]
theorem aload_bump (P : Program) (σ : AHeap) (n : Nat) (t : TypeId) (p : Value) : aload P (σ.bump n) t p = aload P σ t p := rfl
/-- Of a block that was just set, a cell. -/
theorem aload_cell {P : Program} {σ : AHeap} {b o : Nat} {cs : List Value} {e : TypeId} {rw : Bool} {t : TypeId} {T : ATy} {v : Value} (hb : σ.blk b = some (.cells cs e rw)) (ht : ty P t = some T) (ha : T.agg = false) (hv : cs[o]? = some v) : aload P σ t (.pointer (some ⟨b, o, none⟩)) = some v := by
  simp only [aload, hb, ht, ha]; exact hv
theorem aload_agg {P : Program} {σ : AHeap} {b o : Nat} {cs : List Value} {e : TypeId} {rw : Bool} {t : TypeId} {T : ATy} (hb : σ.blk b = some (.cells cs e rw)) (ht : ty P t = some T) (ha : T.agg = true) (hl : o + T.size ≤ cs.length) : aload P σ t (.pointer (some ⟨b, o, none⟩)) = some (.agg ((cs.drop o).take T.size).toArray) := by
  simp only [aload, hb, ht, ha, if_true, if_pos hl]
theorem blk_set (σ : AHeap) (b : Nat) (x : ABlk) : (σ.set b x).blk b = some x := by rw [AHeap.set_blk, if_pos rfl]
theorem blk_ne {σ : AHeap} {b c : Nat} {x : ABlk} (h : b ≠ c) : (σ.set c x).blk b = σ.blk b := by rw [AHeap.set_blk, if_neg h]

theorem astore_to {P : Program} {σ : AHeap} {b o : Nat} {cs : List Value} {e : TypeId} {t : TypeId} {T : ATy} {v : Value} (hb : σ.blk b = some (.cells cs e true)) (ht : ty P t = some T) (hv : v.cells.size = T.size) (hl : o + T.size ≤ cs.length) (hn : isTuple v = false) :
    astore P σ t (.pointer (some ⟨b, o, none⟩)) v = some (σ.set b (.cells (setRange cs o v.cells.toList) e true)) := by
  simp only [astore, hb, ht]; rw [if_pos ⟨hv, hl, hn⟩]

section
variable {P : Program} {ro : Option Nat} {f : FuncId} {N : Nat} {R : Value → AHeap → Prop} {k : List Item} {gds : List (Option Tmp)} {r : List SOp} {fr : Fr} {σ : AHeap}

theorem AGo.reg {id : Nat} {l : List Oper} (h : AReg P ro f N (l.map (·.dst)) (l.map slim) k R fr σ) : AGo P ro f N (.code (.region id l.toArray false) :: k) R fr σ := AGo.code rfl rfl h

theorem aop_of {d : Tmp} {o : Op} {v : Value} {σ' : AHeap} (hd : decide (d < N) = true) (h : aexec P (σ.bump 1) σ.next fr o = some (v, σ')) : aop P N gds ⟨some d, o, none⟩ fr σ = some (aput fr d v, σ') := by
  simp only [aop, dstOk, hd, awanted, h, adst]
theorem aop_of0 {o : Op} {v : Value} {σ' : AHeap} (h : aexec P (σ.bump 1) σ.next fr o = some (v, σ')) : aop P N gds ⟨none, o, none⟩ fr σ = some (fr, σ') := by
  simp only [aop, dstOk, awanted, h, adst]

theorem AReg.has {fr' : Fr} {L : List SOp} (hs : ∀ t v, aget fr' t = some v → aget fr t = some v) (h : AReg P ro f N gds L k R fr' σ) : AReg P ro f N gds L k R fr σ := fun ops is e1 e2 => AGo.weaken hs (h ops is e1 e2)
theorem cons_aput {d : Tmp} {v : Value} {t : Nat} {u : Value} (h : aget ((d, v) :: fr) t = some u) : aget (aput fr d v) t = some u := by
  rw [aget_aput]; rw [aget_cons] at h; exact h

/-- An operation that leaves a value. -/
theorem AReg.val {d : Tmp} {o : Op} {v : Value} {σ' : AHeap} (hd : decide (d < N) = true) (h : aexec P (σ.bump 1) σ.next fr o = some (v, σ')) (hgo : AReg P ro f N gds r k R ((d, v) :: fr) σ') : AReg P ro f N gds (⟨some d, o, none⟩ :: r) k R fr σ := AReg.op (aop_of hd h) (AReg.has (fun _ _ => cons_aput) hgo)
theorem AReg.eff {o : Op} {v : Value} {σ' : AHeap} (h : aexec P (σ.bump 1) σ.next fr o = some (v, σ')) (hgo : AReg P ro f N gds r k R fr σ') : AReg P ro f N gds (⟨none, o, none⟩ :: r) k R fr σ := AReg.op (aop_of0 h) hgo

theorem AReg.move {d : Tmp} {x : Operand} {v : Value} (hd : decide (d < N) = true) (hx : aeval fr x = some v) (hgo : AReg P ro f N gds r k R ((d, v) :: fr) (σ.bump 1)) : AReg P ro f N gds (⟨some d, .move x, none⟩ :: r) k R fr σ :=
  AReg.val hd (by simp only [aexec, hx, Option.map_some]) hgo
theorem AReg.assign {d : Tmp} {x : Operand} {v : Value} (hd : decide (d < N) = true) (hx : aeval fr x = some v) (hgo : AReg P ro f N gds r k R ((d, v) :: fr) (σ.bump 1)) : AReg P ro f N gds (⟨some d, .assign x, none⟩ :: r) k R fr σ :=
  AReg.val hd (by simp only [aexec, hx, Option.map_some]) hgo
theorem AReg.lss {d : Tmp} {x y : Operand} {t u : TypeId} {kd : IntKind} {a b : Int} (hd : decide (d < N) = true) (hx : aeval fr x = some (.int kd a)) (hy : aeval fr y = some (.int kd b)) (hgo : AReg P ro f N gds r k R ((d, (.bool (decide (a < b)))) :: fr) (σ.bump 1)) : AReg P ro f N gds (⟨some d, .binOp .lss t x y u, none⟩ :: r) k R fr σ :=
  AReg.val hd (by simp only [aexec, hx, hy, abinT, abin, if_pos, Option.map_some]) hgo
theorem AReg.leq {d : Tmp} {x y : Operand} {t u : TypeId} {kd : IntKind} {a b : Int} (hd : decide (d < N) = true) (hx : aeval fr x = some (.int kd a)) (hy : aeval fr y = some (.int kd b)) (hgo : AReg P ro f N gds r k R ((d, (.bool (decide (a ≤ b)))) :: fr) (σ.bump 1)) : AReg P ro f N gds (⟨some d, .binOp .leq t x y u, none⟩ :: r) k R fr σ :=
  AReg.val hd (by simp only [aexec, hx, hy, abinT, abin, if_pos, Option.map_some]) hgo
theorem AReg.gtr {d : Tmp} {x y : Operand} {t u : TypeId} {kd : IntKind} {a b : Int} (hd : decide (d < N) = true) (hx : aeval fr x = some (.int kd a)) (hy : aeval fr y = some (.int kd b)) (hgo : AReg P ro f N gds r k R ((d, (.bool (decide (a > b)))) :: fr) (σ.bump 1)) : AReg P ro f N gds (⟨some d, .binOp .gtr t x y u, none⟩ :: r) k R fr σ :=
  AReg.val hd (by simp only [aexec, hx, hy, abinT, abin, if_pos, Option.map_some]) hgo
theorem AReg.geq {d : Tmp} {x y : Operand} {t u : TypeId} {kd : IntKind} {a b : Int} (hd : decide (d < N) = true) (hx : aeval fr x = some (.int kd a)) (hy : aeval fr y = some (.int kd b)) (hgo : AReg P ro f N gds r k R ((d, (.bool (decide (a ≥ b)))) :: fr) (σ.bump 1)) : AReg P ro f N gds (⟨some d, .binOp .geq t x y u, none⟩ :: r) k R fr σ :=
  AReg.val hd (by simp only [aexec, hx, hy, abinT, abin, if_pos, Option.map_some]) hgo
theorem AReg.eql {d : Tmp} {x y : Operand} {t u : TypeId} {kd : IntKind} {a b : Int} (hd : decide (d < N) = true) (hx : aeval fr x = some (.int kd a)) (hy : aeval fr y = some (.int kd b)) (hgo : AReg P ro f N gds r k R ((d, (.bool (decide (a = b)))) :: fr) (σ.bump 1)) : AReg P ro f N gds (⟨some d, .binOp .eql t x y u, none⟩ :: r) k R fr σ :=
  AReg.val hd (by simp only [aexec, hx, hy, abinT, abin, if_pos, Option.map_some]; rfl) hgo
theorem AReg.neq {d : Tmp} {x y : Operand} {t u : TypeId} {kd : IntKind} {a b : Int} (hd : decide (d < N) = true) (hx : aeval fr x = some (.int kd a)) (hy : aeval fr y = some (.int kd b)) (hgo : AReg P ro f N gds r k R ((d, (.bool (decide (a ≠ b)))) :: fr) (σ.bump 1)) : AReg P ro f N gds (⟨some d, .binOp .neq t x y u, none⟩ :: r) k R fr σ := by
  have e : (a != b) = decide (a ≠ b) := by by_cases h : a = b <;> simp [h]
  exact AReg.val hd (by simp only [aexec, hx, hy, abinT, abin, if_pos, Option.map_some, e]) hgo
theorem AReg.add {d : Tmp} {x y : Operand} {t u : TypeId} {a b : Int} (hd : decide (d < N) = true) (hx : aeval fr x = some (.int .i64 a)) (hy : aeval fr y = some (.int .i64 b)) (hr : -9223372036854775808 ≤ a + b ∧ a + b ≤ 9223372036854775807) (hgo : AReg P ro f N gds r k R ((d, (.int .i64 (a + b))) :: fr) (σ.bump 1)) : AReg P ro f N gds (⟨some d, .binOp .add t x y u, none⟩ :: r) k R fr σ :=
  AReg.val hd (by simp only [aexec, hx, hy, abinT, abin, if_pos, Option.map_some, wrap64 hr]) hgo
theorem AReg.sub {d : Tmp} {x y : Operand} {t u : TypeId} {a b : Int} (hd : decide (d < N) = true) (hx : aeval fr x = some (.int .i64 a)) (hy : aeval fr y = some (.int .i64 b)) (hr : -9223372036854775808 ≤ a - b ∧ a - b ≤ 9223372036854775807) (hgo : AReg P ro f N gds r k R ((d, (.int .i64 (a - b))) :: fr) (σ.bump 1)) : AReg P ro f N gds (⟨some d, .binOp .sub t x y u, none⟩ :: r) k R fr σ :=
  AReg.val hd (by simp only [aexec, hx, hy, abinT, abin, if_pos, Option.map_some, wrap64 hr]) hgo
theorem AReg.mul {d : Tmp} {x y : Operand} {t u : TypeId} {a b : Int} (hd : decide (d < N) = true) (hx : aeval fr x = some (.int .i64 a)) (hy : aeval fr y = some (.int .i64 b)) (hr : -9223372036854775808 ≤ a * b ∧ a * b ≤ 9223372036854775807) (hgo : AReg P ro f N gds r k R ((d, (.int .i64 (a * b))) :: fr) (σ.bump 1)) : AReg P ro f N gds (⟨some d, .binOp .mul t x y u, none⟩ :: r) k R fr σ :=
  AReg.val hd (by simp only [aexec, hx, hy, abinT, abin, if_pos, Option.map_some, wrap64 hr]) hgo
theorem AReg.not {d : Tmp} {x : Operand} {t : TypeId} {b : Bool} (hd : decide (d < N) = true) (hx : aeval fr x = some (.bool b)) (hgo : AReg P ro f N gds r k R ((d, (.bool !b)) :: fr) (σ.bump 1)) : AReg P ro f N gds (⟨some d, .unOp .not t x, none⟩ :: r) k R fr σ :=
  AReg.val hd (by simp only [aexec, hx, aun, Option.map_some]) hgo
theorem AReg.lenS {d : Tmp} {x : Operand} {t : TypeId} {a : Option Addr} {n c : Nat} {e : TypeId} {s b : Nat} {z : Option Value} (hd : decide (d < N) = true) (hx : aeval fr x = some (.slice a n c)) (ht : ty P t = some ⟨.slice e, s, b, z⟩) (hgo : AReg P ro f N gds r k R ((d, (.int .i64 n)) :: fr) (σ.bump 1)) :
    AReg P ro f N gds (⟨some d, .call { callee := .builtin .len, args := #[x], argTypes := #[t] }, none⟩ :: r) k R fr σ :=
  AReg.val hd (by simp [aexec, aevals, hx, abuiltin, alen, tk, ht]) hgo
theorem AReg.idx {d : Tmp} {x y : Operand} {t : TypeId} {b off n c j : Nat} {kd : IntKind} {e : TypeId} {s bt : Nat} {z : Option Value} {E : ATy} (hd : decide (d < N) = true) (hx : aeval fr x = some (.slice (some ⟨b, off, none⟩) n c)) (hy : aeval fr y = some (.int kd (j : Int))) (ht : ty P t = some ⟨.slice e, s, bt, z⟩) (he : ty P e = some E) (hj : j < n)
    (hgo : AReg P ro f N gds r k R ((d, (.pointer (some ⟨b, off + j * E.size, none⟩))) :: fr) (σ.bump 1)) : AReg P ro f N gds (⟨some d, .indexAddr t x y, none⟩ :: r) k R fr σ :=
  AReg.val hd (by simp only [aexec, hx, hy, aindexAddr, ht, he]; rw [if_pos ⟨by omega, by omega⟩]; simp only [Int.toNat_natCast, Option.map_some]) hgo
theorem AReg.load {d : Tmp} {x : Operand} {t : TypeId} {p v : Value} (hd : decide (d < N) = true) (hx : aeval fr x = some p) (hl : aload P (σ.bump 1) t p = some v) (hgo : AReg P ro f N gds r k R ((d, v) :: fr) (σ.bump 1)) : AReg P ro f N gds (⟨some d, .load t x, none⟩ :: r) k R fr σ :=
  AReg.val hd (by simp only [aexec, hx, hl, Option.map_some]) hgo
theorem AReg.store {x y : Operand} {t : TypeId} {p v : Value} {σ' : AHeap} (hx : aeval fr x = some p) (hy : aeval fr y = some v) (hs : astore P (σ.bump 1) t p v = some σ') (hgo : AReg P ro f N gds r k R fr σ') : AReg P ro f N gds (⟨none, .store t x y, none⟩ :: r) k R fr σ :=
  AReg.eff (v := .tuple #[]) (by simp only [aexec, hx, hy, hs, Option.map_some]) hgo
theorem AReg.extract {d : Tmp} {x : Operand} {i : Nat} {vs : Array Value} {v : Value} (hd : decide (d < N) = true) (hx : aeval fr x = some (.tuple vs)) (hv : vs[i]? = some v) (hgo : AReg P ro f N gds r k R ((d, v) :: fr) (σ.bump 1)) : AReg P ro f N gds (⟨some d, .extract x i, none⟩ :: r) k R fr σ :=
  AReg.val hd (by simp only [aexec, hx, aextract, hv, Option.map_some]) hgo
theorem AReg.box {d : Tmp} {e : TypeId} {x : Operand} {v : Value} (hd : decide (d < N) = true) (hx : aeval fr x = some v) (hv : isTuple v = false) (he : (ty P e).isSome = true)
    (hgo : AReg P ro f N gds r k R ((d, (.pointer (some ⟨σ.next, 0, none⟩))) :: fr) ((σ.bump 1).set σ.next (.cells v.cells.toList e true))) : AReg P ro f N gds (⟨some d, .box e x, none⟩ :: r) k R fr σ :=
  AReg.val hd (by simp only [aexec, hx, hv, anew, he, if_true, Bool.false_eq_true, if_false, Option.map_some]) hgo
theorem AReg.alloc {d : Tmp} {e : TypeId} {kk : AKind} {s b : Nat} {z : Value} (hd : decide (d < N) = true) (he : ty P e = some ⟨kk, s, b, some z⟩) (hz : closedV z = true)
    (hgo : AReg P ro f N gds r k R ((d, (.pointer (some ⟨σ.next, 0, none⟩))) :: fr) ((σ.bump 1).set σ.next (.cells z.cells.toList e true))) : AReg P ro f N gds (⟨some d, .alloc e, none⟩ :: r) k R fr σ :=
  AReg.val hd (by simp only [aexec, he, hz, if_true, anew, Option.isSome_some, Option.map_some]) hgo
theorem AReg.fieldA {d : Tmp} {t : TypeId} {x : Operand} {i b off : Nat} {fs : List (Nat × TypeId)} {s bt : Nat} {z : Option Value} {o : Nat} {u : TypeId} {U : ATy} (hd : decide (d < N) = true) (hx : aeval fr x = some (.pointer (some ⟨b, off, none⟩))) (ht : ty P t = some ⟨.struct fs, s, bt, z⟩)
    (hf : fs[i]? = some (o, u)) (hu : ty P u = some U) (h0 : Nat.beq U.size 0 = false) (hgo : AReg P ro f N gds r k R ((d, (.pointer (some ⟨b, off + o, none⟩))) :: fr) (σ.bump 1)) : AReg P ro f N gds (⟨some d, .fieldAddr t x i, none⟩ :: r) k R fr σ :=
  AReg.val hd (by simp only [aexec, hx, afieldAddr, ht, hf, tsz, hu]; rw [if_neg (Nat.ne_of_beq_eq_false h0)]; rfl) hgo
theorem AReg.makeFunc {d : Tmp} {g : FuncId} {a b : Array Operand} {xs ys : List Value} (hd : decide (d < N) = true) (ha : aevals fr a.toList = some xs) (hb : aevals fr b.toList = some ys)
    (hgo : AReg P ro f N gds r k R ((d, (.func (.func g) xs.toArray ys.toArray)) :: fr) (σ.bump 1)) : AReg P ro f N gds (⟨some d, .makeFunc (.func g) a b, none⟩ :: r) k R fr σ :=
  AReg.val hd (by simp only [aexec, ha, hb]) hgo
theorem AReg.build {d : Tmp} {t : TypeId} {ps : Array (Nat × Operand)} {qs : List (Nat × Value)} {v : Value} (hd : decide (d < N) = true) (hp : aparts fr ps.toList = some qs) (hb : abuild P t qs = some v) (hgo : AReg P ro f N gds r k R ((d, v) :: fr) (σ.bump 1)) : AReg P ro f N gds (⟨some d, .build t ps, none⟩ :: r) k R fr σ :=
  AReg.val hd (by simp only [aexec, hp, hb, Option.map_some]) hgo
theorem AReg.slc {d : Tmp} {t : TypeId} {x : Operand} {lo hi : Option Operand} {u w : Value} {l h : Option Value} (hd : decide (d < N) = true) (hx : aeval fr x = some u) (hl : aevalO fr lo = some l) (hh : aevalO fr hi = some h) (hs : aslice2 P (σ.bump 1) t u l h = some w)
    (hgo : AReg P ro f N gds r k R ((d, w) :: fr) (σ.bump 1)) : AReg P ro f N gds (⟨some d, .slice t x lo hi none, none⟩ :: r) k R fr σ :=
  AReg.val hd (by simp only [aexec, hx, hl, hh, hs, Option.map_some]) hgo
theorem AReg.clear {t : TypeId} {T : ATy} {x : Operand} {v : Value} {σ' : AHeap} (hx : aeval fr x = some v) (ht : ty P t = some T) (hc : aclear P (σ.bump 1) t v = some σ') (hgo : AReg P ro f N gds r k R fr σ') : AReg P ro f N gds (⟨none, .call { callee := .builtin .clear, args := #[x], argTypes := #[t] }, none⟩ :: r) k R fr σ :=
  AReg.eff (v := .tuple #[]) (by simp [aexec, aevals, hx, abuiltin, tk, ht, hc]) hgo
/-- A call. -/
theorem AReg.go {d : Tmp} {o : Op} {g : FuncId} {vs : List Value} (hd : decide (d < N) = true) (hc : acallee fr o = some (g, vs)) (hb : hasBody P g = true) (h : ACalls P g vs σ fun v σ' => AReg P ro f N gds r k R ((d, v) :: fr) σ') : AReg P ro f N gds (⟨some d, o, none⟩ :: r) k R fr σ :=
  AReg.call (by simpa [dstOk] using hd) rfl hc hb (h.mono fun _ _ hh => AReg.has (fun _ _ => cons_aput) hh)
/-- Both ways of a condition. -/
theorem AGo.condD {c : Operand} {x y : Code} {p : Prop} [Decidable p] (hc : aeval fr c = some (.bool (decide p))) (hT : p → AGo P ro f N (.code x :: k) R fr σ) (hF : ¬p → AGo P ro f N (.code y :: k) R fr σ) : AGo P ro f N (.code (.cond c x y) :: k) R fr σ := by
  by_cases h : p
  · exact AGo.condT (by rw [hc, decide_eq_true h]) (hT h)
  · exact AGo.condF (by rw [hc, decide_eq_false h]) (hF h)
theorem AGo.condB {c : Operand} {x y : Code} {b : Bool} (hc : aeval fr c = some (.bool b)) (hT : b = true → AGo P ro f N (.code x :: k) R fr σ) (hF : b = false → AGo P ro f N (.code y :: k) R fr σ) : AGo P ro f N (.code (.cond c x y) :: k) R fr σ := by
  cases b with
  | true => exact AGo.condT hc (hT rfl)
  | false => exact AGo.condF hc (hF rfl)
end
end Go.Abs
