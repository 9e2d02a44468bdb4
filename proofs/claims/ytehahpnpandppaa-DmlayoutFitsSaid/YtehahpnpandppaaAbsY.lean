/- THE ABSTRACT MACHINE, part Y: what an operation that only reads comes to; regions whose order is drawn, by hand. -/
import Derived.Test.YtehahpnpandppaaAbsX
set_option linter.unusedVariables false
set_option linter.unusedSimpArgs false
namespace Go.Abs
open Go

/-- Operations that only read, one behind the other: literal frames. -/
inductive NR (P : Program) (N : Nat) (gds : List (Option Tmp)) (L : List SOp) (base : Nat) (σ : AHeap) : List Nat → Fr → List Ent → Fr → Prop
  | nil (fr : Fr) : NR P N gds L base σ [] fr [] fr
  | cons {i : Nat} {l : List Nat} {fr : Fr} {d : Tmp} {op : Op} {v : Value} {T : List Ent} {fr' : Fr} (ho : sget L i = some ⟨some d, op, none⟩) (hd : decide (d < N) = true) (hq : quietOp op = some true) (hx : aexec P σ (base + i) fr op = some (v, σ)) (h : NR P N gds L base σ l ((d, v) :: fr) T fr') :
      NR P N gds L base σ (i :: l) fr (⟨i, ⟨some d, op, none⟩, v, none⟩ :: T) fr'

section
variable {P : Program} {fr : Fr} {σ : AHeap} {id : Nat}
theorem ae_move {x : Operand} {v : Value} (hx : aeval fr x = some v) : aexec P σ id fr (.move x) = some (v, σ) := by simp only [aexec, hx, Option.map_some]
theorem ae_lss {x y : Operand} {t u : TypeId} {kd : IntKind} {a b : Int} (hx : aeval fr x = some (.int kd a)) (hy : aeval fr y = some (.int kd b)) : aexec P σ id fr (.binOp .lss t x y u) = some (.bool (decide (a < b)), σ) := by simp only [aexec, hx, hy, abinT, abin, if_pos, Option.map_some]
theorem ae_leq {x y : Operand} {t u : TypeId} {kd : IntKind} {a b : Int} (hx : aeval fr x = some (.int kd a)) (hy : aeval fr y = some (.int kd b)) : aexec P σ id fr (.binOp .leq t x y u) = some (.bool (decide (a ≤ b)), σ) := by simp only [aexec, hx, hy, abinT, abin, if_pos, Option.map_some]
theorem ae_gtr {x y : Operand} {t u : TypeId} {kd : IntKind} {a b : Int} (hx : aeval fr x = some (.int kd a)) (hy : aeval fr y = some (.int kd b)) : aexec P σ id fr (.binOp .gtr t x y u) = some (.bool (decide (a > b)), σ) := by simp only [aexec, hx, hy, abinT, abin, if_pos, Option.map_some]
theorem ae_geq {x y : Operand} {t u : TypeId} {kd : IntKind} {a b : Int} (hx : aeval fr x = some (.int kd a)) (hy : aeval fr y = some (.int kd b)) : aexec P σ id fr (.binOp .geq t x y u) = some (.bool (decide (a ≥ b)), σ) := by simp only [aexec, hx, hy, abinT, abin, if_pos, Option.map_some]
theorem ae_eql {x y : Operand} {t u : TypeId} {kd : IntKind} {a b : Int} (hx : aeval fr x = some (.int kd a)) (hy : aeval fr y = some (.int kd b)) : aexec P σ id fr (.binOp .eql t x y u) = some (.bool (decide (a = b)), σ) := by simp only [aexec, hx, hy, abinT, abin, if_pos, Option.map_some]; rfl
theorem ae_neq {x y : Operand} {t u : TypeId} {kd : IntKind} {a b : Int} (hx : aeval fr x = some (.int kd a)) (hy : aeval fr y = some (.int kd b)) : aexec P σ id fr (.binOp .neq t x y u) = some (.bool (decide (a ≠ b)), σ) := by
  have e : (a != b) = decide (a ≠ b) := by by_cases h : a = b <;> simp [h]
  simp only [aexec, hx, hy, abinT, abin, if_pos, Option.map_some, e]
theorem ae_add {x y : Operand} {t u : TypeId} {a b : Int} (hx : aeval fr x = some (.int .i64 a)) (hy : aeval fr y = some (.int .i64 b)) (hr : -9223372036854775808 ≤ a + b ∧ a + b ≤ 9223372036854775807) : aexec P σ id fr (.binOp .add t x y u) = some (.int .i64 (a + b), σ) := by simp only [aexec, hx, hy, abinT, abin, if_pos, Option.map_some, wrap64 hr]
theorem ae_sub {x y : Operand} {t u : TypeId} {a b : Int} (hx : aeval fr x = some (.int .i64 a)) (hy : aeval fr y = some (.int .i64 b)) (hr : -9223372036854775808 ≤ a - b ∧ a - b ≤ 9223372036854775807) : aexec P σ id fr (.binOp .sub t x y u) = some (.int .i64 (a - b), σ) := by simp only [aexec, hx, hy, abinT, abin, if_pos, Option.map_some, wrap64 hr]
theorem ae_mul {x y : Operand} {t u : TypeId} {a b : Int} (hx : aeval fr x = some (.int .i64 a)) (hy : aeval fr y = some (.int .i64 b)) (hr : -9223372036854775808 ≤ a * b ∧ a * b ≤ 9223372036854775807) : aexec P σ id fr (.binOp .mul t x y u) = some (.int .i64 (a * b), σ) := by simp only [aexec, hx, hy, abinT, abin, if_pos, Option.map_some, wrap64 hr]
theorem ae_not {x : Operand} {t : TypeId} {b : Bool} (hx : aeval fr x = some (.bool b)) : aexec P σ id fr (.unOp .not t x) = some (.bool !b, σ) := by simp only [aexec, hx, aun, Option.map_some]
theorem ae_len {x : Operand} {t : TypeId} {a : Option Addr} {n c : Nat} {e : TypeId} {s b : Nat} {z : Option Value} (hx : aeval fr x = some (.slice a n c)) (ht : ty P t = some ⟨.slice e, s, b, z⟩) : aexec P σ id fr (.call { callee := .builtin .len, args := #[x], argTypes := #[t] }) = some (.int .i64 n, σ) := by simp [aexec, aevals, hx, abuiltin, alen, tk, ht]
theorem ae_idx {x y : Operand} {t : TypeId} {b off n c j : Nat} {kd : IntKind} {e : TypeId} {s bt : Nat} {z : Option Value} {E : ATy} (hx : aeval fr x = some (.slice (some ⟨b, off, none⟩) n c)) (hy : aeval fr y = some (.int kd (j : Int))) (ht : ty P t = some ⟨.slice e, s, bt, z⟩) (he : ty P e = some E) (hj : j < n) :
    aexec P σ id fr (.indexAddr t x y) = some (.pointer (some ⟨b, off + j * E.size, none⟩), σ) := by
  simp only [aexec, hx, hy, aindexAddr, ht, he]; rw [if_pos ⟨by omega, by omega⟩]; simp only [Int.toNat_natCast, Option.map_some]
theorem ae_load {x : Operand} {t : TypeId} {p v : Value} (hx : aeval fr x = some p) (hl : aload P σ t p = some v) : aexec P σ id fr (.load t x) = some (v, σ) := by simp only [aexec, hx, hl, Option.map_some]
theorem ae_extract {x : Operand} {i : Nat} {vs : Array Value} {v : Value} (hx : aeval fr x = some (.tuple vs)) (hv : vs[i]? = some v) : aexec P σ id fr (.extract x i) = some (v, σ) := by simp only [aexec, hx, aextract, hv, Option.map_some]
end

section
variable {P : Program} {N : Nat} {gds : List (Option Tmp)} {L : List SOp} {base : Nat} {fr : Fr} {σ : AHeap}
/-! ### Regions whose order is drawn -/
def FEqv (fr fr' : Fr) : Prop := ∀ t, aget fr t = aget fr' t
theorem FEqv.refl (fr : Fr) : FEqv fr fr := fun _ => rfl
theorem FEqv.put {fr fr' : Fr} (h : FEqv fr fr') (d : Option Tmp) (v : Value) : FEqv (adst fr d v) (adst fr' d v) := by
  intro t
  cases d with
  | none => exact h t
  | some d => simp only [adst, aget_aput, h t]
theorem FEqv.cons {fr fr' : Fr} (h : FEqv fr fr') (d : Tmp) (v : Value) : FEqv (aput fr d v) ((d, v) :: fr') := by
  intro t; rw [aget_aput, aget_cons, h t]
theorem nval_feqv {fr fr' : Fr} (h : FEqv fr fr') (id : Nat) (o : SOp) : nval P N gds σ id fr o = nval P N gds σ id fr' o := by
  have hw : awanted gds fr o.guard = awanted gds fr' o.guard := by
    unfold awanted
    cases o.guard with
    | none => rfl
    | some x => obtain ⟨j, w⟩ := x; simp only; cases nth gds j with
      | none => rfl
      | some d => simp only [h d]
  simp only [nval, hw, aexec_congr (fr := fr) (fr' := fr') fun x _ => aeval_congr fun t _ => h t]
theorem nrun_feqv : ∀ {l : List Nat} {fr fr' : Fr}, FEqv fr fr' → nrun P N gds L base σ l fr = nrun P N gds L base σ l fr'
  | [], _, _, _ => rfl
  | i :: l, fr, fr', h => by
    simp only [nrun]
    cases sget L i with
    | none => rfl
    | some o =>
      simp only [nval_feqv h]
      cases nval P N gds σ (base + i) fr' o with
      | none => rfl
      | some x => obtain ⟨v, nb⟩ := x; simp only [nrun_feqv (l := l) (h.put o.dst v)]

theorem agree_nil (T : List Ent) : agree [] T := fun x hx => by cases hx
theorem NR.run {l : List Nat} {fr fr' : Fr} {T : List Ent} (h : NR P N gds L base σ l fr T fr') : ∀ {fr0 : Fr}, FEqv fr0 fr → nrun P N gds L base σ l fr0 = some T ∧ FEqv (putT fr0 T) fr' ∧ ∀ τ : AHeap, setT base τ T = τ := by
  induction h with
  | nil fr => intro fr0 h0; exact ⟨rfl, h0, fun _ => rfl⟩
  | @cons i l fr d op v T fr' ho hd hq hx _ ih =>
    intro fr0 h0
    obtain ⟨a, b, c⟩ := ih (h0.cons d v)
    have hv : nval P N gds σ (base + i) fr0 ⟨some d, op, none⟩ = some (v, none) := by
      rw [nval_feqv h0]
      simp only [nval, dstOk, hd, awanted, hq, hx, cond]
    refine ⟨?_, ?_, ?_⟩
    · simp only [nrun, ho, hv, adst, a]
    · exact b
    · intro τ; exact c τ
end

section
variable {P : Program} {ro : Option Nat} {f : FuncId} {N : Nat} {R : Value → AHeap → Prop} {fr : Fr} {σ : AHeap} {k : List Item}

theorem AGo.feqv {todo : List Item} {fr fr' : Fr} (h : FEqv fr fr') (hg : AGo P ro f N todo R fr' σ) : AGo P ro f N todo R fr σ := AGo.weaken (fun t v hv => by rw [h t]; exact hv) hg

/-- A drawn region that only reads. -/
theorem AGo.drawR {id : Nat} {l : List Oper} {T : List Ent} {fr' : Fr} (hm : P.follows .mixedOrders = true) (hB : drawB l.toArray [] (List.range l.length) = true)
    (hn : NR P N (l.map (·.dst)) (l.map slim) σ.next (σ.bump l.length) (List.range l.length) fr T fr') (h : AGo P ro f N k R fr' (σ.bump l.length)) : AGo P ro f N (.code (.region id l.toArray true) :: k) R fr σ := by
  obtain ⟨a, b, c⟩ := hn.run (FEqv.refl _)
  refine AGo.draw [] (List.range l.length) hm hB rfl rfl ⟨T, a, agree_nil _, ?_⟩
  rw [c]; exact AGo.feqv b h

/-- A drawn region with one call and operations that only read: A ahead of it, Af behind it. -/
theorem AGo.draw1 {id e : Nat} {l : List Oper} {A Af : List Nat} {T : List Ent} {fr' : Fr} {d : Tmp} {op : Op} {g : FuncId} {vs : List Value} (hm : P.follows .mixedOrders = true) (hB : drawB l.toArray [(A, e, [])] Af = true)
    (hn : NR P N (l.map (·.dst)) (l.map slim) σ.next (σ.bump l.length) A fr T fr') (ho : sget (l.map slim) e = some ⟨some d, op, none⟩) (hd : decide (d < N) = true) (hc : acallee fr' op = some (g, vs)) (hb : hasBody P g = true)
    (h : ACalls P g vs (σ.bump l.length) fun v σ1 => ∃ T' fr'', NR P N (l.map (·.dst)) (l.map slim) σ.next σ1 Af ((d, v) :: fr') T' fr'' ∧ AGo P ro f N k R fr'' σ1) : AGo P ro f N (.code (.region id l.toArray true) :: k) R fr σ := by
  obtain ⟨a, b, c⟩ := hn.run (FEqv.refl _)
  refine AGo.draw [(A, e, [])] Af hm hB rfl rfl ⟨T, [], _, a, rfl, agree_nil _, ho, ?_⟩
  refine ⟨by simpa [dstOk] using hd, .inr ⟨rfl, .inr ⟨g, vs, ?_, hb, ?_⟩⟩⟩
  · rw [acallee_congr (fr' := fr') fun x _ => aeval_congr fun t _ => b t]; exact hc
  · rw [c]
    refine h.mono fun v σ1 ⟨T', fr'', h1, h2⟩ => ?_
    obtain ⟨a', b', c'⟩ := h1.run (b.cons d v)
    refine ⟨T', a', agree_nil _, ?_⟩
    rw [c']; exact AGo.feqv b' h2
end

/-- The heap under a name. -/
theorem AGo.opq {P : Program} {ro : Option Nat} {f : FuncId} {N : Nat} {R : Value → AHeap → Prop} {fr : Fr} {σ : AHeap} {todo : List Item} (h : ∀ τ, τ = σ → AGo P ro f N todo R fr τ) : AGo P ro f N todo R fr σ := h σ rfl
theorem AReg.opq {P : Program} {ro : Option Nat} {f : FuncId} {N : Nat} {R : Value → AHeap → Prop} {gds : List (Option Tmp)} {L : List SOp} {k : List Item} {fr : Fr} {σ : AHeap} (h : ∀ τ, τ = σ → AReg P ro f N gds L k R fr τ) : AReg P ro f N gds L k R fr σ := h σ rfl
/-- A guarded operation that is wanted, and one that is not. -/
theorem AReg.valG {P : Program} {ro : Option Nat} {f : FuncId} {N : Nat} {R : Value → AHeap → Prop} {k : List Item} {gds : List (Option Tmp)} {r : List SOp} {fr : Fr} {σ σ' : AHeap} {d : Tmp} {o : Op} {g : Option (Nat × Bool)} {v : Value} (hd : decide (d < N) = true) (hw : awanted gds fr g = some true) (h : aexec P (σ.bump 1) σ.next fr o = some (v, σ'))
    (hgo : AReg P ro f N gds r k R ((d, v) :: fr) σ') : AReg P ro f N gds (⟨some d, o, g⟩ :: r) k R fr σ :=
  AReg.op (fr' := aput fr d v) (σ' := σ') (by simp only [aop, dstOk, hd, hw, h, adst]) (AReg.has (fun _ _ => cons_aput) hgo)
theorem AReg.skipG {P : Program} {ro : Option Nat} {f : FuncId} {N : Nat} {R : Value → AHeap → Prop} {k : List Item} {gds : List (Option Tmp)} {r : List SOp} {fr : Fr} {σ : AHeap} {d : Tmp} {o : Op} {g : Option (Nat × Bool)} (hd : decide (d < N) = true) (hw : awanted gds fr g = some false)
    (hgo : AReg P ro f N gds r k R ((d, .tuple #[]) :: fr) σ) : AReg P ro f N gds (⟨some d, o, g⟩ :: r) k R fr σ :=
  AReg.op (fr' := aput fr d (.tuple #[])) (σ' := σ) (by simp only [aop, dstOk, hd, hw, adst]) (AReg.has (fun _ _ => cons_aput) hgo)

/-- Both ways of a condition, which come together again: J holds there. -/
theorem AGo.condJ {P : Program} {ro : Option Nat} {f : FuncId} {N : Nat} {R : Value → AHeap → Prop} {fr : Fr} {σ : AHeap} {k : List Item} {c : Operand} {x y : Code} {b : Bool} (J : Fr → AHeap → Prop) (hc : aeval fr c = some (.bool b))
    (hT : b = true → (∀ fr' τ, J fr' τ → AGo P ro f N k R fr' τ) → AGo P ro f N (.code x :: k) R fr σ) (hF : b = false → (∀ fr' τ, J fr' τ → AGo P ro f N k R fr' τ) → AGo P ro f N (.code y :: k) R fr σ)
    (hk : ∀ fr' τ, J fr' τ → AGo P ro f N k R fr' τ) : AGo P ro f N (.code (.cond c x y) :: k) R fr σ := by
  cases b with
  | true => exact AGo.condT hc (hT rfl hk)
  | false => exact AGo.condF hc (hF rfl hk)
theorem ares_nil {P : Program} {fr : Fr} {σ : AHeap} : aresults P fr σ [] = some [] := rfl
theorem ares_cell {P : Program} {fr : Fr} {σ : AHeap} {a : Tmp} {t : TypeId} {r : List ResultVar} {p v : Value} {vs : List Value} (ha : aget fr a = some p) (hl : aload P σ t p = some v) (hr : aresults P fr σ r = some vs) : aresults P fr σ (.cell a t :: r) = some (v :: vs) := by
  simp only [aresults, aresult, ha, hl, hr]
theorem ares_tmp {P : Program} {fr : Fr} {σ : AHeap} {a : Tmp} {r : List ResultVar} {v : Value} {vs : List Value} (ha : aget fr a = some v) (hr : aresults P fr σ r = some vs) : aresults P fr σ (.tmp a :: r) = some (v :: vs) := by
  simp only [aresults, aresult, ha, hr]
theorem Gr.ofNext {σ : AHeap} {n : Nat} (h : σ.next ≤ n) : Gr σ ⟨n, σ.blk⟩ := ⟨n - σ.next, by simp only [AHeap.bump]; congr; omega⟩
/-- What was made on the way is no longer looked at. -/
theorem ACalls.drop {P : Program} {f : FuncId} {args : List Value} {σ : AHeap} {Q : Value → Prop} (h : ACalls P f args σ fun v σ' => Q v ∧ ∃ σ0, Gr σ σ0 ∧ Sub σ0 σ' ∧ σ0.next = σ'.next) : ACalls P f args σ fun v σ' => Q v ∧ Gr σ σ' :=
  h.sub fun _ _ ⟨h1, σ0, h2, h3, h4⟩ => ⟨σ0, h3, h4, h1, h2⟩
end Go.Abs
