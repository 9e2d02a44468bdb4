/- THE ABSTRACT MACHINE, part Z: more of what an operation comes to. -/
import Derived.Test.YtehahpnpandppaaAbsY
set_option linter.unusedVariables false
set_option linter.unusedSimpArgs false
namespace Go.Abs
open Go
section
variable {P : Program} {fr : Fr} {σ : AHeap} {id : Nat}
theorem ae_assign {x : Operand} {v : Value} (hx : aeval fr x = some v) : aexec P σ id fr (.assign x) = some (v, σ) := by simp only [aexec, hx, Option.map_some]
theorem ae_bool {o : Op} {p q : Bool} {σ' : AHeap} (h : aexec P σ id fr o = some (.bool p, σ')) (e : p = q) : aexec P σ id fr o = some (.bool q, σ') := e ▸ h
theorem ae_pickT {c x y : Operand} {v : Value} (hc : aeval fr c = some (.bool true)) (hx : aeval fr x = some v) : aexec P σ id fr (.pick c x y) = some (v, σ) := by simp only [aexec, hc, hx, if_true, Option.map_some]
theorem ae_pickF {c x y : Operand} {v : Value} (hc : aeval fr c = some (.bool false)) (hy : aeval fr y = some v) : aexec P σ id fr (.pick c x y) = some (v, σ) := by simp only [aexec, hc, hy, Bool.false_eq_true, if_false, Option.map_some]
theorem ae_fieldA {t : TypeId} {x : Operand} {i b off : Nat} {fs : List (Nat × TypeId)} {s bt : Nat} {z : Option Value} {o : Nat} {u : TypeId} {U : ATy} (hx : aeval fr x = some (.pointer (some ⟨b, off, none⟩))) (ht : ty P t = some ⟨.struct fs, s, bt, z⟩)
    (hf : fs[i]? = some (o, u)) (hu : ty P u = some U) (h0 : Nat.beq U.size 0 = false) : aexec P σ id fr (.fieldAddr t x i) = some (.pointer (some ⟨b, off + o, none⟩), σ) := by
  simp only [aexec, hx, afieldAddr, ht, hf, tsz, hu]; rw [if_neg (Nat.ne_of_beq_eq_false h0)]; rfl
theorem ae_field {t : TypeId} {x : Operand} {i : Nat} {p v : Value} (hx : aeval fr x = some p) (hf : afield P t p i = some v) : aexec P σ id fr (.field t x i) = some (v, σ) := by simp only [aexec, hx, hf, Option.map_some]
theorem ae_makeFunc {g : FuncId} {a b : Array Operand} {xs ys : List Value} (ha : aevals fr a.toList = some xs) (hb : aevals fr b.toList = some ys) : aexec P σ id fr (.makeFunc (.func g) a b) = some (.func (.func g) xs.toArray ys.toArray, σ) := by simp only [aexec, ha, hb]
theorem ae_build {t : TypeId} {ps : Array (Nat × Operand)} {qs : List (Nat × Value)} {v : Value} (hp : aparts fr ps.toList = some qs) (hb : abuild P t qs = some v) : aexec P σ id fr (.build t ps) = some (v, σ) := by simp only [aexec, hp, hb, Option.map_some]
theorem ae_bin {op : BinOp} {t u : TypeId} {x y : Operand} {a b v : Value} (hx : aeval fr x = some a) (hy : aeval fr y = some b) (h : abinT P op t a b = some v) : aexec P σ id fr (.binOp op t x y u) = some (v, σ) := by simp only [aexec, hx, hy, h, Option.map_some]
theorem ae_box {e : TypeId} {x : Operand} {v : Value} (hx : aeval fr x = some v) (hv : isTuple v = false) (he : (ty P e).isSome = true) : aexec P σ id fr (.box e x) = some (.pointer (some ⟨id, 0, none⟩), σ.set id (.cells v.cells.toList e true)) := by
  simp only [aexec, hx, hv, anew, he, if_true, Bool.false_eq_true, if_false, Option.map_some]
theorem ae_alloc {e : TypeId} {kk : AKind} {s b : Nat} {z : Value} (he : ty P e = some ⟨kk, s, b, some z⟩) (hz : closedV z = true) : aexec P σ id fr (.alloc e) = some (.pointer (some ⟨id, 0, none⟩), σ.set id (.cells z.cells.toList e true)) := by
  simp only [aexec, he, hz, if_true, anew, Option.isSome_some, Option.map_some]
end
/-- An operation is known by what it comes to. -/
theorem AReg.ok {P : Program} {ro : Option Nat} {f : FuncId} {N : Nat} {R : Value → AHeap → Prop} {k : List Item} {gds : List (Option Tmp)} {r : List SOp} {fr : Fr} {σ σ' : AHeap} {d : Tmp} {o : Op} {v : Value} (hd : decide (d < N) = true) (h : aexec P (σ.bump 1) σ.next fr o = some (v, σ')) (hgo : AReg P ro f N gds r k R ((d, v) :: fr) σ') : AReg P ro f N gds (⟨some d, o, none⟩ :: r) k R fr σ := AReg.val hd h hgo
/-- A guarded call that is wanted. -/
theorem AReg.goG {P : Program} {ro : Option Nat} {f : FuncId} {N : Nat} {R : Value → AHeap → Prop} {k : List Item} {gds : List (Option Tmp)} {r : List SOp} {fr : Fr} {σ : AHeap} {d : Tmp} {o : Op} {gg : Option (Nat × Bool)} {g : FuncId} {vs : List Value} (hd : decide (d < N) = true) (hw : awanted gds fr gg = some true) (hc : acallee fr o = some (g, vs)) (hb : hasBody P g = true)
    (h : ACalls P g vs σ fun v σ' => AReg P ro f N gds r k R ((d, v) :: fr) σ') : AReg P ro f N gds (⟨some d, o, gg⟩ :: r) k R fr σ :=
  AReg.call (by simpa [dstOk] using hd) hw hc hb (h.mono fun _ _ hh => AReg.has (fun _ _ => cons_aput) hh)
/-- Values of a struct type that are the same. -/
theorem agg_same {P : Program} {t : TypeId} {x : Value} (hk : KeyOk P t) (hx : (match x with | .agg _ => true | _ => false) = true) (hp : plainKey x = true) (hs : (keyOf P t x).isSome = true) : abinT P .eql t x x = some (.bool true) ∧ abinT P .neq t x x = some (.bool false) := by
  cases x with
  | agg xs => simp only [abinT]; rw [if_pos ⟨hk, hp, hp, hs, hs⟩, if_pos ⟨hk, hp, hp, hs, hs⟩]; simp
  | _ => cases hx
/-- Ways through a region that come together behind it: J holds there. -/
theorem AReg.join {P : Program} {ro : Option Nat} {f : FuncId} {N : Nat} {R : Value → AHeap → Prop} {k : List Item} {gds : List (Option Tmp)} {L : List SOp} {fr : Fr} {σ : AHeap} (J : Fr → AHeap → Prop) (hk : ∀ fr' τ, J fr' τ → AGo P ro f N k R fr' τ) (h : (∀ fr' τ, J fr' τ → AGo P ro f N k R fr' τ) → AReg P ro f N gds L k R fr σ) : AReg P ro f N gds L k R fr σ := h hk
end Go.Abs
