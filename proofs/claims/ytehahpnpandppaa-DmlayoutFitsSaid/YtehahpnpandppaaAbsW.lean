/- THE ABSTRACT MACHINE, part W: words for walks by hand: heaps in one form, loops, numbers. -/
import Derived.Test.YtehahpnpandppaaAbsV
set_option linter.unusedVariables false
set_option linter.unusedSimpArgs false
namespace Go.Abs
open Go

theorem bump_bump (σ : AHeap) (a b : Nat) : (σ.bump a).bump b = σ.bump (a + b) := by simp [AHeap.bump, Nat.add_assoc]
theorem set_bump (σ : AHeap) (b : Nat) (x : ABlk) (n : Nat) : (σ.set b x).bump n = (σ.bump n).set b x := rfl
theorem del_bump (σ : AHeap) (b : Nat) (n : Nat) : (σ.del b).bump n = (σ.bump n).del b := rfl
theorem set_set (σ : AHeap) (b : Nat) (x y : ABlk) : (σ.set b x).set b y = σ.set b y := by
  refine AHeap.ext (σ := (σ.set b x).set b y) (τ := σ.set b y) rfl ?_
  intro i; simp only [AHeap.set_blk]; split <;> rfl

theorem Sub.bump {σ τ : AHeap} (h : Sub σ τ) (n : Nat) : Sub (σ.bump n) (τ.bump n) := h
theorem Sub.set {σ τ : AHeap} (h : Sub σ τ) (b : Nat) (x : ABlk) (hb : σ.blk b = none) : Sub σ (τ.set b x) := by
  intro c y hc
  rw [AHeap.set_blk]
  split
  · rename_i e; subst e; rw [hb] at hc; cases hc
  · exact h c y hc
theorem Sub.both {σ τ : AHeap} (h : Sub σ τ) (b : Nat) (x : ABlk) : Sub (σ.set b x) (τ.set b x) := by
  intro c y hc
  rw [AHeap.set_blk] at hc ⊢
  split
  · rename_i e; rw [if_pos e] at hc; exact hc
  · rename_i e; rw [if_neg e] at hc; exact h c y hc

/-- Every slot of the first frame lies in the second. -/
def Has : Fr → Fr → Prop
  | [], _ => True
  | (t, v) :: r, fr => aget fr t = some v ∧ Has r fr
theorem Has.get : ∀ {F fr : Fr}, Has F fr → ∀ t v, aget F t = some v → aget fr t = some v
  | [], _, _, t, v, h => by simp [aget] at h
  | (s, u) :: r, fr, h, t, v, hv => by
    rw [aget_cons] at hv
    split at hv
    · rename_i e; subst e; cases hv; exact h.1
    · exact h.2.get t v hv
theorem AGo.has {P : Program} {ro : Option Nat} {f : FuncId} {N : Nat} {R : Value → AHeap → Prop} {fr F : Fr} {σ : AHeap} {todo : List Item} (hF : Has F fr) (h : AGo P ro f N todo R F σ) : AGo P ro f N todo R fr σ := AGo.weaken hF.get h

/-- A LOOP. F: the slots that are known at its head; S: what holds of the heap there; μ: what falls. -/
theorem AGo.loopI {P : Program} {ro : Option Nat} {f : FuncId} {N : Nat} {R : Value → AHeap → Prop} {c : Code} {k : List Item} {ι : Type} (F : ι → Fr) (S : ι → AHeap → Prop) (μ : ι → Nat)
    (body : ∀ x σ, S x σ → (∀ y σ' fr', μ y < μ x → S y σ' → Has (F y) fr' → AGo P ro f N (.inLoop c :: k) R fr' σ') → AGo P ro f N (.code c :: .inLoop c :: k) R (F x) σ)
    {x0 : ι} {σ : AHeap} {fr : Fr} (h0 : S x0 σ) (hF : Has (F x0) fr) : AGo P ro f N (.inLoop c :: k) R fr σ := by
  have key : ∀ (n : Nat) (x : ι), μ x ≤ n → ∀ (σ : AHeap) (fr : Fr), S x σ → Has (F x) fr → AGo P ro f N (.inLoop c :: k) R fr σ := by
    intro n
    induction n with
    | zero =>
      intro x hx σ fr hS hH
      exact AGo.inLoop (AGo.has hH (body x σ hS fun y σ' fr' hlt _ _ => absurd hlt (by omega)))
    | succ n ih =>
      intro x hx σ fr hS hH
      exact AGo.inLoop (AGo.has hH (body x σ hS fun y σ' fr' hlt h1 h2 => ih y (by omega) σ' fr' h1 h2))
  exact key (μ x0) x0 (Nat.le_refl _) σ fr h0 hF

/-- What was there is as it was. -/
structure More (σ σ' : AHeap) : Prop where
  next : σ.next ≤ σ'.next
  blk : ∀ b, b < σ.next → σ'.blk b = σ.blk b
theorem More.refl (σ : AHeap) : More σ σ := ⟨Nat.le_refl _, fun _ _ => rfl⟩
theorem More.trans {σ τ υ : AHeap} (h : More σ τ) (k : More τ υ) : More σ υ := ⟨Nat.le_trans h.next k.next, fun b hb => (k.blk b (Nat.lt_of_lt_of_le hb h.next)).trans (h.blk b hb)⟩
theorem More.bump (σ : AHeap) (n : Nat) : More σ (σ.bump n) := ⟨by simp, fun _ _ => rfl⟩
theorem More.bump' {σ τ : AHeap} (h : More σ τ) (n : Nat) : More σ (τ.bump n) := h.trans (.bump τ n)
theorem More.set {σ τ : AHeap} (h : More σ τ) {b : Nat} (x : ABlk) (hb : σ.next ≤ b) : More σ (τ.set b x) :=
  ⟨h.next, fun c hc => by rw [AHeap.set_blk, if_neg (by omega)]; exact h.blk c hc⟩
theorem More.del {σ τ : AHeap} (h : More σ τ) {b : Nat} (hb : σ.next ≤ b) : More σ (τ.del b) :=
  ⟨h.next, fun c hc => by rw [AHeap.del_blk, if_neg (by omega)]; exact h.blk c hc⟩

theorem wrap64 {n : Int} (h : -9223372036854775808 ≤ n ∧ n ≤ 9223372036854775807) : IntKind.i64.wrap n = n := IntWalk.i64_in n h
end Go.Abs
