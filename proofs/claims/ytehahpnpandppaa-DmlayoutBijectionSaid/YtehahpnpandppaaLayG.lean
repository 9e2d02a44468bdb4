/- A part of the proof: contracts of functions of the program, shown by walking through their code in an abstract machine. Condition: none. -/
import Derived.Test.YtehahpnpandppaaLayF
set_option linter.unusedVariables false
set_option linter.unusedSimpArgs false
namespace Go.Abs.Lay
open Go Go.Proofs
-- @TY ty3, ty4, ty22, ty25
set_option maxHeartbeats 1000000

/-- The rows of the table of sizes. -/
def sizeCells : List Value := match kSizes.bs with
  | (_, .cells cs _ _) :: _ => cs
  | _ => []
theorem sizeCells_len : sizeCells.length = 30 * 7 := by kernel_rfl

theorem shL_closed {n : Nat} : ∀ {l : List Value}, l.all closedCell = true → ShL n l l
  | [], _ => .nil n
  | v :: r, h => by
    simp only [List.all_cons, Bool.and_eq_true] at h
    exact .cons (Sh.closed n h.1) (shL_closed h.2)
/-- A known call that answers with a slice of one block of plain cells. -/
theorem known_slice {e : Known} {i len cap : Nat} {cs : List Value} {t : TypeId} (hk : e.Ok Try.prog) (hv : e.v = .slice (some ⟨i, 0, none⟩) len cap) (hbs : e.bs = [(i, .cells cs t true)]) (hin : Nat.ble (i + 1) e.n = true) (hcs : cs.all closedCell = true) (hon : cs.all Value.oneCell' = true)
    (σ : AHeap) (R : Value → AHeap → Prop) (h : ∀ b τ, σ.next ≤ b → b < τ.next → Gr (σ.set b (.cells cs t true)) τ → R (.slice (some ⟨b, 0, none⟩) len cap) τ) : ACalls Try.prog e.g e.vs σ R := by
  refine ACalls.wf fun hwf => ?_
  obtain ⟨h1, h2, h3⟩ := hk
  have hin := Nat.le_of_ble_eq_true hin
  refine ACalls.closed (v := e.v) (τ := CH.toA ⟨e.n, e.bs⟩) h1 h3 ⟨.slice (some ⟨i + σ.next, 0, none⟩) len cap, (σ.bump e.n).set (i + σ.next) (.cells cs t true), ?_, ?_, ?_, ?_, h _ _ (by omega) (by simp; omega) ⟨e.n, rfl⟩⟩
  · rw [hv]; exact .slice _ _ _ _
  · rfl
  · intro b hb; rw [blk_ne (by omega)]; rfl
  · intro b
    show ShB σ.next (clook e.bs b) _
    rw [hbs, clook_cons, clook_nil, AHeap.set_blk]
    by_cases hb : i = b
    · subst hb
      rw [Nat.beq_refl, if_pos rfl]
      exact .cells _ _ (shL_closed hcs) (ones_of_all hon)
    · have e1 : Nat.beq i b = false := by
        cases hx : Nat.beq i b with
        | false => rfl
        | true => exact absurd (Nat.eq_of_beq_eq_true hx) hb
      rw [e1, if_neg (by omega)]
      simp only [AHeap.bump_blk]
      rw [hwf _ (by omega)]
      exact .none
/-- dmlayout.Sizes, from any heap -/
theorem sizes (σ : AHeap) (R : Value → AHeap → Prop) (h : ∀ b τ, σ.next ≤ b → b < τ.next → Gr (σ.set b (.cells sizeCells 25 true)) τ → R (.slice (some ⟨b, 0, none⟩) 30 30) τ) : ACalls Try.prog 10 [] σ R :=
  known_slice (i := 811) (cs := sizeCells) (t := 25) kSizes_ok rfl rfl rfl (by kernel_rfl) (by kernel_rfl) σ R h
/-- barscanref25.Sizes, from any heap -/
theorem refSizes (σ : AHeap) (R : Value → AHeap → Prop) (h : ∀ b τ, σ.next ≤ b → b < τ.next → Gr (σ.set b (.cells sizeCells 25 true)) τ → R (.slice (some ⟨b, 0, none⟩) 30 30) τ) : ACalls Try.prog 11 [] σ R :=
  known_slice (i := 1020) (cs := sizeCells) (t := 25) kRefSizes_ok rfl (by kernel_rfl) rfl (by kernel_rfl) (by kernel_rfl) σ R h
end Go.Abs.Lay
