/- THE ABSTRACT MACHINE, part N: a region whose order is drawn: whatever the order, the same comes out. -/
import Derived.Test.YtehahpnpandppaaAbsM
set_option linter.unusedVariables false
set_option linter.unusedSimpArgs false
namespace Go.Abs
open Go

theorem Step.weak {n0 : Nat} {φ φ' : BMap} {σ τ σ' : AHeap} {w w' : World} (h : Step n0 φ σ w φ' σ' w') (hs : Sub σ τ) (hn : σ.next = τ.next) : Step n0 φ τ w φ' σ' w' where
  ext := h.ext
  old := h.old
  next := by rw [← hn]; exact h.next
  os := h.os
  tape := h.tape
  output := h.output
  size := h.size
  kept g hg hno := h.kept g hg (fun ho => hno (ho.sub hs))
  own g hg ho := (h.own g hg ho).sub hs
  dead b hb hd := h.dead b hb (by cases hx : σ.blk b with | none => rfl | some x => rw [hs b x hx] at hd; cases hd)
  ro b x hx hr := hs b x (h.ro b x hx hr)

/-! ### What is asked of a region -/
def predsOf (ops : Array Oper) (i : Nat) : List Nat :=
  match ops[i]? with
  | some o => (o.after.toList.filter (Region.binds .any)).map (·.on)
  | none => []
def looksOf (ops : Array Oper) (i : Nat) : List Tmp :=
  match ops[i]? with
  | some o => o.looksAt ops
  | none => []
def dstOf (ops : Array Oper) (i : Nat) : Option Tmp := (ops[i]?).bind (·.dst)

/-- j's destination is one of those that i looks at. -/
def seesB (ops : Array Oper) (i j : Nat) : Bool :=
  match dstOf ops j with
  | some d => (looksOf ops i).contains d
  | none => false
def sameDstB (ops : Array Oper) (i j : Nat) : Bool :=
  match dstOf ops i, dstOf ops j with
  | some d, some e => d == e
  | _, _ => false

def ancB (ops : Array Oper) : List Nat → Nat → Bool
  | [], _ => true
  | j :: A, e => ((A ++ [e]).any fun c => (predsOf ops c).contains j) && ancB ops A e

def ssaB (ops : Array Oper) : List Nat → Bool
  | [] => true
  | i :: l => (l.all fun j => !sameDstB ops i j && !seesB ops i j && (!seesB ops j i || (predsOf ops j).contains i)) && ssaB ops l

abbrev Stage := List Nat × Nat × List Nat
def flat : List Stage → List Nat → List Nat
  | [], Af => Af
  | (A, e, _) :: S, Af => A ++ e :: flat S Af

def stageList : List Stage → List Nat → List Nat
  | [], Af => Af
  | (A, _, M) :: _, _ => A ++ M

def stageB (ops : Array Oper) (A : List Nat) (e : Nat) (M rest : List Nat) : Bool :=
  ancB ops A e && (M.all fun m => rest.contains m) && (rest.all fun i => M.contains i || (predsOf ops i).any fun p => p == e || (rest.contains p && !M.contains p)) &&
  ssaB ops (A ++ M) && (M.all fun j => !sameDstB ops e j && !seesB ops e j)

def nodupB : List Nat → Bool
  | [] => true
  | i :: l => !l.contains i && nodupB l

def stagesB (ops : Array Oper) : List Stage → List Nat → Bool
  | [], Af => ssaB ops Af
  | (A, e, M) :: S, Af => stageB ops A e M (flat S Af) && ((M.all fun m => (stageList S Af).contains m) && nodupB M) && stagesB ops S Af

def linB (ops : Array Oper) : List Nat → List Nat → Bool
  | _, [] => true
  | d, i :: C => ((predsOf ops i).all fun p => d.contains p) && linB ops (i :: d) C

def drawB (ops : Array Oper) (S : List Stage) (Af : List Nat) : Bool :=
  ((List.range ops.size).all fun i => (flat S Af).contains i) && nodupB (flat S Af) && ((flat S Af).all fun i => decide (i < ops.size)) && linB ops [] (flat S Af) && stagesB ops S Af && decide ((flat S Af).length ≤ ops.size) && ops.all fun o => notDefer o

theorem nodup_of : ∀ {l : List Nat}, nodupB l = true → l.Nodup
  | [], _ => List.nodup_nil
  | i :: l, h => by
    simp only [nodupB, Bool.and_eq_true, Bool.not_eq_true', List.contains_eq_mem, decide_eq_false_iff_not] at h
    exact List.nodup_cons.2 ⟨h.1, nodup_of h.2⟩

theorem ssa_spec {ops : Array Oper} : ∀ {l : List Nat}, ssaB ops l = true → ∀ l1 i l2, l = l1 ++ i :: l2 → (∀ j ∈ l2, sameDstB ops i j = false ∧ seesB ops i j = false) ∧ (∀ j ∈ l1, sameDstB ops j i = false ∧ (seesB ops i j = true → j ∈ predsOf ops i))
  | [], _, l1, i, l2, e => by simp at e
  | a :: l, h, l1, i, l2, e => by
    simp only [ssaB, Bool.and_eq_true, List.all_eq_true, Bool.not_eq_true', Bool.or_eq_true, List.contains_eq_mem, decide_eq_true_eq] at h
    obtain ⟨h1, h2⟩ := h
    cases l1 with
    | nil =>
      simp only [List.nil_append, List.cons.injEq] at e
      obtain ⟨rfl, rfl⟩ := e
      exact ⟨fun j hj => ⟨(h1 j hj).1.1, (h1 j hj).1.2⟩, fun j hj => by cases hj⟩
    | cons b l1 =>
      simp only [List.cons_append, List.cons.injEq] at e
      obtain ⟨rfl, e⟩ := e
      obtain ⟨k1, k2⟩ := ssa_spec h2 l1 i l2 e
      refine ⟨k1, fun j hj => ?_⟩
      cases hj with
      | head =>
        have := h1 i (by rw [e]; simp)
        refine ⟨this.1.1, fun hs => ?_⟩
        rcases this.2 with hh | hh
        · rw [hs] at hh; cases hh
        · exact hh
      | tail _ hj => exact k2 j hj

theorem lin_spec {ops : Array Oper} : ∀ {C d : List Nat}, linB ops d C = true → ∀ C1 i C2, C = C1 ++ i :: C2 → ∀ p ∈ predsOf ops i, p ∈ d ∨ p ∈ C1
  | [], d, _, C1, i, C2, e => by simp at e
  | a :: C, d, h, C1, i, C2, e => by
    simp only [linB, Bool.and_eq_true, List.all_eq_true, List.contains_eq_mem, decide_eq_true_eq] at h
    obtain ⟨h1, h2⟩ := h
    cases C1 with
    | nil =>
      simp only [List.nil_append, List.cons.injEq] at e
      obtain ⟨rfl, rfl⟩ := e
      exact fun p hp => .inl (h1 p hp)
    | cons b C1 =>
      simp only [List.cons_append, List.cons.injEq] at e
      obtain ⟨rfl, e⟩ := e
      intro p hp
      rcases lin_spec h2 C1 i C2 e p hp with h | h
      · cases h with
        | head => exact .inr (List.mem_cons_self ..)
        | tail _ h => exact .inl h
      · exact .inr (List.mem_cons_of_mem _ h)

theorem anc_spec {ops : Array Oper} {ex : Nat → Prop} (hclosed : ∀ i, ex i → ∀ p ∈ predsOf ops i, ex p) : ∀ {A : List Nat} {e : Nat}, ancB ops A e = true → (∀ p ∈ predsOf ops e, ex p) → ∀ j ∈ A, ex j
  | [], e, _, _, j, hj => by cases hj
  | a :: A, e, h, he, j, hj => by
    simp only [ancB, Bool.and_eq_true, List.any_eq_true, List.mem_append, List.mem_singleton, List.contains_eq_mem, decide_eq_true_eq] at h
    obtain ⟨⟨c, hc, hp⟩, h2⟩ := h
    have ih := anc_spec hclosed h2 he
    cases hj with
    | tail _ hj => exact ih j hj
    | head =>
      rcases hc with hc | rfl
      · exact hclosed c (ih c hc) a hp
      · exact he a hp

/-! ### The abstract run of such a region -/
def agree (pend T : List Ent) : Prop := ∀ x ∈ pend, ∃ y ∈ T, y.i = x.i ∧ y.v = x.v ∧ y.nb = x.nb

/-- One operation that has an effect. -/
def Exec (P : Program) (N : Nat) (gds : List (Option Tmp)) (id : Nat) (o : SOp) (fr : Fr) (σ : AHeap) (Q : Value → AHeap → Prop) : Prop :=
  dstOk N o.dst = true ∧ ((awanted gds fr o.guard = some false ∧ Q (.tuple #[]) σ) ∨ (awanted gds fr o.guard = some true ∧
    ((∃ v σ1, aexec P σ id fr o.op = some (v, σ1) ∧ Q v σ1) ∨ (∃ g vs, acallee fr o.op = some (g, vs) ∧ hasBody P g = true ∧ ACalls P g vs σ Q))))

def DGo (P : Program) (N : Nat) (gds : List (Option Tmp)) (L : List SOp) (base : Nat) (K : Fr → AHeap → Prop) : List Ent → List Stage → List Nat → Fr → AHeap → Prop
  | pend, [], Af, fr, σ => ∃ T, nrun P N gds L base σ Af fr = some T ∧ agree pend T ∧ K (putT fr T) (setT base σ T)
  | pend, (A, e, M) :: S, Af, fr, σ => ∃ TA TM o, nrun P N gds L base σ A fr = some TA ∧ nrun P N gds L base σ M (putT fr TA) = some TM ∧ agree pend (TA ++ TM) ∧ sget L e = some o ∧
      Exec P N gds (base + e) o (putT fr TA) (setT base σ TA) fun v σ1 => DGo P N gds L base K TM S Af (adst (putT fr TA) o.dst v) σ1

/-- A frame that knows these slots alone. -/
def only (fr : Fr) : List Tmp → Fr
  | [] => []
  | t :: r => match aget fr t with
    | some v => (t, v) :: only fr r
    | none => only fr r
theorem only_get {fr : Fr} : ∀ {l : List Tmp} {t : Tmp} {v : Value}, aget (only fr l) t = some v → t ∈ l ∧ aget fr t = some v
  | [], t, v, h => by simp [only, aget] at h
  | a :: r, t, v, h => by
    simp only [only] at h
    split at h
    · rename_i u hu
      rw [aget_cons] at h
      split at h
      · rename_i e; subst e; cases h; exact ⟨List.mem_cons_self .., hu⟩
      · obtain ⟨x, y⟩ := only_get h; exact ⟨List.mem_cons_of_mem _ x, y⟩
    · obtain ⟨x, y⟩ := only_get h; exact ⟨List.mem_cons_of_mem _ x, y⟩
theorem only_mem {fr : Fr} : ∀ {l : List Tmp} {t : Tmp}, t ∈ l → aget (only fr l) t = aget fr t
  | [], t, h => by cases h
  | a :: r, t, h => by
    simp only [only]
    split
    · rename_i u hu
      rw [aget_cons]
      split
      · rename_i e; subst e; exact hu.symm
      · rename_i e
        cases h with
        | head => exact absurd rfl e
        | tail _ h => exact only_mem h
    · rename_i hu
      by_cases hr : t ∈ r
      · exact only_mem hr
      · cases h with
        | head =>
          rw [hu]
          cases hg : aget (only fr r) a with
          | none => rfl
          | some v => exact absurd (only_get hg).1 hr
        | tail _ h => exact absurd h hr

theorem only_exec {P : Program} {σ : AHeap} {id : Nat} {fr : Fr} {ops : Array Oper} {i : Nat} {o : Oper} (ho : ops[i]? = some o) : aexec P σ id (only fr (looksOf ops i)) o.op = aexec P σ id fr o.op :=
  aexec_congr fun x hx => aeval_congr fun t ht => only_mem (by
    subst ht
    simp only [looksOf, ho, Oper.looksAt]
    exact List.mem_append_left _ (List.mem_filterMap.2 ⟨.tmp t, hx, rfl⟩))
theorem only_callee {fr : Fr} {ops : Array Oper} {i : Nat} {o : Oper} (ho : ops[i]? = some o) : acallee (only fr (looksOf ops i)) o.op = acallee fr o.op :=
  acallee_congr fun x hx => aeval_congr fun t ht => only_mem (by
    subst ht
    simp only [looksOf, ho, Oper.looksAt]
    exact List.mem_append_left _ (List.mem_filterMap.2 ⟨.tmp t, hx, rfl⟩))
theorem only_wanted {fr : Fr} {ops : Array Oper} {i : Nat} {o : Oper} (ho : ops[i]? = some o) : awanted (ops.toList.map (·.dst)) (only fr (looksOf ops i)) o.guard = awanted (ops.toList.map (·.dst)) fr o.guard := by
  unfold awanted
  cases hg : o.guard with
  | none => rfl
  | some gw =>
    obtain ⟨j, want⟩ := gw
    simp only
    have hn : nth (ops.toList.map (·.dst)) j = (ops[j]?).bind (·.dst) := by rw [nth_get]; simp
    rw [hn]
    cases hd : (ops[j]?).bind (·.dst) with
    | none => rfl
    | some d =>
      simp only
      rw [only_mem]
      simp only [looksOf, ho, Oper.looksAt, hg, hd]
      exact List.mem_append_right _ (by simp)

theorem sees_of {ops : Array Oper} {i j : Nat} {t : Tmp} (ht : t ∈ looksOf ops i) (hd : dstOf ops j = some t) : seesB ops i j = true := by
  simp only [seesB, hd, List.contains_eq_mem, decide_eq_true_eq]; exact ht
theorem same_of {ops : Array Oper} {i j : Nat} {t : Tmp} (hi : dstOf ops i = some t) (hj : dstOf ops j = some t) : sameDstB ops i j = true := by
  simp [sameDstB, hi, hj]

end Go.Abs
