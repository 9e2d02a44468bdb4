/- THE ABSTRACT MACHINE, part M: a region whose order is drawn. -/
import Derived.Test.YtehahpnpandppaaAbsL
set_option linter.unusedVariables false
set_option linter.unusedSimpArgs false
namespace Go.Abs
open Go

/-! ### Heaps side by side -/
theorem RH.sub {P : Program} {φ : BMap} {σ τ : AHeap} {w : World} {B : Nat} (hr : RH P φ τ w B) (hs : Sub σ τ) (hn : σ.next = τ.next) : RH P φ σ w B :=
  ⟨hr.base, fun b hb => hr.fresh b (by omega), fun b x hx => hr.dom b x (hs b x hx), fun b c x y p q hx hy => hr.inj b c x y p q (hs b x hx) (hs c y hy)⟩

theorem Owns.sub {φ : BMap} {σ τ : AHeap} {g : Nat} (h : Owns φ σ g) (hs : Sub σ τ) : Owns φ τ g :=
  let ⟨b, x, p, a, c⟩ := h; ⟨b, x, p, hs _ _ a, c⟩

/-- σ1, and behind it the blocks of τ that σ has not. -/
def join (σ τ σ1 : AHeap) : AHeap := ⟨σ1.next, fun b => match σ1.blk b with
  | some y => some y
  | none => match σ.blk b with
    | some _ => none
    | none => τ.blk b⟩

theorem join_cases {σ τ σ1 : AHeap} {b : Nat} {x : ABlk} (h : (join σ τ σ1).blk b = some x) : σ1.blk b = some x ∨ (σ1.blk b = none ∧ σ.blk b = none ∧ τ.blk b = some x) := by
  simp only [join] at h
  split at h
  · rename_i hb; left; rw [hb]; exact h
  · rename_i hb
    split at h
    · cases h
    · rename_i hb'; exact .inr ⟨hb, hb', h⟩

/-- What a run does to a part of the heap, it does to the whole. -/
theorem RH.join {P : Program} {φ φ' : BMap} {σ τ σ1 : AHeap} {w w' : World} {B n0 : Nat} (hτ : RH P φ τ w B) (hs : Sub σ τ) (hst : Step n0 φ σ w φ' σ1 w') (h1 : RH P φ' σ1 w' B) : RH P φ' (join σ τ σ1) w' B := by
  have notOwned : ∀ b x p, σ.blk b = none → τ.blk b = some x → x.solid = true → φ b = some p → ¬ Owns φ σ p.g := by
    intro b x p hb hx hsol hp ⟨c, y, q, hy, hrw, hq, he⟩
    have := hτ.inj c b y x q p (hs c y hy) hx hrw hsol hq hp he
    subst this; rw [hy] at hb; cases hb
  have cross : ∀ b c x y p q, σ1.blk b = some x → σ.blk c = none → τ.blk c = some y → (x.rw = true ∨ y.rw = true) → x.solid = true → y.solid = true → φ' b = some p → φ' c = some q → p.g = q.g → False := by
    intro b c x y p q hx hc hy hor hxs hys hp hq he
    obtain ⟨q', hq', hok⟩ := hτ.dom c y hy
    have := hst.ext c q' hq'
    rw [hq] at this; cases this
    have hlt := hok.lt hys
    cases hxr : x.rw with
    | true =>
      exact notOwned c y q hc hy hys hq' (hst.own q.g hlt ⟨b, x, p, hx, hxr, hp, he⟩)
    | false =>
      have hxσ := hst.ro b x hx hxr
      have hyr : y.rw = true := by rcases hor with h | h; rw [hxr] at h; cases h; exact h
      obtain ⟨p', hp', _⟩ := hτ.dom b x (hs b x hxσ)
      have := hst.ext b p' hp'
      rw [hp] at this; cases this
      have := hτ.inj c b y x q p hy (hs b x hxσ) hyr hxs hq' hp' he.symm
      subst this; rw [hxσ] at hc; cases hc
  refine ⟨h1.base, h1.fresh, fun b x hx => ?_, fun b c x y p q hx hy hrw hsol hp hq he => ?_⟩
  · rcases join_cases hx with hx | ⟨_, hb, hx⟩
    · exact h1.dom b x hx
    · obtain ⟨p, hp, hok⟩ := hτ.dom b x hx
      exact ⟨p, hst.ext b p hp, hok.keep hst.ext (fun hs' => hst.kept p.g (hok.lt hs') (notOwned b x p hb hx hs' hp))⟩
  · rcases join_cases hx with hx' | ⟨hb1, hb, hx'⟩ <;> rcases join_cases hy with hy' | ⟨hc1, hc, hy'⟩
    · exact h1.inj b c x y p q hx' hy' hrw hsol hp hq he
    · exact (cross b c x y p q hx' hc hy' (.inl hrw) (solid_of_rw hrw) hsol hp hq he).elim
    · exact (cross c b y x q p hy' hb hx' (.inr hrw) hsol (solid_of_rw hrw) hq hp he.symm).elim
    · obtain ⟨p', hp', _⟩ := hτ.dom b x hx'
      obtain ⟨q', hq', _⟩ := hτ.dom c y hy'
      have e1 := hst.ext b p' hp'; rw [hp] at e1; cases e1
      have e2 := hst.ext c q' hq'; rw [hq] at e2; cases e2
      exact hτ.inj b c x y p q hx' hy' hrw hsol hp' hq' he

theorem Step.join {φ φ' : BMap} {σ τ σ1 : AHeap} {w w' : World} {B n0 n1 : Nat} {P : Program} (hτ : RH P φ τ w B) (hs : Sub σ τ) (hn : σ.next = τ.next) (hst : Step n1 φ σ w φ' σ1 w') (hle : n0 ≤ n1) : Step n0 φ τ w φ' (Abs.join σ τ σ1) w' where
  ext := hst.ext
  old b hb := hst.old b (by omega)
  next := by show τ.next ≤ σ1.next; rw [← hn]; exact hst.next
  os := hst.os
  tape := hst.tape
  output := hst.output
  size := hst.size
  kept g hg hno := hst.kept g hg (fun ho => hno (ho.sub hs))
  own g hg ho := by
    obtain ⟨b, x, p, hx, hrw, hp, he⟩ := ho
    rcases join_cases hx with hx' | ⟨_, hb, hx'⟩
    · exact (hst.own g hg ⟨b, x, p, hx', hrw, hp, he⟩).sub hs
    · obtain ⟨p', hp', _⟩ := hτ.dom b x hx'
      have e1 := hst.ext b p' hp'; rw [hp] at e1; cases e1
      exact ⟨b, x, p, hx', hrw, hp', he⟩
  dead b hb hd := by
    have hσ : σ.blk b = none := by cases h : σ.blk b with | none => rfl | some x => rw [hs b x h] at hd; cases hd
    simp only [Abs.join, hst.dead b (by omega) hσ, hσ, hd]
  ro b x hx hr := by
    rcases join_cases hx with hx' | ⟨_, _, hx'⟩
    · exact hs b x (hst.ro b x hx' hr)
    · exact hx'

/-! ### What is computed ahead -/
def sget : List SOp → Nat → Option SOp
  | [], _ => none
  | x :: _, 0 => some x
  | _ :: r, i + 1 => sget r i
theorem sget_get : ∀ (l : List SOp) (i : Nat), sget l i = l[i]?
  | [], i => by simp [sget]
  | x :: r, 0 => by simp [sget]
  | x :: r, i + 1 => by simp [sget, sget_get r i]

structure Ent where
  i : Nat
  o : SOp
  v : Value
  nb : Option ABlk

/-- The value of an operation that only reads or makes a block. -/
noncomputable def nval (P : Program) (N : Nat) (gds : List (Option Tmp)) (σ : AHeap) (id : Nat) (fr : Fr) (o : SOp) : Option (Value × Option ABlk) :=
  match dstOk N o.dst, awanted gds fr o.guard with
  | true, some false => some (.tuple #[], none)
  | true, some true =>
    match quietOp o.op with
    | some q =>
      match aexec P σ id fr o.op with
      | some (v, τ) => some (v, cond q none (τ.blk id))
      | none => none
    | none => none
  | _, _ => none

noncomputable def nrun (P : Program) (N : Nat) (gds : List (Option Tmp)) (L : List SOp) (base : Nat) (σ : AHeap) : List Nat → Fr → Option (List Ent)
  | [], _ => some []
  | i :: r, fr =>
    match sget L i with
    | none => none
    | some o =>
      match nval P N gds σ (base + i) fr o with
      | none => none
      | some (v, nb) =>
        match nrun P N gds L base σ r (adst fr o.dst v) with
        | none => none
        | some T => some (⟨i, o, v, nb⟩ :: T)

theorem nrun_nil {P : Program} {N : Nat} {gds : List (Option Tmp)} {L : List SOp} {base : Nat} {σ : AHeap} {fr : Fr} : nrun P N gds L base σ [] fr = some [] := rfl
theorem nrun_cons {P : Program} {N : Nat} {gds : List (Option Tmp)} {L : List SOp} {base : Nat} {σ : AHeap} {i : Nat} {r : List Nat} {fr fr' : Fr} {o : SOp} {v : Value} {nb : Option ABlk} {T : List Ent} (ho : sget L i = some o) (hv : nval P N gds σ (base + i) fr o = some (v, nb))
    (hf : adst fr o.dst v = fr') (hr : nrun P N gds L base σ r fr' = some T) : nrun P N gds L base σ (i :: r) fr = some (⟨i, o, v, nb⟩ :: T) := by
  simp only [nrun, ho, hv, hf, hr]

def putT : Fr → List Ent → Fr
  | fr, [] => fr
  | fr, e :: T => putT (adst fr e.o.dst e.v) T
def setT (base : Nat) : AHeap → List Ent → AHeap
  | σ, [] => σ
  | σ, ⟨i, _, _, some x⟩ :: T => setT base (σ.set (base + i) x) T
  | σ, ⟨_, _, _, none⟩ :: T => setT base σ T

section
variable {P : Program} {N : Nat} {gds : List (Option Tmp)} {L : List SOp} {base : Nat} {σ : AHeap}

theorem nrun_idx : ∀ {l : List Nat} {fr : Fr} {T : List Ent}, nrun P N gds L base σ l fr = some T → T.map (·.i) = l
  | [], fr, T, h => by simp only [nrun, Option.some.injEq] at h; subst h; rfl
  | i :: r, fr, T, h => by
    simp only [nrun] at h
    split at h
    · cases h
    · split at h
      · cases h
      · split at h
        · cases h
        · rename_i hT; cases h; simp [nrun_idx hT]

theorem nrun_at : ∀ {l : List Nat} {fr : Fr} {T T1 T2 : List Ent} {e : Ent}, nrun P N gds L base σ l fr = some T → T = T1 ++ e :: T2 →
    sget L e.i = some e.o ∧ nval P N gds σ (base + e.i) (putT fr T1) e.o = some (e.v, e.nb)
  | [], fr, T, T1, T2, e, h, hT => by simp only [nrun, Option.some.injEq] at h; subst h; simp at hT
  | i :: r, fr, T, T1, T2, e, h, hT => by
    simp only [nrun] at h
    split at h
    · cases h
    · rename_i o ho
      split at h
      · cases h
      · rename_i v nb hv
        split at h
        · cases h
        · rename_i T' hT'
          cases h
          cases T1 with
          | nil =>
            simp only [List.nil_append, List.cons.injEq] at hT
            obtain ⟨rfl, _⟩ := hT
            exact ⟨ho, hv⟩
          | cons x T1 =>
            simp only [List.cons_append, List.cons.injEq] at hT
            obtain ⟨rfl, hT⟩ := hT
            exact nrun_at (T := T') (T1 := T1) hT' hT

theorem nrun_append : ∀ {l l' : List Nat} {fr : Fr} {T T' : List Ent}, nrun P N gds L base σ l fr = some T → nrun P N gds L base σ l' (putT fr T) = some T' → nrun P N gds L base σ (l ++ l') fr = some (T ++ T')
  | [], l', fr, T, T', h, h' => by simp only [nrun, Option.some.injEq] at h; subst h; exact h'
  | i :: r, l', fr, T, T', h, h' => by
    simp only [nrun] at h
    split at h
    · cases h
    · rename_i o ho
      split at h
      · cases h
      · rename_i v nb hv
        split at h
        · cases h
        · rename_i T1 hT1
          cases h
          have ih := nrun_append hT1 h'
          simp only [List.cons_append, nrun, ho, hv, ih]

theorem putT_get : ∀ {T : List Ent} {fr : Fr} {t : Nat} {u : Value}, aget (putT fr T) t = some u →
    (∃ e ∈ T, e.o.dst = some t ∧ e.v = u) ∨ ((∀ e ∈ T, e.o.dst ≠ some t) ∧ aget fr t = some u)
  | [], fr, t, u, h => .inr ⟨fun _ h => (by cases h), h⟩
  | e :: T, fr, t, u, h => by
    rcases putT_get (T := T) h with ⟨e', he', a, b⟩ | ⟨hno, h'⟩
    · exact .inl ⟨e', List.mem_cons_of_mem _ he', a, b⟩
    · cases hd : e.o.dst with
      | none =>
        simp only [adst, hd] at h'
        exact .inr ⟨fun x hx => by cases hx with | head => rw [hd]; simp | tail _ hx => exact hno x hx, h'⟩
      | some d =>
        simp only [adst, hd, aget_aput] at h'
        split at h'
        · rename_i e1; subst e1; cases h'; exact .inl ⟨e, List.mem_cons_self .., hd, rfl⟩
        · rename_i e1
          exact .inr ⟨fun x hx => by cases hx with | head => rw [hd]; simpa using e1 | tail _ hx => exact hno x hx, h'⟩

theorem setT_next : ∀ (T : List Ent) (σ : AHeap), (setT base σ T).next = σ.next
  | [], _ => rfl
  | ⟨i, _, _, some x⟩ :: T, σ => by simp only [setT]; rw [setT_next T]; rfl
  | ⟨i, _, _, none⟩ :: T, σ => by simp only [setT]; rw [setT_next T]

theorem setT_blk : ∀ (T : List Ent) (σ : AHeap) (b : Nat) (x : ABlk), (setT base σ T).blk b = some x → (∃ e ∈ T, b = base + e.i ∧ e.nb = some x) ∨ ((∀ e ∈ T, e.nb.isSome = true → b ≠ base + e.i) ∧ σ.blk b = some x)
  | [], σ, b, x, h => .inr ⟨fun _ h => (by cases h), h⟩
  | ⟨i, o, v, some y⟩ :: T, σ, b, x, h => by
    simp only [setT] at h
    rcases setT_blk T _ b x h with ⟨e, he, h1, h2⟩ | ⟨hno, h'⟩
    · exact .inl ⟨e, List.mem_cons_of_mem _ he, h1, h2⟩
    · rw [AHeap.set_blk] at h'
      split at h'
      · rename_i e1; cases h'; exact .inl ⟨_, List.mem_cons_self .., e1, rfl⟩
      · rename_i e1
        exact .inr ⟨fun e he hs => by cases he with | head => exact e1 | tail _ he => exact hno e he hs, h'⟩
  | ⟨i, o, v, none⟩ :: T, σ, b, x, h => by
    simp only [setT] at h
    rcases setT_blk T _ b x h with ⟨e, he, h1, h2⟩ | ⟨hno, h'⟩
    · exact .inl ⟨e, List.mem_cons_of_mem _ he, h1, h2⟩
    · exact .inr ⟨fun e he hs => by cases he with | head => simp at hs | tail _ he => exact hno e he hs, h'⟩

theorem setT_none : ∀ (T : List Ent) (σ : AHeap) (b : Nat), (∀ e ∈ T, e.nb.isSome = true → b ≠ base + e.i) → (setT base σ T).blk b = σ.blk b
  | [], σ, b, _ => rfl
  | ⟨i, o, v, some y⟩ :: T, σ, b, h => by
    simp only [setT]
    rw [setT_none T _ b (fun e he => h e (List.mem_cons_of_mem _ he)), AHeap.set_blk, if_neg (h _ (List.mem_cons_self ..) rfl)]
  | ⟨i, o, v, none⟩ :: T, σ, b, h => by
    simp only [setT]
    exact setT_none T _ b (fun e he => h e (List.mem_cons_of_mem _ he))

theorem setT_mem : ∀ (T : List Ent) (σ : AHeap) (e : Ent) (x : ABlk), e ∈ T → e.nb = some x → (T.map (·.i)).Nodup → (setT base σ T).blk (base + e.i) = some x
  | [], σ, e, x, h, _, _ => by cases h
  | ⟨i, o, v, nb⟩ :: T, σ, e, x, h, hx, hn => by
    simp only [List.map_cons, List.nodup_cons] at hn
    cases h with
    | head =>
      simp only at hx; subst hx
      simp only [setT]
      rw [setT_none, AHeap.set_blk, if_pos rfl]
      intro e' he' _ heq
      exact hn.1 (List.mem_map.2 ⟨e', he', by show e'.i = i; have : base + i = base + e'.i := heq; omega⟩)
    | tail _ h =>
      cases nb with
      | some y => simp only [setT]; exact setT_mem T _ e x h hx hn.2
      | none => simp only [setT]; exact setT_mem T _ e x h hx hn.2
end

end Go.Abs
