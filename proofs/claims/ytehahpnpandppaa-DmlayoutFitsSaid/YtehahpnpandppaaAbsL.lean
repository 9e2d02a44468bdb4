/- THE ABSTRACT MACHINE, part L: what an operation looks at; operations that only read, and operations that make a block. -/
import Derived.Test.YtehahpnpandppaaAbsK
set_option linter.unusedVariables false
set_option linter.unusedSimpArgs false
namespace Go.Abs
open Go

/-- some true: it only reads; some false: it makes one block of its own and reads no memory; none: it has an effect. -/
def quietOp : Op → Option Bool
  | .move _ | .pick .. | .build .. | .load .. | .nilCheck _ | .binOp .. | .unOp .. | .makeFunc .. | .slice .. | .fieldAddr .. | .field .. | .indexAddr .. | .index .. | .lookup .. | .extract .. => some true
  | .convert .. => some true
  | .call { callee := .builtin b, .. } => match b with
    | .len | .cap | .min | .max => some true
    | _ => none
  | .alloc _ | .box .. | .buildSlice .. | .makeSlice .. | .makeMap .. => some false
  | _ => none

def opTmps (o : Op) : List Tmp := o.operands.toList.filterMap fun | .tmp t => some t | _ => none

theorem aeval_congr {fr fr' : Fr} {x : Operand} (h : ∀ t, x = .tmp t → aget fr t = aget fr' t) : aeval fr x = aeval fr' x := by
  cases x with
  | tmp t => exact h t rfl
  | _ => rfl
theorem aevals_congr {fr fr' : Fr} : ∀ {xs : List Operand}, (∀ x ∈ xs, aeval fr x = aeval fr' x) → aevals fr xs = aevals fr' xs
  | [], _ => rfl
  | x :: r, h => by simp only [aevals, h x (List.mem_cons_self ..), aevals_congr (xs := r) fun y hy => h y (List.mem_cons_of_mem _ hy)]
theorem aparts_congr {fr fr' : Fr} : ∀ {xs : List (Nat × Operand)}, (∀ x ∈ xs.map (·.2), aeval fr x = aeval fr' x) → aparts fr xs = aparts fr' xs
  | [], _ => rfl
  | (i, x) :: r, h => by simp only [aparts, h x (by simp), aparts_congr (xs := r) fun y hy => h y (by simp at hy ⊢; exact .inr hy)]
theorem aevalO_congr {fr fr' : Fr} {x : Option Operand} (h : ∀ y ∈ x.toList, aeval fr y = aeval fr' y) : aevalO fr x = aevalO fr' x := by
  cases x with
  | none => rfl
  | some y => simp only [aevalO, h y (by simp)]

theorem aexec_congr {P : Program} {σ : AHeap} {id : Nat} {fr fr' : Fr} {o : Op} (h : ∀ x ∈ o.operands.toList, aeval fr x = aeval fr' x) : aexec P σ id fr o = aexec P σ id fr' o := by
  cases o <;> simp only [Op.operands] at h <;> try rfl
  case move x => simp only [aexec, h x (by simp)]
  case assign x => simp only [aexec, h x (by simp)]
  case pick c x y => simp only [aexec, h c (by simp), h x (by simp), h y (by simp)]
  case box e x => simp only [aexec, h x (by simp)]
  case build t ps => simp only [aexec, aparts_congr (fr := fr) (fr' := fr') (xs := ps.toList) fun x hx => h x (by simpa using hx)]
  case buildSlice t n ps => simp only [aexec, aparts_congr (fr := fr) (fr' := fr') (xs := ps.toList) fun x hx => h x (by simpa using hx)]
  case load t x => simp only [aexec, h x (by simp)]
  case store t x y => simp only [aexec, h x (by simp), h y (by simp)]
  case nilCheck x => simp only [aexec, h x (by simp)]
  case binOp op t x y u => simp only [aexec, h x (by simp), h y (by simp)]
  case unOp op t x => simp only [aexec, h x (by simp)]
  case convert s t x => simp only [aexec, h x (by simp)]
  case makeFunc fn xs ys =>
    cases fn <;> try rfl
    simp only [aexec, aevals_congr (fr := fr) (fr' := fr') (xs := xs.toList) fun x hx => h x (by simp at hx ⊢; exact .inl hx), aevals_congr (fr := fr) (fr' := fr') (xs := ys.toList) fun x hx => h x (by simp at hx ⊢; exact .inr hx)]
  case makeMap t r => cases r <;> simp only [aexec]
  case makeSlice t x y => simp only [aexec, h x (by simp), h y (by simp)]
  case slice t x lo hi mx =>
    have h1 := h x (by simp)
    have h2 := aevalO_congr (fr := fr) (fr' := fr') (x := lo) fun y hy => h y (by simp at hy ⊢; simp [hy])
    have h3 := aevalO_congr (fr := fr) (fr' := fr') (x := hi) fun y hy => h y (by simp at hy ⊢; simp [hy])
    cases mx with
    | none => simp only [aexec, h1, h2, h3]
    | some m => simp only [aexec, h1, h2, h3, h m (by simp)]
  case fieldAddr t x f => simp only [aexec, h x (by simp)]
  case field t x f => simp only [aexec, h x (by simp)]
  case indexAddr t x y => simp only [aexec, h x (by simp), h y (by simp)]
  case index t x y => simp only [aexec, h x (by simp), h y (by simp)]
  case lookup t x y ok => simp only [aexec, h x (by simp), h y (by simp)]
  case mapUpdate t x y z => simp only [aexec, h x (by simp), h y (by simp), h z (by simp)]
  case extract x i => simp only [aexec, h x (by simp)]
  case call c =>
    obtain ⟨callee, args, ats⟩ := c
    cases callee <;> try rfl
    simp only [aexec, aevals_congr (fr := fr) (fr' := fr') (xs := args.toList) fun x hx => h x (by simp [Call.operands] at hx ⊢; exact hx)]

theorem acallee_congr {fr fr' : Fr} {o : Op} (h : ∀ x ∈ o.operands.toList, aeval fr x = aeval fr' x) : acallee fr o = acallee fr' o := by
  cases o <;> try rfl
  rename_i c
  obtain ⟨callee, args, ats⟩ := c
  cases callee <;> try rfl
  rename_i f
  simp only [Op.operands, Call.operands] at h
  simp only [acallee, h f (by simp), aevals_congr (fr := fr) (fr' := fr') (xs := args.toList) fun x hx => h x (by simp at hx ⊢; exact .inr hx)]

/-- Every block of the one is a block of the other. -/
def Sub (σ τ : AHeap) : Prop := ∀ b x, σ.blk b = some x → τ.blk b = some x

theorem aload_sub {P : Program} {σ τ : AHeap} (hs : Sub σ τ) {t : TypeId} {p v : Value} (h : aload P σ t p = some v) : aload P τ t p = some v := by
  unfold aload at h ⊢
  split at h
  · split at h
    · rename_i hb hT; rw [hs _ _ hb, hT]; exact h
    · cases h
  · cases h
theorem aslice2_sub {P : Program} {σ τ : AHeap} (hs : Sub σ τ) {t : TypeId} {x v : Value} {lo hi : Option Value} (h : aslice2 P σ t x lo hi = some v) : aslice2 P τ t x lo hi = some v := by
  unfold aslice2 at h ⊢
  split at h
  · split at h
    · rename_i hE hb; rw [hs _ _ hb, hE]; exact h
    · cases h
  · exact h
theorem aslice3_sub {P : Program} {σ τ : AHeap} (hs : Sub σ τ) {t : TypeId} {x v m : Value} {lo hi : Option Value} (h : aslice3 P σ t x lo hi m = some v) : aslice3 P τ t x lo hi m = some v := by
  unfold aslice3 at h ⊢
  split at h
  · split at h
    · rename_i hE hb; rw [hs _ _ hb, hE]; exact h
    · cases h
  · cases h
theorem alookup_sub {P : Program} {σ τ : AHeap} (hs : Sub σ τ) {t : TypeId} {m k v : Value} {ok : Bool} (h : alookup P σ t m k ok = some v) : alookup P τ t m k ok = some v := by
  unfold alookup at h ⊢
  split at h
  · split at h
    · split at h
      · rename_i hb; simp only [hs _ _ hb]; exact h
      · cases h
    · cases h
  · cases h

theorem quiet_exec {P : Program} {σ τ : AHeap} {id id' : Nat} {fr : Fr} {o : Op} {v : Value} {σ' : AHeap} (hq : quietOp o = some true) (hs : Sub σ τ) (h : aexec P σ id fr o = some (v, σ')) :
    σ' = σ ∧ aexec P τ id' fr o = some (v, τ) := by
  have mapped : ∀ {x : Option Value} {y : Option Value}, (x.map (·, σ)) = some (v, σ') → (x = some v → y = some v) → σ' = σ ∧ (y.map (·, τ)) = some (v, τ) := by
    intro x y h1 h2
    rw [Option.map_eq_some_iff] at h1
    obtain ⟨u, rfl, heq⟩ := h1
    cases heq
    exact ⟨rfl, by rw [h2 rfl]; rfl⟩
  cases o <;> simp only [quietOp] at hq <;> try (cases hq; done)
  case move x => simp only [aexec] at h ⊢; exact mapped h (fun e => e)
  case pick c x y =>
    simp only [aexec] at h ⊢
    split at h
    · exact mapped h (fun e => e)
    · cases h
  case build t ps =>
    simp only [aexec] at h ⊢
    split at h
    · exact mapped h (fun e => e)
    · cases h
  case load t x =>
    simp only [aexec] at h ⊢
    split at h
    · exact mapped h (aload_sub hs)
    · cases h
  case nilCheck x =>
    simp only [aexec] at h ⊢
    split at h
    · cases h; exact ⟨rfl, rfl⟩
    · cases h; exact ⟨rfl, rfl⟩
    · cases h
  case binOp op t x y u =>
    simp only [aexec] at h ⊢
    split at h
    · exact mapped h (fun e => e)
    · cases h
  case unOp op t x =>
    simp only [aexec] at h ⊢
    split at h
    · exact mapped h (fun e => e)
    · cases h
  case convert s t x =>
    simp only [aexec] at h ⊢
    split at h
    · unfold aconvert at h ⊢
      split at h
      · split at h
        · split at h
          · cases h; exact ⟨rfl, rfl⟩
          · cases h
        · cases h
      · cases h
    · cases h
  case makeFunc fn xs ys =>
    cases fn <;> simp only [aexec] at h ⊢ <;> try (cases h; done)
    split at h
    · cases h; exact ⟨rfl, rfl⟩
    · cases h
  case slice t x lo hi mx =>
    cases mx with
    | none =>
      simp only [aexec] at h ⊢
      split at h
      · exact mapped h (aslice2_sub hs)
      · cases h
    | some m =>
      simp only [aexec] at h ⊢
      split at h
      · exact mapped h (aslice3_sub hs)
      · cases h
  case fieldAddr t x f =>
    simp only [aexec] at h ⊢
    split at h
    · exact mapped h (fun e => e)
    · cases h
  case field t x f =>
    simp only [aexec] at h ⊢
    split at h
    · exact mapped h (fun e => e)
    · cases h
  case indexAddr t x y =>
    simp only [aexec] at h ⊢
    split at h
    · exact mapped h (fun e => e)
    · cases h
  case index t x y =>
    simp only [aexec] at h ⊢
    split at h
    · exact mapped h (fun e => e)
    · cases h
  case lookup t m k ok =>
    simp only [aexec] at h ⊢
    split at h
    · exact mapped h (alookup_sub hs)
    · cases h
  case extract x i =>
    simp only [aexec] at h ⊢
    split at h
    · exact mapped h (fun e => e)
    · cases h
  case call c =>
    obtain ⟨callee, args, ats⟩ := c
    cases callee <;> simp only [quietOp] at hq <;> try (cases hq; done)
    rename_i b
    simp only [aexec] at h ⊢
    split at h
    · rename_i vs hvs
      cases b <;> simp only [quietOp] at hq <;> try (cases hq; done)
      all_goals
        match vs, h with
        | [], h => simp [abuiltin] at h
        | [x], h =>
          simp only [abuiltin] at h ⊢
          first
            | exact mapped h (fun e => e)
            | (split at h
               · exact mapped h (fun e => e)
               · cases h)
        | x :: y :: r, h =>
          first
            | (simp [abuiltin] at h; done)
            | (simp only [abuiltin] at h ⊢; exact mapped h (fun e => e))
    · cases h

/-- The block that is made. -/
theorem new_exec {P : Program} {σ : AHeap} {id : Nat} {fr : Fr} {o : Op} {v : Value} {σ' : AHeap} (hq : quietOp o = some false) (h : aexec P σ id fr o = some (v, σ')) :
    ∃ x, σ' = σ.set id x ∧ ∀ τ : AHeap, aexec P τ id fr o = some (v, τ.set id x) := by
  have anewed : ∀ {e : TypeId} {cs : List Value}, ((anew P σ id e cs).map (Value.pointer (some ⟨id, 0, none⟩), ·)) = some (v, σ') →
      ∃ x, σ' = σ.set id x ∧ ∀ τ : AHeap, ((anew P τ id e cs).map (Value.pointer (some ⟨id, 0, none⟩), ·)) = some (v, τ.set id x) := by
    intro e cs h1
    rw [Option.map_eq_some_iff] at h1
    obtain ⟨s, h1, heq⟩ := h1
    cases heq
    unfold anew at h1
    split at h1
    · rename_i hs; cases h1; exact ⟨_, rfl, fun τ => by simp only [anew]; rw [if_pos hs]; rfl⟩
    · cases h1
  cases o <;> simp only [quietOp] at hq <;> try (cases hq; done)
  case alloc e =>
    simp only [aexec] at h ⊢
    split at h
    · split at h
      · rename_i hz; obtain ⟨x, a, b⟩ := anewed h; exact ⟨x, a, fun τ => by rw [if_pos hz]; exact b τ⟩
      · cases h
    · cases h
  case box e y =>
    simp only [aexec] at h ⊢
    split at h
    · split at h
      · cases h
      · rename_i ht; obtain ⟨x, a, b⟩ := anewed h; exact ⟨x, a, fun τ => by rw [if_neg ht]; exact b τ⟩
    · cases h
  case buildSlice t n ps =>
    simp only [aexec] at h ⊢
    split at h
    · unfold abuildSlice at h ⊢
      split at h
      · split at h
        · split at h
          · rename_i hc
            split at h
            · cases h; exact ⟨_, rfl, fun τ => by rw [if_pos hc]⟩
            · cases h
          · cases h
        · cases h
      · cases h
    · cases h
  case makeMap t r =>
    cases r with
    | some _ => simp [aexec] at h
    | none =>
      simp only [aexec] at h ⊢
      split at h
      · cases h; exact ⟨_, rfl, fun τ => rfl⟩
      · cases h
  case makeSlice t l c =>
    simp only [aexec] at h ⊢
    split at h
    · unfold amakeSlice at h ⊢
      split at h
      · split at h
        · split at h
          · rename_i hc; cases h; exact ⟨_, rfl, fun τ => by rw [if_pos hc]⟩
          · cases h
        · cases h
      · cases h
    · cases h
  case call c =>
    obtain ⟨callee, args, ats⟩ := c
    cases callee <;> simp only [quietOp] at hq <;> try (cases hq; done)
    rename_i b
    cases b <;> simp [quietOp] at hq

end Go.Abs
