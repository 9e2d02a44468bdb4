/- THE ABSTRACT MACHINE, part R: an interpreter that the kernel can run: values made plain, blocks in a list. -/
import Derived.Test.YtehahpnpandppaaAbsQ
set_option linter.unusedVariables false
set_option linter.unusedSimpArgs false
namespace Go.Abs
open Go

/-! ### Values made plain before they are handed on -/
section
variable {α : Type}
def forceN (n : Nat) (k : Nat → α) : α :=
  match n with
  | 0 => k 0
  | m + 1 => k (Nat.succ m)
theorem forceN_eq (n : Nat) (k : Nat → α) : forceN n k = k n := by cases n <;> rfl
def forceI (n : Int) (k : Int → α) : α :=
  match n with
  | .ofNat m => forceN m fun m => k (.ofNat m)
  | .negSucc m => forceN m fun m => k (.negSucc m)
theorem forceI_eq (n : Int) (k : Int → α) : forceI n k = k n := by cases n <;> simp only [forceI, forceN_eq]
def forceA (a : Option Addr) (k : Option Addr → α) : α :=
  match a with
  | none => k none
  | some ⟨b, o, s⟩ => forceN b fun b => forceN o fun o =>
    match s with
    | none => k (some ⟨b, o, none⟩)
    | some s => k (some ⟨b, o, some s⟩)
theorem forceA_eq (a : Option Addr) (k : Option Addr → α) : forceA a k = k a := by
  rcases a with _ | ⟨b, o, _ | s⟩ <;> simp only [forceA, forceN_eq]
noncomputable def forceL (f : Value → (Value → α) → α) (l : List Value) : (List Value → α) → α :=
  List.rec (motive := fun _ => (List Value → α) → α) (fun k => k []) (fun v _ ih k => f v fun v => ih fun r => k (v :: r)) l
theorem forceL_eq (f : Value → (Value → α) → α) (hf : ∀ v k, f v k = k v) : ∀ (l : List Value) (k : List Value → α), forceL f l k = k l
  | [], k => rfl
  | v :: r, k => by
    show f v (fun v => forceL f r fun r => k (v :: r)) = _
    rw [hf, forceL_eq f hf r]
noncomputable def forceV : Nat → Value → (Value → α) → α
  | 0, v, k => k v
  | d + 1, v, k =>
    match v with
    | .int t n => forceI n fun n => k (.int t n)
    | .bool b => match b with | true => k (.bool true) | false => k (.bool false)
    | .pointer a => forceA a fun a => k (.pointer a)
    | .slice a n c => forceA a fun a => forceN n fun n => forceN c fun c => k (.slice a n c)
    | .agg a => forceL (forceV d) a.toList fun l => k (.agg l.toArray)
    | .tuple a => forceL (forceV d) a.toList fun l => k (.tuple l.toArray)
    | .func f xs ys => forceL (forceV d) xs.toList fun xs => forceL (forceV d) ys.toList fun ys => k (.func f xs.toArray ys.toArray)
    | v => k v
theorem forceV_eq : ∀ (d : Nat) (v : Value) (k : Value → α), forceV d v k = k v
  | 0, v, k => rfl
  | d + 1, v, k => by
    cases v <;> simp only [forceV, forceI_eq, forceA_eq, forceN_eq]
    case bool b => cases b <;> rfl
    all_goals simp only [forceL_eq _ (forceV_eq d), Array.toArray_toList]
noncomputable def forceS (l : List Value) : (List Value → α) → α :=
  List.rec (motive := fun _ => (List Value → α) → α) (fun k => k []) (fun v _ ih k => ih fun r => k (v :: r)) l
theorem forceS_eq : ∀ (l : List Value) (k : List Value → α), forceS l k = k l
  | [], _ => rfl
  | v :: r, k => forceS_eq r fun r => k (v :: r)
noncomputable def forceB (x : ABlk) (k : ABlk → α) : α :=
  match x with
  | .cells cs e rw => forceS cs fun cs => match rw with | true => k (.cells cs e true) | false => k (.cells cs e false)
  | .map t m => k (.map t m)
theorem forceB_eq (x : ABlk) (k : ABlk → α) : forceB x k = k x := by
  cases x with
  | cells cs e rw => cases rw <;> simp only [forceB, forceS_eq]
  | map t m => rfl
end

/-! ### Blocks in a list -/
structure CH where
  next : Nat
  bs : List (Nat × ABlk)
noncomputable def clook (l : List (Nat × ABlk)) : Nat → Option ABlk :=
  List.rec (motive := fun _ => Nat → Option ABlk) (fun _ => none)
    (fun e _ ih i => Prod.rec (motive := fun _ => Option ABlk) (fun j x => Bool.rec (motive := fun _ => Option ABlk) (ih i) (some x) (Nat.beq j i)) e) l
noncomputable def cdel (l : List (Nat × ABlk)) : Nat → List (Nat × ABlk) :=
  List.rec (motive := fun _ => Nat → List (Nat × ABlk)) (fun _ => [])
    (fun e _ ih i => Prod.rec (motive := fun _ => List (Nat × ABlk)) (fun j x => Bool.rec (motive := fun _ => List (Nat × ABlk)) ((j, x) :: ih i) (ih i) (Nat.beq j i)) e) l
theorem clook_nil (i : Nat) : clook [] i = none := rfl
theorem clook_cons (j : Nat) (x : ABlk) (r : List (Nat × ABlk)) (i : Nat) : clook ((j, x) :: r) i = match Nat.beq j i with | true => some x | false => clook r i := by
  show Bool.rec (motive := fun _ => Option ABlk) (clook r i) (some x) (Nat.beq j i) = _
  cases Nat.beq j i <;> rfl
theorem cdel_nil (i : Nat) : cdel [] i = [] := rfl
theorem cdel_cons (j : Nat) (x : ABlk) (r : List (Nat × ABlk)) (i : Nat) : cdel ((j, x) :: r) i = match Nat.beq j i with | true => cdel r i | false => (j, x) :: cdel r i := by
  show Bool.rec (motive := fun _ => List (Nat × ABlk)) ((j, x) :: cdel r i) (cdel r i) (Nat.beq j i) = _
  cases Nat.beq j i <;> rfl
/-- The same, made plain. -/
noncomputable def delK {α : Type} (l : List (Nat × ABlk)) : Nat → (List (Nat × ABlk) → α) → α :=
  List.rec (motive := fun _ => Nat → (List (Nat × ABlk) → α) → α) (fun _ k => k [])
    (fun e _ ih i k => Prod.rec (motive := fun _ => α) (fun j x => Bool.rec (motive := fun _ => α) (ih i fun r => k ((j, x) :: r)) (ih i k) (Nat.beq j i)) e) l
theorem delK_eq {α : Type} : ∀ (l : List (Nat × ABlk)) (i : Nat) (k : List (Nat × ABlk) → α), delK l i k = k (cdel l i)
  | [], i, k => rfl
  | (j, x) :: r, i, k => by
    rw [cdel_cons]
    show Bool.rec (motive := fun _ => α) (delK r i fun r => k ((j, x) :: r)) (delK r i k) (Nat.beq j i) = _
    cases Nat.beq j i
    · exact delK_eq r i _
    · exact delK_eq r i _
noncomputable def CH.toA (h : CH) : AHeap := ⟨h.next, fun i => clook h.bs i⟩
theorem clook_cdel : ∀ (l : List (Nat × ABlk)) (i j : Nat), clook (cdel l i) j = if j = i then none else clook l j
  | [], i, j => by simp [cdel_nil, clook_nil]
  | (a, x) :: r, i, j => by
    rw [cdel_cons]
    split
    · rename_i h
      have h := Nat.eq_of_beq_eq_true h
      subst h
      rw [clook_cdel r]
      rw [clook_cons]
      split
      · rfl
      · rename_i hne
        have : Nat.beq a j = false := by
          cases hb : Nat.beq a j with
          | false => rfl
          | true => exact absurd (Nat.eq_of_beq_eq_true hb).symm hne
        rw [this]
    · rename_i h
      rw [clook_cons, clook_cons]
      have hne := Nat.ne_of_beq_eq_false h
      split
      · rename_i hb
        have hb := Nat.eq_of_beq_eq_true hb
        subst hb
        rw [if_neg hne]
      · rw [clook_cdel r]

/-- The blocks that an operation may change. -/
def blkOf : Option Value → List Nat
  | some (.pointer (some ⟨b, _, _⟩)) => [b]
  | some (.slice (some ⟨b, _, _⟩) _ _) => [b]
  | some (.map (some b)) => [b]
  | _ => []
def argB (fr : Fr) : List Operand → List Nat
  | [] => []
  | x :: _ => blkOf (aeval fr x)
def touch (id : Nat) (fr : Fr) (o : Op) : List Nat :=
  match quietOp o with
  | some true => []
  | some false => [id]
  | none => match o with
    | .store _ a _ => blkOf (aeval fr a)
    | .mapUpdate _ m _ _ => blkOf (aeval fr m)
    | .call c => id :: argB fr c.args.toList
    | _ => []

noncomputable def cupd (s : Nat → Option ABlk) {α : Type} : List Nat → List (Nat × ABlk) → (List (Nat × ABlk) → α) → α
  | [], l, k => k l
  | t :: ts, l, k => cupd s ts l fun l => match s t with
    | some x => forceB x fun x => delK l t fun l => k ((t, x) :: l)
    | none => delK l t k
noncomputable def cupd' (s : Nat → Option ABlk) : List Nat → List (Nat × ABlk) → List (Nat × ABlk)
  | [], l => l
  | t :: ts, l => match s t with
    | some x => (t, x) :: cdel (cupd' s ts l) t
    | none => cdel (cupd' s ts l) t
theorem cupd_eq (s : Nat → Option ABlk) {α : Type} : ∀ (ts : List Nat) (l : List (Nat × ABlk)) (k : List (Nat × ABlk) → α), cupd s ts l k = k (cupd' s ts l)
  | [], l, k => rfl
  | t :: ts, l, k => by
    simp only [cupd, cupd_eq s ts l, cupd']
    cases s t <;> simp only [forceB_eq, delK_eq]
theorem clook_cupd (s : Nat → Option ABlk) (i : Nat) : ∀ (ts : List Nat) (l : List (Nat × ABlk)), clook (cupd' s ts l) i = if i ∈ ts then s i else clook l i
  | [], l => by simp [cupd']
  | t :: ts, l => by
    simp only [cupd']
    have ih := clook_cupd s i ts l
    cases hs : s t with
    | none =>
      simp only [clook_cdel, ih, List.mem_cons]
      by_cases h : i = t
      · subst h; simp [hs]
      · simp [h]
    | some x =>
      simp only [clook_cons, clook_cdel, ih, List.mem_cons]
      by_cases h : i = t
      · subst h
        simp [hs, show Nat.beq i i = true from Nat.beq_refl i]
      · have : Nat.beq t i = false := by
          cases hb : Nat.beq t i with
          | false => rfl
          | true => exact absurd (Nat.eq_of_beq_eq_true hb).symm h
        simp [h, this]

theorem AHeap.ext {σ τ : AHeap} (h1 : σ.next = τ.next) (h2 : ∀ i, σ.blk i = τ.blk i) : σ = τ := by
  cases σ; cases τ; simp only at h1 h2; subst h1; congr; funext i; exact h2 i

/-- What lies outside is as it was. -/
theorem touch_ok {P : Program} {σ σ' : AHeap} {id : Nat} {fr : Fr} {o : Op} {v : Value} (h : aexec P σ id fr o = some (v, σ')) :
    σ'.next = σ.next ∧ ∀ i, i ∉ touch id fr o → σ'.blk i = σ.blk i := by
  unfold touch
  cases hq : quietOp o with
  | some q =>
    cases q with
    | true => obtain ⟨rfl, _⟩ := quiet_exec (id' := id) (τ := σ) hq (Sub.refl σ) h; exact ⟨rfl, fun _ _ => rfl⟩
    | false =>
      obtain ⟨x, rfl, _⟩ := new_exec hq h
      exact ⟨rfl, fun i hi => by rw [AHeap.set_blk, if_neg]; simpa using hi⟩
  | none =>
    cases o <;> simp only [quietOp] at hq <;> try (cases hq; done)
    case assign x => simp only [aexec, Option.map_eq_some_iff] at h; obtain ⟨_, _, h⟩ := h; cases h; exact ⟨rfl, fun _ _ => rfl⟩
    case store t a x =>
      simp only [aexec] at h
      split at h
      · rename_i p u hp hu
        simp only [Option.map_eq_some_iff] at h
        obtain ⟨τ, h, e⟩ := h; cases e
        unfold astore at h
        split at h
        · split at h
          · split at h
            · cases h; refine ⟨rfl, fun i hi => ?_⟩
              rw [AHeap.set_blk, if_neg]; intro e; subst e; exact hi (by simp [hp, blkOf])
            · cases h
          · cases h
        · cases h
      · cases h
    case mapUpdate t m k x =>
      simp only [aexec] at h
      split at h
      · rename_i p u w hp hu hw
        simp only [Option.map_eq_some_iff] at h
        obtain ⟨τ, h, e⟩ := h; cases e
        unfold amapUpdate at h
        split at h
        · split at h
          · split at h
            · cases h; refine ⟨rfl, fun i hi => ?_⟩
              rw [AHeap.set_blk, if_neg]; intro e; subst e; exact hi (by simp [hp, blkOf])
            · cases h
          · cases h
        · cases h
      · cases h
    case call c =>
      obtain ⟨callee, args, ats⟩ := c
      cases callee <;> simp only [aexec] at h <;> try (cases h; done)
      rename_i b
      split at h
      case h_2 => cases h
      rename_i vs hvs
      have hmem : ∀ (x : Value) (r : List Value), vs = x :: r → argB fr args.toList = blkOf (some x) := fun x r e => by
        subst e
        cases ha : args.toList with
        | nil => rw [ha] at hvs; simp [aevals] at hvs
        | cons y ys =>
          rw [ha] at hvs
          simp only [aevals] at hvs
          split at hvs
          · rename_i v us h1 h2; cases hvs; simp [argB, h1]
          · cases hvs
      unfold abuiltin at h
      split at h
      all_goals try (cases h; done)
      -- the builtins that change nothing
      all_goals try (
        first
        | (split at h
           · simp only [Option.map_eq_some_iff] at h; obtain ⟨_, _, h⟩ := h; cases h; exact ⟨rfl, fun _ _ => rfl⟩
           · cases h; done)
        | (simp only [Option.map_eq_some_iff] at h; obtain ⟨_, _, h⟩ := h; cases h; exact ⟨rfl, fun _ _ => rfl⟩))
      -- append
      · rename_i v x
        have hm := hmem _ _ rfl
        split at h
        case h_2 => cases h
        unfold aappend at h
        split at h <;> try (cases h; done)
        split at h <;> try (cases h; done)
        split at h <;> try (cases h; done)
        split at h <;> try (cases h; done)
        split at h
        · split at h
          · cases h; exact ⟨rfl, fun _ _ => rfl⟩
          · split at h
            · cases h; refine ⟨rfl, fun i hi => ?_⟩
              rw [AHeap.set_blk, if_neg]; intro e; subst e; exact hi (by simp)
            · cases h
        · split at h <;> try (cases h; done)
          split at h <;> try (cases h; done)
          split at h
          · split at h
            · cases h; refine ⟨rfl, fun i hi => ?_⟩
              rw [AHeap.set_blk, if_neg]; intro e; subst e; exact hi (by simp [hm, blkOf])
            · cases h
          · split at h
            · cases h; refine ⟨rfl, fun i hi => ?_⟩
              rw [AHeap.set_blk, if_neg, AHeap.del_blk, if_neg]
              · intro e; subst e; exact hi (by simp [hm, blkOf])
              · intro e; subst e; exact hi (by simp)
            · cases h
        · cases h
      -- copy
      · rename_i d x
        have hm := hmem _ _ rfl
        split at h
        case h_2 => cases h
        unfold acopy at h
        split at h <;> try (cases h; done)
        split at h <;> try (cases h; done)
        split at h <;> try (cases h; done)
        split at h <;> try (cases h; done)
        split at h <;> try (cases h; done)
        cases h; refine ⟨rfl, fun i hi => ?_⟩
        rw [AHeap.set_blk, if_neg]; intro e; subst e; exact hi (by simp [hm, blkOf])
      -- clear
      · rename_i x
        have hm := hmem _ _ rfl
        split at h
        case h_2 => cases h
        split at h
        case isFalse => cases h
        simp only [Option.map_eq_some_iff] at h
        obtain ⟨τ, h, e⟩ := h; cases e
        unfold aclear at h
        split at h
        · cases h; exact ⟨rfl, fun _ _ => rfl⟩
        · cases h; exact ⟨rfl, fun _ _ => rfl⟩
        · split at h <;> try (cases h; done)
          split at h <;> try (cases h; done)
          split at h <;> try (cases h; done)
          cases h; refine ⟨rfl, fun i hi => ?_⟩
          rw [AHeap.set_blk, if_neg]; intro e; subst e; exact hi (by simp [hm, blkOf])
        · cases h
    all_goals (simp [aexec] at h)

/-! ### Blocks that are no longer looked at -/
theorem AGo.forget {P : Program} {ro : Option Nat} {f : FuncId} {N : Nat} {R : Value → AHeap → Prop} {fr : Fr} {σ : AHeap} {todo : List Item} (σ0 : AHeap) (hs : Sub σ0 σ) (hn : σ0.next = σ.next) (h : AGo P ro f N todo R fr σ0) : AGo P ro f N todo R fr σ := by
  intro B φ w a b cs h1 h2 h3 h4 h5
  obtain ⟨v, v', σ', φ', w1, w', frm, a1, a2, a3, a4, a5, a6⟩ := h B φ w a b cs (h1.sub hs hn) h2 h3 h4 h5
  exact ⟨v, v', σ', φ', w1, w', frm, a1, a2, a3, by rw [← hn]; exact a4.weak hs hn, a5, a6⟩
theorem Ends.sub {P : Program} {ro : Option Nat} {f : FuncId} {B : Nat} {φ : BMap} {σ : AHeap} {w : World} {fr0 : Frame} {cs : List Frame} {R R' : Value → AHeap → Prop} (h : Ends P ro f B φ σ w fr0 cs R)
    (hr : ∀ v σ', R v σ' → ∃ σ0, Sub σ0 σ' ∧ σ0.next = σ'.next ∧ R' v σ0) : Ends P ro f B φ σ w fr0 cs R' := by
  obtain ⟨v, v', σ', φ', w1, w', frm, a1, a2, a3, a4, a5, a6⟩ := h
  obtain ⟨σ0, hs, hn, hR⟩ := hr v σ' a1
  refine ⟨v, v', σ0, φ', w1, w', frm, hR, a2, a3.sub hs hn, ⟨a4.ext, a4.old, by rw [hn]; exact a4.next, a4.os, a4.tape, a4.output, a4.size, a4.kept, fun g hg ho => a4.own g hg (ho.sub hs), fun b hb hd => ?_, fun b x hx hr => a4.ro b x (hs b x hx) hr⟩, a5, a6⟩
  have := a4.dead b hb hd
  cases hx : σ0.blk b with
  | none => rfl
  | some x => rw [hs b x hx] at this; cases this
theorem ACalls.sub {P : Program} {f : FuncId} {args : List Value} {σ : AHeap} {R R' : Value → AHeap → Prop} (h : ACalls P f args σ R) (hr : ∀ v σ', R v σ' → ∃ σ0, Sub σ0 σ' ∧ σ0.next = σ'.next ∧ R' v σ0) : ACalls P f args σ R' :=
  fun B φ w args' cs h1 h2 => (h B φ w args' cs h1 h2).sub hr
/-- Nothing lies where new blocks will lie. -/
def Wf (σ : AHeap) : Prop := ∀ b, σ.next ≤ b → σ.blk b = none
theorem RH.wf {P : Program} {φ : BMap} {σ : AHeap} {w : World} {B : Nat} (h : RH P φ σ w B) : Wf σ := by
  intro b hb
  cases hx : σ.blk b with
  | none => rfl
  | some x =>
    obtain ⟨p, hp, _⟩ := h.dom b x hx
    rw [h.fresh b hb] at hp; cases hp
theorem AGo.wf {P : Program} {ro : Option Nat} {f : FuncId} {N : Nat} {R : Value → AHeap → Prop} {fr : Fr} {σ : AHeap} {todo : List Item} (h : Wf σ → AGo P ro f N todo R fr σ) : AGo P ro f N todo R fr σ :=
  fun B φ w a b cs h1 => h h1.wf B φ w a b cs h1
theorem ACalls.wf {P : Program} {f : FuncId} {args : List Value} {σ : AHeap} {R : Value → AHeap → Prop} (h : Wf σ → ACalls P f args σ R) : ACalls P f args σ R :=
  fun B φ w args' cs h1 => h h1.wf B φ w args' cs h1
/-- Numbers of blocks may be left out. -/
theorem AGo.skipn {P : Program} {ro : Option Nat} {f : FuncId} {N : Nat} {R : Value → AHeap → Prop} {fr : Fr} {σ : AHeap} {todo : List Item} (n : Nat) (h : AGo P ro f N todo R fr (σ.bump n)) : AGo P ro f N todo R fr σ := by
  intro B φ w a b cs h1 h2 h3 h4 h5
  obtain ⟨v, v', σ', φ', w1, w', frm, a1, a2, a3, a4, a5, a6⟩ := h B φ w a b cs (h1.bump n) h2 h3 h4 h5
  have hstep : Step σ.next φ σ w φ' σ' w' := ⟨a4.ext, fun b hb => a4.old b (by simp; omega), by have := a4.next; simp at this; omega, a4.os, a4.tape, a4.output, a4.size, a4.kept, a4.own, fun b hb hd => a4.dead b (by simp; omega) hd, a4.ro⟩
  exact ⟨v, v', σ', φ', w1, w', frm, a1, a2, a3, hstep, a5, a6⟩
end Go.Abs
