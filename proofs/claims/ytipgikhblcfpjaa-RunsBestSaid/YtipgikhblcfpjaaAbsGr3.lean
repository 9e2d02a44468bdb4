/- A part of the proof: contracts of functions of the program, shown by walking through their code in an abstract machine. Condition: none. -/
import Derived.Test.YtipgikhblcfpjaaAbsGr2
set_option linter.unusedVariables false
set_option linter.unusedSimpArgs false
/- THE ABSTRACT MACHINE, part R: an interpreter that the kernel can run: values made plain, blocks in a list. -/
namespace Go.Abs
open Go

/-! ### Values made plain before they are handed on -/
section
variable {α : Type}
def forceN (n : Nat) (k : Nat → α) : α :=
  match n with
  | 0 => k 0
  | m + 1 => k (Nat.succ m)
theorem forceN_eq (n : Nat) (k : Nat → α) : forceN n k = k n := by cases n <;> rfl
def forceI (n : Int) (k : Int → α) : α :=
  match n with
  | .ofNat m => forceN m fun m => k (.ofNat m)
  | .negSucc m => forceN m fun m => k (.negSucc m)
theorem forceI_eq (n : Int) (k : Int → α) : forceI n k = k n := by cases n <;> simp only [forceI, forceN_eq]
def forceA (a : Option Addr) (k : Option Addr → α) : α :=
  match a with
  | none => k none
  | some ⟨b, o, s⟩ => forceN b fun b => forceN o fun o =>
    match s with
    | none => k (some ⟨b, o, none⟩)
    | some s => k (some ⟨b, o, some s⟩)
theorem forceA_eq (a : Option Addr) (k : Option Addr → α) : forceA a k = k a := by
  rcases a with _ | ⟨b, o, _ | s⟩ <;> simp only [forceA, forceN_eq]
noncomputable def forceL (f : Value → (Value → α) → α) (l : List Value) : (List Value → α) → α :=
  List.rec (motive := fun _ => (List Value → α) → α) (fun k => k []) (fun v _ ih k => f v fun v => ih fun r => k (v :: r)) l
theorem forceL_eq (f : Value → (Value → α) → α) (hf : ∀ v k, f v k = k v) : ∀ (l : List Value) (k : List Value → α), forceL f l k = k l
  | [], k => rfl
  | v :: r, k => by
    show f v (fun v => forceL f r fun r => k (v :: r)) = _
    rw [hf, forceL_eq f hf r]
noncomputable def forceV : Nat → Value → (Value → α) → α
  | 0, v, k => k v
  | d + 1, v, k =>
    match v with
    | .int t n => forceI n fun n => k (.int t n)
    | .bool b => match b with | true => k (.bool true) | false => k (.bool false)
    | .pointer a => forceA a fun a => k (.pointer a)
    | .slice a n c => forceA a fun a => forceN n fun n => forceN c fun c => k (.slice a n c)
    | .agg a => forceL (forceV d) a.toList fun l => k (.agg l.toArray)
    | .tuple a => forceL (forceV d) a.toList fun l => k (.tuple l.toArray)
    | .func f xs ys => forceL (forceV d) xs.toList fun xs => forceL (forceV d) ys.toList fun ys => k (.func f xs.toArray ys.toArray)
    | v => k v
theorem forceV_eq : ∀ (d : Nat) (v : Value) (k : Value → α), forceV d v k = k v
  | 0, v, k => rfl
  | d + 1, v, k => by
    cases v <;> simp only [forceV, forceI_eq, forceA_eq, forceN_eq]
    case bool b => cases b <;> rfl
    all_goals simp only [forceL_eq _ (forceV_eq d), Array.toArray_toList]
noncomputable def forceS (l : List Value) : (List Value → α) → α :=
  List.rec (motive := fun _ => (List Value → α) → α) (fun k => k []) (fun v _ ih k => ih fun r => k (v :: r)) l
theorem forceS_eq : ∀ (l : List Value) (k : List Value → α), forceS l k = k l
  | [], _ => rfl
  | v :: r, k => forceS_eq r fun r => k (v :: r)
noncomputable def forceB (x : ABlk) (k : ABlk → α) : α :=
  match x with
  | .cells cs e rw => forceS cs fun cs => match rw with | true => k (.cells cs e true) | false => k (.cells cs e false)
  | .map t m => k (.map t m)
  | .loop st pd f N F ps as bd => k (.loop st pd f N F ps as bd)
theorem forceB_eq (x : ABlk) (k : ABlk → α) : forceB x k = k x := by
  cases x with
  | cells cs e rw => cases rw <;> simp only [forceB, forceS_eq]
  | map t m => rfl
  | loop => rfl
end

/-! ### Blocks in a list -/
structure CH where
  next : Nat
  bs : List (Nat × ABlk)
noncomputable def clook (l : List (Nat × ABlk)) : Nat → Option ABlk :=
  List.rec (motive := fun _ => Nat → Option ABlk) (fun _ => none)
    (fun e _ ih i => Prod.rec (motive := fun _ => Option ABlk) (fun j x => Bool.rec (motive := fun _ => Option ABlk) (ih i) (some x) (Nat.beq j i)) e) l
noncomputable def cdel (l : List (Nat × ABlk)) : Nat → List (Nat × ABlk) :=
  List.rec (motive := fun _ => Nat → List (Nat × ABlk)) (fun _ => [])
    (fun e _ ih i => Prod.rec (motive := fun _ => List (Nat × ABlk)) (fun j x => Bool.rec (motive := fun _ => List (Nat × ABlk)) ((j, x) :: ih i) (ih i) (Nat.beq j i)) e) l
theorem clook_nil (i : Nat) : clook [] i = none := rfl
theorem clook_cons (j : Nat) (x : ABlk) (r : List (Nat × ABlk)) (i : Nat) : clook ((j, x) :: r) i = match Nat.beq j i with | true => some x | false => clook r i := by
  show Bool.rec (motive := fun _ => Option ABlk) (clook r i) (some x) (Nat.beq j i) = _
  cases Nat.beq j i <;> rfl
theorem cdel_nil (i : Nat) : cdel [] i = [] := rfl
theorem cdel_cons (j : Nat) (x : ABlk) (r : List (Nat × ABlk)) (i : Nat) : cdel ((j, x) :: r) i = match Nat.beq j i with | true => cdel r i | false => (j, x) :: cdel r i := by
  show Bool.rec (motive := fun _ => List (Nat × ABlk)) ((j, x) :: cdel r i) (cdel r i) (Nat.beq j i) = _
  cases Nat.beq j i <;> rfl
/-- The same, made plain. -/
noncomputable def delK {α : Type} (l : List (Nat × ABlk)) : Nat → (List (Nat × ABlk) → α) → α :=
  List.rec (motive := fun _ => Nat → (List (Nat × ABlk) → α) → α) (fun _ k => k [])
    (fun e _ ih i k => Prod.rec (motive := fun _ => α) (fun j x => Bool.rec (motive := fun _ => α) (ih i fun r => k ((j, x) :: r)) (ih i k) (Nat.beq j i)) e) l
theorem delK_eq {α : Type} : ∀ (l : List (Nat × ABlk)) (i : Nat) (k : List (Nat × ABlk) → α), delK l i k = k (cdel l i)
  | [], i, k => rfl
  | (j, x) :: r, i, k => by
    rw [cdel_cons]
    show Bool.rec (motive := fun _ => α) (delK r i fun r => k ((j, x) :: r)) (delK r i k) (Nat.beq j i) = _
    cases Nat.beq j i
    · exact delK_eq r i _
    · exact delK_eq r i _
noncomputable def CH.toA (h : CH) : AHeap := ⟨h.next, fun i => clook h.bs i⟩
theorem clook_cdel : ∀ (l : List (Nat × ABlk)) (i j : Nat), clook (cdel l i) j = if j = i then none else clook l j
  | [], i, j => by simp [cdel_nil, clook_nil]
  | (a, x) :: r, i, j => by
    rw [cdel_cons]
    split
    · rename_i h
      have h := Nat.eq_of_beq_eq_true h
      subst h
      rw [clook_cdel r]
      rw [clook_cons]
      split
      · rfl
      · rename_i hne
        have : Nat.beq a j = false := by
          cases hb : Nat.beq a j with
          | false => rfl
          | true => exact absurd (Nat.eq_of_beq_eq_true hb).symm hne
        rw [this]
    · rename_i h
      rw [clook_cons, clook_cons]
      have hne := Nat.ne_of_beq_eq_false h
      split
      · rename_i hb
        have hb := Nat.eq_of_beq_eq_true hb
        subst hb
        rw [if_neg hne]
      · rw [clook_cdel r]

/-- The blocks that an operation may change. -/
def blkOf : Option Value → List Nat
  | some (.pointer (some ⟨b, _, _⟩)) => [b]
  | some (.slice (some ⟨b, _, _⟩) _ _) => [b]
  | some (.map (some b)) => [b]
  | _ => []
def argB (fr : Fr) : List Operand → List Nat
  | [] => []
  | x :: _ => blkOf (aeval fr x)
def touch (id : Nat) (fr : Fr) (o : Op) : List Nat :=
  match quietOp o with
  | some true => []
  | some false => [id]
  | none => match o with
    | .store _ a _ => blkOf (aeval fr a)
    | .mapUpdate _ m _ _ => blkOf (aeval fr m)
    | .call c => id :: argB fr c.args.toList
    | _ => []

noncomputable def cupd (s : Nat → Option ABlk) {α : Type} : List Nat → List (Nat × ABlk) → (List (Nat × ABlk) → α) → α
  | [], l, k => k l
  | t :: ts, l, k => cupd s ts l fun l => match s t with
    | some x => forceB x fun x => delK l t fun l => k ((t, x) :: l)
    | none => delK l t k
noncomputable def cupd' (s : Nat → Option ABlk) : List Nat → List (Nat × ABlk) → List (Nat × ABlk)
  | [], l => l
  | t :: ts, l => match s t with
    | some x => (t, x) :: cdel (cupd' s ts l) t
    | none => cdel (cupd' s ts l) t
theorem cupd_eq (s : Nat → Option ABlk) {α : Type} : ∀ (ts : List Nat) (l : List (Nat × ABlk)) (k : List (Nat × ABlk) → α), cupd s ts l k = k (cupd' s ts l)
  | [], l, k => rfl
  | t :: ts, l, k => by
    simp only [cupd, cupd_eq s ts l, cupd']
    cases s t <;> simp only [forceB_eq, delK_eq]
theorem clook_cupd (s : Nat → Option ABlk) (i : Nat) : ∀ (ts : List Nat) (l : List (Nat × ABlk)), clook (cupd' s ts l) i = if i ∈ ts then s i else clook l i
  | [], l => by simp [cupd']
  | t :: ts, l => by
    simp only [cupd']
    have ih := clook_cupd s i ts l
    cases hs : s t with
    | none =>
      simp only [clook_cdel, ih, List.mem_cons]
      by_cases h : i = t
      · subst h; simp [hs]
      · simp [h]
    | some x =>
      simp only [clook_cons, clook_cdel, ih, List.mem_cons]
      by_cases h : i = t
      · subst h
        simp [hs, show Nat.beq i i = true from Nat.beq_refl i]
      · have : Nat.beq t i = false := by
          cases hb : Nat.beq t i with
          | false => rfl
          | true => exact absurd (Nat.eq_of_beq_eq_true hb).symm h
        simp [h, this]

theorem AHeap.ext {σ τ : AHeap} (h1 : σ.next = τ.next) (h2 : ∀ i, σ.blk i = τ.blk i) : σ = τ := by
  cases σ; cases τ; simp only at h1 h2; subst h1; congr; funext i; exact h2 i

/-- What lies outside is as it was. -/
theorem touch_ok {P : Program} {σ σ' : AHeap} {id : Nat} {fr : Fr} {o : Op} {v : Value} (h : aexec P σ id fr o = some (v, σ')) :
    σ'.next = σ.next ∧ ∀ i, i ∉ touch id fr o → σ'.blk i = σ.blk i := by
  unfold touch
  cases hq : quietOp o with
  | some q =>
    cases q with
    | true => obtain ⟨rfl, _⟩ := quiet_exec (id' := id) (τ := σ) hq (Sub.refl σ) h; exact ⟨rfl, fun _ _ => rfl⟩
    | false =>
      obtain ⟨x, rfl, _⟩ := new_exec hq h
      exact ⟨rfl, fun i hi => by rw [AHeap.set_blk, if_neg]; simpa using hi⟩
  | none =>
    cases o <;> simp only [quietOp] at hq <;> try (cases hq; done)
    case assign x => simp only [aexec, Option.map_eq_some_iff] at h; obtain ⟨_, _, h⟩ := h; cases h; exact ⟨rfl, fun _ _ => rfl⟩
    case store t a x =>
      simp only [aexec] at h
      split at h
      · rename_i p u hp hu
        simp only [Option.map_eq_some_iff] at h
        obtain ⟨τ, h, e⟩ := h; cases e
        unfold astore at h
        split at h
        · split at h
          · split at h
            · cases h; refine ⟨rfl, fun i hi => ?_⟩
              rw [AHeap.set_blk, if_neg]; intro e; subst e; exact hi (by simp [hp, blkOf])
            · cases h
          · cases h
        · cases h
      · cases h
    case mapUpdate t m k x =>
      simp only [aexec] at h
      split at h
      · rename_i p u w hp hu hw
        simp only [Option.map_eq_some_iff] at h
        obtain ⟨τ, h, e⟩ := h; cases e
        unfold amapUpdate at h
        split at h
        · split at h
          · split at h
            · cases h; refine ⟨rfl, fun i hi => ?_⟩
              rw [AHeap.set_blk, if_neg]; intro e; subst e; exact hi (by simp [hp, blkOf])
            · cases h
          · cases h
        · cases h
      · cases h
    case call c =>
      obtain ⟨callee, args, ats⟩ := c
      cases callee <;> simp only [aexec] at h <;> try (cases h; done)
      rename_i b
      split at h
      case h_2 => cases h
      rename_i vs hvs
      have hmem : ∀ (x : Value) (r : List Value), vs = x :: r → argB fr args.toList = blkOf (some x) := fun x r e => by
        subst e
        cases ha : args.toList with
        | nil => rw [ha] at hvs; simp [aevals] at hvs
        | cons y ys =>
          rw [ha] at hvs
          simp only [aevals] at hvs
          split at hvs
          · rename_i v us h1 h2; cases hvs; simp [argB, h1]
          · cases hvs
      unfold abuiltin at h
      split at h
      all_goals try (cases h; done)
      -- the builtins that change nothing
      all_goals try (
        first
        | (split at h
           · simp only [Option.map_eq_some_iff] at h; obtain ⟨_, _, h⟩ := h; cases h; exact ⟨rfl, fun _ _ => rfl⟩
           · cases h; done)
        | (simp only [Option.map_eq_some_iff] at h; obtain ⟨_, _, h⟩ := h; cases h; exact ⟨rfl, fun _ _ => rfl⟩))
      -- append
      · rename_i v x
        have hm := hmem _ _ rfl
        split at h
        case h_2 => cases h
        unfold aappend at h
        split at h <;> try (cases h; done)
        split at h <;> try (cases h; done)
        split at h <;> try (cases h; done)
        split at h <;> try (cases h; done)
        split at h
        · split at h
          · cases h; exact ⟨rfl, fun _ _ => rfl⟩
          · split at h
            · cases h; refine ⟨rfl, fun i hi => ?_⟩
              rw [AHeap.set_blk, if_neg]; intro e; subst e; exact hi (by simp)
            · cases h
        · split at h <;> try (cases h; done)
          split at h <;> try (cases h; done)
          split at h
          · split at h
            · cases h; refine ⟨rfl, fun i hi => ?_⟩
              rw [AHeap.set_blk, if_neg]; intro e; subst e; exact hi (by simp [hm, blkOf])
            · cases h
          · split at h
            · cases h; refine ⟨rfl, fun i hi => ?_⟩
              rw [AHeap.set_blk, if_neg, AHeap.del_blk, if_neg]
              · intro e; subst e; exact hi (by simp [hm, blkOf])
              · intro e; subst e; exact hi (by simp)
            · cases h
        · cases h
      -- copy
      · rename_i d x
        have hm := hmem _ _ rfl
        split at h
        case h_2 => cases h
        unfold acopy at h
        split at h <;> try (cases h; done)
        split at h <;> try (cases h; done)
        split at h <;> try (cases h; done)
        split at h <;> try (cases h; done)
        split at h <;> try (cases h; done)
        cases h; refine ⟨rfl, fun i hi => ?_⟩
        rw [AHeap.set_blk, if_neg]; intro e; subst e; exact hi (by simp [hm, blkOf])
      -- clear
      · rename_i x
        have hm := hmem _ _ rfl
        split at h
        case h_2 => cases h
        split at h
        case isFalse => cases h
        simp only [Option.map_eq_some_iff] at h
        obtain ⟨τ, h, e⟩ := h; cases e
        unfold aclear at h
        split at h
        · cases h; exact ⟨rfl, fun _ _ => rfl⟩
        · cases h; exact ⟨rfl, fun _ _ => rfl⟩
        · split at h <;> try (cases h; done)
          split at h <;> try (cases h; done)
          split at h <;> try (cases h; done)
          cases h; refine ⟨rfl, fun i hi => ?_⟩
          rw [AHeap.set_blk, if_neg]; intro e; subst e; exact hi (by simp [hm, blkOf])
        · cases h
    all_goals (simp [aexec] at h)

/-! ### Blocks that are no longer looked at -/
theorem AGo.forget {P : Program} {ro : Ro} {f : FuncId} {N : Nat} {R : Value → AHeap → Prop} {fr : Fr} {σ : AHeap} {todo : List Item} (σ0 : AHeap) (hs : Sub σ0 σ) (hn : σ0.next = σ.next) (h : AGo P ro f N todo R fr σ0) : AGo P ro f N todo R fr σ := by
  intro B φ w a b cs h1 h2 h3 h4 h5
  obtain ⟨v, v', σ', φ', w1, w', frm, a1, a2, a3, a4, a5, a6⟩ := h B φ w a b cs (h1.sub hs hn) h2 ⟨h3.ds, fun d hd => let ⟨r, e, hr, ho⟩ := h3.mark d hd; ⟨r, e, hr, fun o => ho (o.sub hs)⟩, h3.round⟩ h4 h5
  exact ⟨v, v', σ', φ', w1, w', frm, a1, a2, a3, by rw [← hn]; exact a4.weak hs hn, a5, a6⟩
theorem Ends.sub {P : Program} {ro : Ro} {f : FuncId} {B : Nat} {φ : BMap} {σ : AHeap} {w : World} {fr0 : Frame} {cs : List Frame} {R R' : Value → AHeap → Prop} (h : Ends P ro f B φ σ w fr0 cs R)
    (hr : ∀ v σ', R v σ' → ∃ σ0, Sub σ0 σ' ∧ σ0.next = σ'.next ∧ R' v σ0) : Ends P ro f B φ σ w fr0 cs R' := by
  obtain ⟨v, v', σ', φ', w1, w', frm, a1, a2, a3, a4, a5, a6⟩ := h
  obtain ⟨σ0, hs, hn, hR⟩ := hr v σ' a1
  refine ⟨v, v', σ0, φ', w1, w', frm, hR, a2, a3.sub hs hn, ⟨a4.ext, a4.old, by rw [hn]; exact a4.next, a4.os, a4.tape, a4.output, a4.size, a4.kept, fun g hg ho => a4.own g hg (ho.sub hs), fun b hb hd => ?_, fun b x hx hr => a4.ro b x (hs b x hx) hr⟩, a5, a6⟩
  have := a4.dead b hb hd
  cases hx : σ0.blk b with
  | none => rfl
  | some x => rw [hs b x hx] at this; cases this
theorem ACalls.sub {P : Program} {f : FuncId} {args : List Value} {σ : AHeap} {R R' : Value → AHeap → Prop} (h : ACalls P f args σ R) (hr : ∀ v σ', R v σ' → ∃ σ0, Sub σ0 σ' ∧ σ0.next = σ'.next ∧ R' v σ0) : ACalls P f args σ R' :=
  fun B φ w args' cs h1 h2 => (h B φ w args' cs h1 h2).sub hr
/-- Nothing lies where new blocks will lie. -/
def Wf (σ : AHeap) : Prop := ∀ b, σ.next ≤ b → σ.blk b = none
theorem RH.wf {P : Program} {φ : BMap} {σ : AHeap} {w : World} {B : Nat} (h : RH P φ σ w B) : Wf σ := by
  intro b hb
  cases hx : σ.blk b with
  | none => rfl
  | some x =>
    obtain ⟨p, hp, _⟩ := h.dom b x hx
    rw [h.fresh b hb] at hp; cases hp
theorem AGo.wf {P : Program} {ro : Ro} {f : FuncId} {N : Nat} {R : Value → AHeap → Prop} {fr : Fr} {σ : AHeap} {todo : List Item} (h : Wf σ → AGo P ro f N todo R fr σ) : AGo P ro f N todo R fr σ :=
  fun B φ w a b cs h1 => h h1.wf B φ w a b cs h1
theorem ACalls.wf {P : Program} {f : FuncId} {args : List Value} {σ : AHeap} {R : Value → AHeap → Prop} (h : Wf σ → ACalls P f args σ R) : ACalls P f args σ R :=
  fun B φ w args' cs h1 => h h1.wf B φ w args' cs h1
/-- Numbers of blocks may be left out. -/
theorem AGo.skipn {P : Program} {ro : Ro} {f : FuncId} {N : Nat} {R : Value → AHeap → Prop} {fr : Fr} {σ : AHeap} {todo : List Item} (n : Nat) (h : AGo P ro f N todo R fr (σ.bump n)) : AGo P ro f N todo R fr σ := by
  intro B φ w a b cs h1 h2 h3 h4 h5
  obtain ⟨v, v', σ', φ', w1, w', frm, a1, a2, a3, a4, a5, a6⟩ := h B φ w a b cs (h1.bump n) h2 ⟨h3.ds, h3.mark, h3.round⟩ h4 h5
  have hstep : Step σ.next φ σ w φ' σ' w' := ⟨a4.ext, fun b hb => a4.old b (by simp; omega), by have := a4.next; simp at this; omega, a4.os, a4.tape, a4.output, a4.size, a4.kept, a4.own, fun b hb hd => a4.dead b (by simp; omega) hd, a4.ro⟩
  exact ⟨v, v', σ', φ', w1, w', frm, a1, a2, a3, hstep, a5, a6⟩
end Go.Abs

/- THE ABSTRACT MACHINE, part S: what a closed run says, said of any heap. -/
namespace Go.Abs
open Go

/-- The blocks of a value, renamed by n. -/
inductive Sh (n : Nat) : Value → Value → Prop
  | bool (b) : Sh n (.bool b) (.bool b)
  | int (k m) : Sh n (.int k m) (.int k m)
  | string (s) : Sh n (.string s) (.string s)
  | nilptr : Sh n (.pointer none) (.pointer none)
  | ptr (b o) : Sh n (.pointer (some ⟨b, o, none⟩)) (.pointer (some ⟨b + n, o, none⟩))
  | nilslice : Sh n (.slice none 0 0) (.slice none 0 0)
  | slice (b o l c) : Sh n (.slice (some ⟨b, o, none⟩) l c) (.slice (some ⟨b + n, o, none⟩) l c)
  | nilmap : Sh n (.map none) (.map none)
  | nilFunc : Sh n .nilFunc .nilFunc
  | nilIface : Sh n .nilIface .nilIface
  | agg {xs ys : List Value} (h : xs.length = ys.length) (h' : ∀ (i : Nat) (v u : Value), xs[i]? = some v → ys[i]? = some u → Sh n v u) (ho : Ones ys) : Sh n (.agg xs.toArray) (.agg ys.toArray)
  | tuple {xs ys : List Value} (h : xs.length = ys.length) (h' : ∀ (i : Nat) (v u : Value), xs[i]? = some v → ys[i]? = some u → Sh n v u) : Sh n (.tuple xs.toArray) (.tuple ys.toArray)

def ShL (n : Nat) (xs ys : List Value) : Prop := xs.length = ys.length ∧ ∀ (i : Nat) (v u : Value), xs[i]? = some v → ys[i]? = some u → Sh n v u
theorem ShL.nil (n : Nat) : ShL n [] [] := ⟨rfl, fun i v u h => by simp at h⟩
theorem ShL.cons {n : Nat} {x y : Value} {xs ys : List Value} (h : Sh n x y) (hs : ShL n xs ys) : ShL n (x :: xs) (y :: ys) := by
  refine ⟨by simp [hs.1], fun i v u a b => ?_⟩
  cases i with
  | zero => simp at a b; subst a; subst b; exact h
  | succ i => exact hs.2 i v u (by simpa using a) (by simpa using b)

/-- The place map behind the first n blocks. -/
def glue (n : Nat) (φ φ1 : BMap) : BMap := fun b => if b < n then φ b else φ1 (b - n)

theorem RV.sh {n : Nat} {φ φ1 : BMap} {v v' : Value} (h : RV φ1 v v') : ∀ {u : Value}, Sh n v u → RV (glue n φ φ1) u v' := by
  have hg : ∀ b p, φ1 b = some p → glue n φ φ1 (b + n) = some p := fun b p hb => by
    unfold glue; rw [if_neg (by omega), Nat.add_sub_cancel]; exact hb
  induction h with
  | bool => intro u hu; cases hu; exact .bool _
  | int => intro u hu; cases hu; exact .int _ _
  | string => intro u hu; cases hu; exact .string _
  | nilptr => intro u hu; cases hu; exact .nilptr
  | ptr h => intro u hu; cases hu; exact .ptr (hg _ _ h)
  | nilslice => intro u hu; cases hu; exact .nilslice
  | slice h hl hc hr => intro u hu; cases hu; exact .slice (hg _ _ h) hl hc hr
  | nilmap => intro u hu; cases hu; exact .nilmap
  | map => intro u hu; cases hu
  | nilFunc => intro u hu; cases hu; exact .nilFunc
  | nilIface => intro u hu; cases hu; exact .nilIface
  | func => intro u hu; cases hu
  | yield => intro u hu; cases hu
  | agg hx _ ho ih =>
    intro u hu
    cases hu with
    | agg h h' ho' =>
      rename_i xs ys _
      refine .agg (by simp at hx; simp; omega) (fun i a b ha hb => ?_) (fun i a ha => ho' i a (by simpa using ha))
      have hi : i < xs.length := by
        have := (Array.getElem?_eq_some_iff.1 ha).1; simp at this; omega
      exact ih i xs[i] b (by simp [List.getElem?_eq_getElem hi]) hb (h' i xs[i] a (List.getElem?_eq_getElem hi) (by simpa using ha))
  | tuple hx _ ih =>
    intro u hu
    cases hu with
    | tuple h h' =>
      rename_i xs ys _
      refine .tuple (by simp at hx; simp; omega) (fun i a b ha hb => ?_)
      have hi : i < xs.length := by
        have := (Array.getElem?_eq_some_iff.1 ha).1; simp at this; omega
      exact ih i xs[i] b (by simp [List.getElem?_eq_getElem hi]) hb (h' i xs[i] a (List.getElem?_eq_getElem hi) (by simpa using ha))

inductive ShB (n : Nat) : Option ABlk → Option ABlk → Prop
  | none : ShB n none none
  | cells {xs ys : List Value} (e rw) (h : ShL n xs ys) (ho : Ones ys) : ShB n (some (.cells xs e rw)) (some (.cells ys e rw))

theorem BlkOk.sh {P : Program} {n : Nat} {φ φ1 : BMap} {w : World} {B : Nat} {p : Pl} {x y : ABlk} (h : BlkOk P φ1 w B p x) (hs : ShB n (some x) (some y)) : BlkOk P (glue n φ φ1) w B p y := by
  cases hs with
  | @cells xs ys e rw hl ho =>
    obtain ⟨_, h2, h3, h4⟩ := h
    refine ⟨ho, fun i v hv => ?_, h3, fun hr => ?_⟩
    · obtain ⟨hlen, hl⟩ := hl
      have hi : i < xs.length := by
        have := (List.getElem?_eq_some_iff.1 hv).1; omega
      obtain ⟨v', a, b⟩ := h2 i xs[i] (List.getElem?_eq_getElem hi)
      exact ⟨v', a, b.sh (hl i _ _ (List.getElem?_eq_getElem hi) hv)⟩
    · obtain ⟨a, b, cur, c, d, e⟩ := h4 hr
      exact ⟨a, b, cur, c, d, by rw [← hl.1]; exact e⟩

theorem ShB.rw {n : Nat} {x y : ABlk} (h : ShB n (some x) (some y)) : y.rw = x.rw := by cases h; rfl
theorem ShB.solid {n : Nat} {x y : ABlk} (h : ShB n (some x) (some y)) : y.solid = x.solid := by
  cases h with
  | @cells xs ys e rw hl ho =>
    simp only [ABlk.solid]
    congr 2
    have := hl.1
    cases xs <;> cases ys <;> simp_all

def empty0 : AHeap := ⟨0, fun _ => none⟩

/-- A CLOSED RUN, FROM ANY HEAP. -/
theorem ACalls.closed {P : Program} {g : FuncId} {args : List Value} {σ : AHeap} {R : Value → AHeap → Prop} {v : Value} {τ : AHeap} (hargs : args.all closedV = true)
    (h : ACalls P g args empty0 fun v1 σ1 => v1 = v ∧ σ1 = τ)
    (hR : ∃ u σ', Sh σ.next v u ∧ σ'.next = σ.next + τ.next ∧ (∀ b, b < σ.next → σ'.blk b = σ.blk b) ∧ (∀ b, ShB σ.next (τ.blk b) (σ'.blk (b + σ.next))) ∧ R u σ') : ACalls P g args σ R := by
  obtain ⟨u, σ', hu, hn, hlow, hhi, hRR⟩ := hR
  intro B φ w args' cs h1 h2
  have h0 : RH P (fun _ => none) empty0 w B := ⟨h1.base, fun _ _ => rfl, fun b x hx => (by cases hx), fun b c x y p q hx => (by cases hx)⟩
  have hcl : ∀ {v v' : Value} {ψ : BMap}, closedV v = true → RV φ v v' → RV ψ v v' := by
    have cell : ∀ {v v' : Value} {ψ : BMap}, closedCell v = true → RV φ v v' → RV ψ v v' := by
      intro v v' ψ hc hr
      cases hr <;> simp [closedCell] at hc
      · exact .bool _
      · exact .int _ _
      · exact .string _
      · exact .nilptr
      · exact .nilslice
      · exact .nilmap
      · exact .nilFunc
      · exact .nilIface
    intro v v' ψ hc hr
    cases hr with
    | agg hx h ho =>
      rename_i xs xs'
      refine .agg hx (fun i a b ha hb => ?_) ho
      refine cell ?_ (h i a b ha hb)
      simp only [closedV, List.all_eq_true] at hc
      exact hc a (by have := Array.mem_of_getElem? ha; simpa using this)
    | _ => exact cell (by simpa [closedV] using hc) (by first | assumption | (constructor <;> assumption))
  have h2' : RVs (fun _ => none) args args' := ⟨h2.1, fun i a b ha hb => hcl (by simp only [List.all_eq_true] at hargs; exact hargs a (List.mem_of_getElem? ha)) (h2.2 i a b ha hb)⟩
  obtain ⟨v1, v', σ1, φ1, w1, w', frm, ⟨rfl, rfl⟩, a2, a3, a4, a5, a6⟩ := h B _ w args' cs h0 h2'
  have hb' : ∀ b x, σ.blk b = some x → b < σ.next := by
    intro b x hx
    obtain ⟨p, hp, _⟩ := h1.dom b x hx
    rcases Nat.lt_or_ge b σ.next with hlt | hge
    · exact hlt
    · rw [h1.fresh b hge] at hp; cases hp
  have no0 : ∀ ψ g, ¬ Owns ψ empty0 g := fun ψ g ⟨b, x, p, hx, _⟩ => by cases hx
  have hnew : ∀ b x, σ'.blk b = some x → b < σ.next ∧ σ.blk b = some x ∨ ∃ c y, b = c + σ.next ∧ σ1.blk c = some y ∧ ShB σ.next (some y) (some x) := by
    intro b x hx
    rcases Nat.lt_or_ge b σ.next with hlt | hge
    · rw [hlow b hlt] at hx; exact .inl ⟨hlt, hx⟩
    · have hbb : b - σ.next + σ.next = b := by omega
      have := hhi (b - σ.next)
      rw [hbb, hx] at this
      cases hτ : σ1.blk (b - σ.next) with
      | none => rw [hτ] at this; cases this
      | some y => rw [hτ] at this; exact .inr ⟨b - σ.next, y, hbb.symm, hτ, this⟩
  have hext : Ext φ (glue σ.next φ φ1) := by
    intro b p hp
    unfold glue
    rw [if_pos]
    · exact hp
    · rcases Nat.lt_or_ge b σ.next with hlt | hge
      · exact hlt
      · rw [h1.fresh b hge] at hp; cases hp
  have hlo : ∀ b, b < σ.next → glue σ.next φ φ1 b = φ b := fun b hb => by unfold glue; rw [if_pos hb]
  have hup : ∀ c, glue σ.next φ φ1 (c + σ.next) = φ1 c := fun c => by unfold glue; rw [if_neg (by omega), Nat.add_sub_cancel]
  have hrwnew : ∀ c y, σ1.blk c = some y → y.rw = true := by
    intro c y hy
    cases hyr : y.rw with
    | true => rfl
    | false => have := a4.ro c y hy hyr; cases this
  have hgnew : ∀ c y p, σ1.blk c = some y → φ1 c = some p → w.heap.size ≤ p.g := by
    intro c y p hy hp
    rcases Nat.lt_or_ge p.g w.heap.size with hlt | hge
    · exact absurd (a4.own p.g hlt ⟨c, y, p, hy, hrwnew c y hy, hp, rfl⟩) (no0 _ _)
    · exact hge
  refine ⟨u, v', σ', glue σ.next φ φ1, w1, w', frm, hRR, a2.sh hu, ⟨a3.base, fun b hb => ?_, fun b x hx => ?_, fun b c x y p q hx hy hrw hsol hp hq he => ?_⟩, ⟨hext, hlo, by omega, a4.os, a4.tape, a4.output, a4.size, fun g hg _ => a4.kept g hg (no0 _ _), fun g hg ho => ?_, fun b hb hd => by rw [hlow b hb]; exact hd, fun b x hx hr => ?_⟩, a5, a6⟩
  · unfold glue
    rw [if_neg (by omega)]
    exact a3.fresh _ (by omega)
  · rcases hnew b x hx with ⟨hlt, hx'⟩ | ⟨c, y, rfl, hy, hsh⟩
    · obtain ⟨p, hp, hok⟩ := h1.dom b x hx'
      exact ⟨p, hext b p hp, hok.keep hext fun hs => a4.kept p.g (hok.lt hs) (no0 _ _)⟩
    · obtain ⟨p, hp, hok⟩ := a3.dom c y hy
      exact ⟨p, by rw [hup]; exact hp, hok.sh hsh⟩
  · rcases hnew b x hx with ⟨hlt, hx'⟩ | ⟨b', x', rfl, hx', hshx⟩ <;> rcases hnew c y hy with ⟨hlt2, hy'⟩ | ⟨c', y', rfl, hy', hshy⟩
    · rw [hlo _ hlt] at hp; rw [hlo _ hlt2] at hq
      exact h1.inj b c x y p q hx' hy' hrw hsol hp hq he
    · rw [hup] at hq
      have hq' := hgnew _ _ _ hy' hq
      rw [hlo _ hlt] at hp
      obtain ⟨p2, hp2, hok⟩ := h1.dom b x hx'
      rw [hp] at hp2; cases hp2
      have := hok.lt (solid_of_rw hrw)
      omega
    · rw [hup] at hp
      have hp' := hgnew _ _ _ hx' hp
      rw [hlo _ hlt2] at hq
      obtain ⟨p2, hp2, hok⟩ := h1.dom c y hy'
      rw [hq] at hp2; cases hp2
      have := hok.lt hsol
      omega
    · rw [hup] at hp hq
      rw [hshx.rw] at hrw; rw [hshy.solid] at hsol
      rw [a3.inj b' c' x' y' p q hx' hy' hrw hsol hp hq he]
  · obtain ⟨b, x, p, hx, hr, hp, rfl⟩ := ho
    rcases hnew b x hx with ⟨hlt, hx'⟩ | ⟨c, y, rfl, hy, hsh⟩
    · rw [hlo _ hlt] at hp; exact ⟨b, x, p, hx', hr, hp, rfl⟩
    · rw [hup] at hp
      have := hgnew _ _ _ hy hp
      omega
  · rcases hnew b x hx with ⟨hlt, hx'⟩ | ⟨c, y, rfl, hy, hsh⟩
    · exact hx'
    · have := hrwnew c y hy
      rw [hsh.rw, this] at hr; cases hr

theorem toA_nil : CH.toA ⟨0, []⟩ = empty0 := rfl

/-- A closed call that answers with a value without blocks: it may be forgotten what it made. -/
theorem Sh.closed (n : Nat) : ∀ {v : Value}, closedCell v = true → Sh n v v := by
  intro v h
  unfold closedCell at h
  split at h
  · exact .bool _
  · exact .int _ _
  · exact .string _
  · exact .nilptr
  · exact .nilslice
  · exact .nilmap
  · exact .nilFunc
  · exact .nilIface
  · cases h
end Go.Abs

/- THE ABSTRACT MACHINE, part T: the interpreter, and that it says what a call comes to. -/
namespace Go.Abs
open Go

/-! ### Equal values, by a test -/
def eqC : Value → Value → Bool
  | .int k n, .int k' n' => decide (k = k') && decide (n = n')
  | .bool b, .bool b' => b == b'
  | _, _ => false
def eqCL : List Value → List Value → Bool
  | [], [] => true
  | x :: r, y :: s => eqC x y && eqCL r s
  | _, _ => false
def numCell : Value → Bool
  | .int .. | .bool _ => true
  | _ => false
theorem eqC_iff {x y : Value} (hx : numCell x = true) (hy : numCell y = true) : eqC x y = true ↔ x = y := by
  cases x <;> simp [numCell] at hx <;> cases y <;> simp [numCell] at hy <;> simp [eqC]
theorem eqCL_iff : ∀ {l m : List Value}, l.all numCell = true → m.all numCell = true → (eqCL l m = true ↔ l = m)
  | [], [], _, _ => by simp [eqCL]
  | [], _ :: _, _, _ => by simp [eqCL]
  | _ :: _, [], _, _ => by simp [eqCL]
  | x :: r, y :: s, h, k => by
    simp only [List.all_cons, Bool.and_eq_true] at h k
    simp only [eqCL, Bool.and_eq_true, eqC_iff h.1 k.1, eqCL_iff h.2 k.2, List.cons.injEq]
theorem plain_of_num {xs : Array Value} (h : xs.toList.all numCell = true) : plainKey (.agg xs) = true := by
  simp only [plainKey, Array.all_eq_true', List.all_eq_true] at h ⊢
  intro v hv
  have := h v (by simpa using hv)
  cases v <;> simp_all [numCell, plainCell]

def eqLF (f : Value → Value → Bool) : List Value → List Value → Bool
  | [], [] => true
  | x :: r, y :: s => f x y && eqLF f r s
  | _, _ => false
theorem eqLF_ok {f : Value → Value → Bool} (hf : ∀ x y, f x y = true → x = y) : ∀ {l m : List Value}, eqLF f l m = true → l = m
  | [], [], _ => rfl
  | [], _ :: _, h => by simp [eqLF] at h
  | _ :: _, [], h => by simp [eqLF] at h
  | x :: r, y :: s, h => by
    simp only [eqLF, Bool.and_eq_true] at h
    rw [hf _ _ h.1, eqLF_ok hf h.2]
def eqV : Nat → Value → Value → Bool
  | 0, _, _ => false
  | d + 1, x, y =>
    match x, y with
    | .int k n, .int k' n' => decide (k = k') && decide (n = n')
    | .bool b, .bool b' => b == b'
    | .pointer a, .pointer a' => decide (a = a')
    | .slice a n c, .slice a' n' c' => decide (a = a') && decide (n = n') && decide (c = c')
    | .agg a, .agg a' => eqLF (eqV d) a.toList a'.toList
    | .tuple a, .tuple a' => eqLF (eqV d) a.toList a'.toList
    | .func (.func f) xs ys, .func (.func f') xs' ys' => decide (f = f') && eqLF (eqV d) xs.toList xs'.toList && eqLF (eqV d) ys.toList ys'.toList
    | .map a, .map a' => decide (a = a')
    | _, _ => false
theorem eqV_ok : ∀ (d : Nat) (x y : Value), eqV d x y = true → x = y
  | 0, x, y, h => by simp [eqV] at h
  | d + 1, x, y, h => by
    unfold eqV at h
    split at h
    all_goals try simp only [Bool.and_eq_true, decide_eq_true_eq, beq_iff_eq, reduceCtorEq] at h
    · rw [h.1, h.2]
    · rw [h]
    · rw [h]
    · rw [h.1.1, h.1.2, h.2]
    · have := eqLF_ok (eqV_ok d) h; rw [Array.toList_inj] at this; rw [this]
    · have := eqLF_ok (eqV_ok d) h; rw [Array.toList_inj] at this; rw [this]
    · have h1 := eqLF_ok (eqV_ok d) h.1.2; have h2 := eqLF_ok (eqV_ok d) h.2
      rw [Array.toList_inj] at h1 h2; rw [h.1.1, h1, h2]
    · rw [h]
def eqB : Option ABlk → Option ABlk → Bool
  | none, none => true
  | some (.cells cs e rw), some (.cells cs' e' rw') => eqLF (eqV 3) cs cs' && decide (e = e') && rw == rw'
  | _, _ => false
theorem eqB_ok {x y : Option ABlk} (h : eqB x y = true) : x = y := by
  unfold eqB at h
  split at h
  · rfl
  · simp only [Bool.and_eq_true, decide_eq_true_eq, beq_iff_eq] at h
    rw [eqLF_ok (eqV_ok 3) h.1.1, h.1.2, h.2]
  · cases h

/-! ### Frames, as trees -/
inductive VT where
  | nil
  | node (v : Option Value) (l r : VT)
def vmk : Nat → VT
  | 0 => .nil
  | d + 1 => .node none (vmk d) (vmk d)
noncomputable def vget (T : VT) : Nat → Option Value :=
  VT.rec (motive := fun _ => Nat → Option Value) (fun _ => none) (fun v _ _ ihl ihr i => Nat.rec (motive := fun _ => Option Value) v (fun j _ => Nat.rec (motive := fun _ => Option Value) (ihl (Nat.div j 2)) (fun _ _ => ihr (Nat.div j 2)) (Nat.mod j 2)) i) T
noncomputable def vputK {α : Type} (T : VT) : Nat → Value → (VT → α) → α :=
  VT.rec (motive := fun _ => Nat → Value → (VT → α) → α) (fun _ _ k => k .nil) (fun u l r ihl ihr i v k => Nat.rec (motive := fun _ => α) (k (.node (some v) l r)) (fun j _ => Nat.rec (motive := fun _ => α) (ihl (Nat.div j 2) v fun l => k (.node u l r)) (fun _ _ => ihr (Nat.div j 2) v fun r => k (.node u l r)) (Nat.mod j 2)) i) T
theorem vget_nil (i : Nat) : vget .nil i = none := rfl
theorem vget_node (v : Option Value) (l r : VT) (i : Nat) : vget (.node v l r) i = match i with
    | 0 => v
    | j + 1 => match Nat.mod j 2 with
      | 0 => vget l (Nat.div j 2)
      | _ + 1 => vget r (Nat.div j 2) := by
  cases i with
  | zero => rfl
  | succ j =>
    show Nat.rec (motive := fun _ => Option Value) (vget l (Nat.div j 2)) (fun _ _ => vget r (Nat.div j 2)) (Nat.mod j 2) = _
    simp only
    cases Nat.mod j 2 <;> rfl
theorem vputK_node {α : Type} (u : Option Value) (l r : VT) (i : Nat) (v : Value) (k : VT → α) : vputK (.node u l r) i v k = match i with
    | 0 => k (.node (some v) l r)
    | j + 1 => match Nat.mod j 2 with
      | 0 => vputK l (Nat.div j 2) v fun l => k (.node u l r)
      | _ + 1 => vputK r (Nat.div j 2) v fun r => k (.node u l r) := by
  cases i with
  | zero => rfl
  | succ j =>
    show Nat.rec (motive := fun _ => α) (vputK l (Nat.div j 2) v fun l => k (.node u l r)) (fun _ _ => vputK r (Nat.div j 2) v fun r => k (.node u l r)) (Nat.mod j 2) = _
    simp only
    cases Nat.mod j 2 <;> rfl
def vput : VT → Nat → Value → VT
  | .nil, _, _ => .nil
  | .node u l r, i, v =>
    match i with
    | 0 => .node (some v) l r
    | j + 1 => match Nat.mod j 2 with
      | 0 => .node u (vput l (Nat.div j 2) v) r
      | _ + 1 => .node u l (vput r (Nat.div j 2) v)
theorem vputK_eq {α : Type} : ∀ (t : VT) (i : Nat) (v : Value) (k : VT → α), vputK t i v k = k (vput t i v)
  | .nil, _, _, _ => rfl
  | .node u l r, i, v, k => by
    rw [vputK_node]; simp only [vput]
    split
    · rfl
    · rename_i j
      split
      · exact vputK_eq l _ _ _
      · exact vputK_eq r _ _ _
theorem vget_vput : ∀ (t : VT) (i : Nat) (v : Value) (j : Nat) (u : Value), vget (vput t i v) j = some u → (j = i ∧ u = v) ∨ (j ≠ i ∧ vget t j = some u)
  | .nil, i, v, j, u, h => by simp [vput, vget_nil] at h
  | .node x l r, i, v, j, u, h => by
    simp only [vput] at h
    split at h
    · rw [vget_node] at h ⊢
      split at h
      · cases h; exact .inl ⟨rfl, rfl⟩
      · rename_i jj; exact .inr ⟨by simp, h⟩
    · rename_i ii
      split at h
      · rename_i hm
        rw [vget_node] at h ⊢
        split at h
        · exact .inr ⟨by simp, h⟩
        · rename_i jj
          split at h
          · rename_i hm'
            rcases vget_vput l _ _ _ _ h with ⟨h1, h2⟩ | ⟨h1, h2⟩
            · refine .inl ⟨?_, h2⟩
              have e1 := Nat.div_add_mod jj 2
              have e2 := Nat.div_add_mod ii 2
              have hm1 : jj % 2 = 0 := hm'
              have hm2 : ii % 2 = 0 := hm
              have h1 : jj / 2 = ii / 2 := h1
              omega
            · exact .inr ⟨fun e => h1 (by cases e; rfl), h2⟩
          · rename_i n hm'
            refine .inr ⟨fun e => ?_, h⟩
            have e : jj = ii := by omega
            subst e
            have hm1 : jj % 2 = n + 1 := hm'
            have hm2 : jj % 2 = 0 := hm
            omega
      · rename_i n hm
        rw [vget_node] at h ⊢
        split at h
        · exact .inr ⟨by simp, h⟩
        · rename_i jj
          split at h
          · rename_i hm'
            refine .inr ⟨fun e => ?_, h⟩
            have e : jj = ii := by omega
            subst e
            have hm1 : jj % 2 = 0 := hm'
            have hm2 : jj % 2 = n + 1 := hm
            omega
          · rename_i n' hm'
            rcases vget_vput r _ _ _ _ h with ⟨h1, h2⟩ | ⟨h1, h2⟩
            · refine .inl ⟨?_, h2⟩
              have e1 := Nat.div_add_mod jj 2
              have e2 := Nat.div_add_mod ii 2
              have hm1 : jj % 2 = n' + 1 := hm'
              have hm2 : ii % 2 = n + 1 := hm
              have l1 := Nat.mod_lt jj (show 2 > 0 by omega)
              have l2 := Nat.mod_lt ii (show 2 > 0 by omega)
              have h1 : jj / 2 = ii / 2 := h1
              omega
            · exact .inr ⟨fun e => h1 (by cases e; rfl), h2⟩

/-- What the tree knows, the frame knows. -/
def FT (fr : Fr) (T : VT) : Prop := ∀ t v, vget T t = some v → aget fr t = some v
noncomputable def cdstK {α : Type} (T : VT) (dst : Option Tmp) (v : Value) (k : VT → α) : α :=
  match dst with
  | none => k T
  | some d => vputK T d v k
def cdst (T : VT) (dst : Option Tmp) (v : Value) : VT :=
  match dst with
  | none => T
  | some d => vput T d v
theorem cdstK_eq {α : Type} (T : VT) (dst : Option Tmp) (v : Value) (k : VT → α) : cdstK T dst v k = k (cdst T dst v) := by
  cases dst <;> simp only [cdstK, cdst, vputK_eq]
theorem cdst_ft {fr : Fr} {T : VT} (h : FT fr T) (dst : Option Tmp) (v : Value) : FT (adst fr dst v) (cdst T dst v) := by
  intro t u hu
  cases dst with
  | none => exact h t u hu
  | some d =>
    simp only [adst, aget_aput]
    rcases vget_vput _ _ _ _ _ hu with ⟨rfl, rfl⟩ | ⟨hne, hu⟩
    · simp
    · rw [if_neg (fun e => hne e.symm)]; exact h t u hu
noncomputable def venterK {α : Type} : Nat → List Value → VT → (VT → α) → α
  | _, [], T, k => k T
  | i, v :: r, T, k => vputK T i v fun T => venterK (i + 1) r T k
def venter : Nat → List Value → VT → VT
  | _, [], T => T
  | i, v :: r, T => venter (i + 1) r (vput T i v)
theorem venterK_eq {α : Type} : ∀ (i : Nat) (l : List Value) (T : VT) (k : VT → α), venterK i l T k = k (venter i l T)
  | _, [], _, _ => rfl
  | i, v :: r, T, k => by simp only [venterK, venter, vputK_eq]; exact venterK_eq (i + 1) r _ k
theorem vget_vmk : ∀ (d i : Nat), vget (vmk d) i = none
  | 0, i => rfl
  | d + 1, i => by
    rw [vmk, vget_node]
    split
    · rfl
    · split <;> exact vget_vmk d _
theorem vget_venter : ∀ (vs : List Value) (i : Nat) (T : VT) (t : Nat) (v : Value), vget (venter i vs T) t = some v → (i ≤ t ∧ vs[t - i]? = some v) ∨ vget T t = some v
  | [], i, T, t, v, h => .inr h
  | u :: r, i, T, t, v, h => by
    simp only [venter] at h
    rcases vget_venter r (i + 1) _ t v h with ⟨a, b⟩ | h
    · refine .inl ⟨by omega, ?_⟩
      rw [show t - i = (t - (i + 1)) + 1 by omega]; simpa using b
    · rcases vget_vput _ _ _ _ _ h with ⟨rfl, rfl⟩ | ⟨_, h⟩
      · exact .inl ⟨Nat.le_refl _, by simp⟩
      · exact .inr h
theorem aget_aenter : ∀ (vs : List Value) (i t : Nat) (v : Value), i ≤ t → vs[t - i]? = some v → aget (aenter i vs) t = some v
  | [], i, t, v, _, h => by simp at h
  | u :: r, i, t, v, hle, h => by
    simp only [aenter, aget_cons]
    by_cases e : i = t
    · subst e; simpa using h
    · rw [if_neg e]
      refine aget_aenter r (i + 1) t v (by omega) ?_
      rw [show t - i = (t - (i + 1)) + 1 by omega] at h; simpa using h
theorem venter_ft (vs : List Value) (d : Nat) : FT (aenter 0 vs) (venter 0 vs (vmk d)) := by
  intro t v h
  rcases vget_venter vs 0 _ t v h with ⟨_, h⟩ | h
  · exact aget_aenter vs 0 t v (by omega) h
  · rw [vget_vmk] at h; cases h

/-- The slots that are looked at, out of the tree. -/
noncomputable def vlist (T : VT) (l : List Tmp) : Option Fr :=
  List.rec (motive := fun _ => Option Fr) (some []) (fun t _ ih => Option.rec (motive := fun _ => Option Fr) none (fun v => Option.rec (motive := fun _ => Option Fr) none (fun fr => some ((t, v) :: fr)) ih) (vget T t)) l
theorem vlist_nil (T : VT) : vlist T [] = some [] := rfl
theorem vlist_cons (T : VT) (t : Tmp) (r : List Tmp) : vlist T (t :: r) = match vget T t with
    | some v => match vlist T r with
      | some fr => some ((t, v) :: fr)
      | none => none
    | none => none := by
  show Option.rec (motive := fun _ => Option Fr) none (fun v => Option.rec (motive := fun _ => Option Fr) none (fun fr => some ((t, v) :: fr)) (vlist T r)) (vget T t) = _
  cases vget T t with
  | none => rfl
  | some v => cases vlist T r <;> rfl
theorem vlist_ok {fr : Fr} {T : VT} (h : FT fr T) : ∀ {l : List Tmp} {s : Fr}, vlist T l = some s → ∀ t ∈ l, aget s t = aget fr t
  | [], s, _, t, ht => by cases ht
  | a :: r, s, hs, t, ht => by
    rw [vlist_cons] at hs
    split at hs
    · rename_i v hv
      split at hs
      · rename_i s' hs'
        cases hs
        rw [aget_cons]
        split
        · rename_i e; subst e; exact (h _ _ hv).symm
        · rename_i e
          cases ht with
          | head => exact absurd rfl e
          | tail _ ht => exact vlist_ok h hs' t ht
      · cases hs
    · cases hs
theorem mem_opTmps {o : Op} {t : Tmp} (h : Operand.tmp t ∈ o.operands.toList) : t ∈ opTmps o := List.mem_filterMap.2 ⟨.tmp t, h, rfl⟩
theorem aexec_small {P : Program} {σ : AHeap} {id : Nat} {fr s : Fr} {T : VT} {o : Op} (h : FT fr T) (hs : vlist T (opTmps o) = some s) : aexec P σ id s o = aexec P σ id fr o :=
  aexec_congr fun x hx => aeval_congr fun t ht => vlist_ok h hs t (mem_opTmps (ht ▸ hx))
theorem acallee_small {fr s : Fr} {T : VT} {o : Op} (h : FT fr T) (hs : vlist T (opTmps o) = some s) : acallee s o = acallee fr o :=
  acallee_congr fun x hx => aeval_congr fun t ht => vlist_ok h hs t (mem_opTmps (ht ▸ hx))

/-- Is the operation wanted? -/
noncomputable def vwanted (gds : List (Option Tmp)) (T : VT) : Option (Nat × Bool) → Option Bool
  | none => some true
  | some (j, want) => match nth gds j with
    | none => some false
    | some d => match vget T d with
      | some (.bool b) => some (b == want)
      | some (.tuple _) => some false
      | _ => none
theorem vwanted_ok {gds : List (Option Tmp)} {fr : Fr} {T : VT} {g : Option (Nat × Bool)} {b : Bool} (hf : FT fr T) (h : vwanted gds T g = some b) : awanted gds fr g = some b := by
  cases g with
  | none => exact h
  | some x =>
    obtain ⟨j, want⟩ := x
    simp only [vwanted] at h
    simp only [awanted]
    split at h
    · rename_i hn; rw [hn]; exact h
    · rename_i d hn
      rw [hn]
      simp only
      split at h
      · rename_i hv; rw [hf _ _ hv]; exact h
      · rename_i hv; rw [hf _ _ hv]; exact h
      · cases h
def resTmps : List ResultVar → List Tmp
  | [] => []
  | .tmp t :: r => t :: resTmps r
  | .cell a _ :: r => a :: resTmps r
theorem aresults_small {P : Program} {σ : AHeap} {fr s : Fr} : ∀ {l : List ResultVar}, (∀ t ∈ resTmps l, aget s t = aget fr t) → aresults P s σ l = aresults P fr σ l
  | [], _ => rfl
  | .tmp t :: r, h => by simp only [aresults, aresult, h t (by simp [resTmps]), aresults_small (l := r) fun t ht => h t (by simp [resTmps, ht])]
  | .cell a u :: r, h => by simp only [aresults, aresult, h a (by simp [resTmps]), aresults_small (l := r) fun t ht => h t (by simp [resTmps, ht])]

/-! ### One operation -/
def aggs : Option Value → Option Value → Option (Array Value × Array Value)
  | some (.agg xs), some (.agg ys) => some (xs, ys)
  | _, _ => none
def eqAgg (P : Program) (keys : List TypeId) (op : BinOp) (t : TypeId) (xs ys : Array Value) : Option Value :=
  match keys.contains t && xs.toList.all numCell && ys.toList.all numCell && (keyOf P t (.agg xs)).isSome && (keyOf P t (.agg ys)).isSome with
  | true => match op with
    | .eql => some (.bool (eqCL xs.toList ys.toList))
    | .neq => some (.bool (!eqCL xs.toList ys.toList))
    | _ => none
  | false => none
noncomputable def dBin (P : Program) (keys : List TypeId) (op : BinOp) (t : TypeId) (x y : Option Value) (σ : AHeap) : Option (Value × AHeap) :=
  match x, y with
  | some (.int k a), some (.int k' b) => (abin op (.int k a) (.int k' b)).map (·, σ)
  | some (.agg xs), some (.agg ys) => (eqAgg P keys op t xs ys).map (·, σ)
  | some a, some b => (abinT P op t a b).map (·, σ)
  | _, _ => none
def dMove (x : Option Value) (σ : AHeap) : Option (Value × AHeap) := x.map (·, σ)
def dLoad (P : Program) (t : TypeId) (x : Option Value) (σ : AHeap) : Option (Value × AHeap) :=
  match x with
  | some p => (aload P σ t p).map (·, σ)
  | none => none
def dStore (P : Program) (t : TypeId) (x y : Option Value) (σ : AHeap) : Option (Value × AHeap) :=
  match x, y with
  | some p, some v => (astore P σ t p v).map (.tuple #[], ·)
  | _, _ => none
def dIdxA (P : Program) (t : TypeId) (x y : Option Value) (σ : AHeap) : Option (Value × AHeap) :=
  match x, y with
  | some x, some i => (aindexAddr P t x i).map (·, σ)
  | _, _ => none
def dFldA (P : Program) (t : TypeId) (x : Option Value) (f : Nat) (σ : AHeap) : Option (Value × AHeap) :=
  match x with
  | some p => (afieldAddr P t p f).map (·, σ)
  | none => none
def dFld (P : Program) (t : TypeId) (x : Option Value) (f : Nat) (σ : AHeap) : Option (Value × AHeap) :=
  match x with
  | some p => (afield P t p f).map (·, σ)
  | none => none
def dExt (x : Option Value) (i : Nat) (σ : AHeap) : Option (Value × AHeap) :=
  match x with
  | some v => (aextract v i).map (·, σ)
  | none => none
/-- Parts that lie one behind the other. -/
def aseq (place : Nat → Option (Nat × Nat)) : Nat → List (Nat × Value) → Option (List Value)
  | _, [] => some []
  | off, (j, v) :: r =>
    match place j with
    | some (o, size) => match Nat.beq o off && Nat.beq v.cells.size size with
      | true => match aseq place (off + size) r with
        | some l => some (v.cells.toList ++ l)
        | none => none
      | false => none
    | none => none
theorem setRange_eq (cs vs : List Value) (off : Nat) (h : off + vs.length ≤ cs.length) : setRange cs off vs = cs.take off ++ vs ++ cs.drop (off + vs.length) := by
  apply List.ext_getElem?
  intro i
  rw [setRange_get vs cs off i h]
  by_cases h1 : i < off
  · rw [if_neg (by omega), List.append_assoc, List.getElem?_append_left (by simp; omega), List.getElem?_take_of_lt h1]
  · by_cases h2 : i < off + vs.length
    · rw [if_pos ⟨by omega, h2⟩, List.append_assoc, List.getElem?_append_right (by simp; omega), List.getElem?_append_left (by simp; omega)]
      simp [Nat.min_eq_left (show off ≤ cs.length by omega)]
    · rw [if_neg (by omega), List.getElem?_append_right (by simp; omega)]
      simp only [List.length_append, List.length_take, Nat.min_eq_left (show off ≤ cs.length by omega), List.getElem?_drop]
      congr 1; omega
theorem aseq_ok {place : Nat → Option (Nat × Nat)} : ∀ (parts : List (Nat × Value)) (off : Nat) (cells l : List Value), aseq place off parts = some l → off + l.length = cells.length → afill place cells parts = some (cells.take off ++ l)
  | [], off, cells, l, h, hl => by
    simp only [aseq, Option.some.injEq] at h; subst h
    simp only [List.length_nil, Nat.add_zero] at hl
    simp only [afill, List.append_nil]; rw [hl, List.take_length]
  | (j, v) :: r, off, cells, l, h, hl => by
    simp only [aseq] at h
    split at h
    case h_2 => cases h
    rename_i o size hp
    split at h
    case h_2 => cases h
    rename_i hb
    split at h
    case h_2 => cases h
    rename_i l' hl'
    cases h
    simp only [Bool.and_eq_true] at hb
    have h1 := Nat.eq_of_beq_eq_true hb.1
    have h2 := Nat.eq_of_beq_eq_true hb.2
    subst h1
    simp only [List.length_append, Array.length_toList] at hl
    simp only [afill, hp]
    rw [if_neg (by simp [h2]; omega)]
    have hlen : o + v.cells.toList.length ≤ cells.length := by simp; omega
    rw [aseq_ok r (o + size) (setRange cells o v.cells.toList) l' hl' (by rw [setRange_length]; omega), setRange_eq _ _ _ hlen]
    have e1 : (o + size) = (cells.take o ++ v.cells.toList).length := by simp [h2]; omega
    rw [List.take_append_of_le_length (Nat.le_of_eq e1), e1, List.take_length, List.append_assoc]
def dBuildSlice (P : Program) (σ : AHeap) (id : Nat) (t : TypeId) (len : Nat) (parts : List (Nat × Value)) : Option (Value × AHeap) :=
  match ty P t with
  | some ⟨.slice e, _, _, _⟩ =>
    match ty P e with
    | some ⟨_, s, _, some z⟩ =>
      match closedV z && Nat.beq z.cells.size s && Nat.ble (len * s) 16777216 with
      | true => match aseq (fun i => some (i * s, s)) 0 parts with
        | some cs => match Nat.beq cs.length (len * s) with
          | true => some (.slice (some ⟨id, 0, none⟩) len len, σ.set id (.cells cs e true))
          | false => abuildSlice P σ id t len parts
        | none => abuildSlice P σ id t len parts
      | false => none
    | _ => none
  | _ => none
theorem dBuildSlice_ok {P : Program} {σ : AHeap} {id : Nat} {t : TypeId} {len : Nat} {parts : List (Nat × Value)} {r : Value × AHeap} (h : dBuildSlice P σ id t len parts = some r) : abuildSlice P σ id t len parts = some r := by
  unfold dBuildSlice at h
  split at h
  · rename_i e _ _ _ ht
    split at h
    · rename_i s _ z he
      split at h
      · rename_i hc
        simp only [Bool.and_eq_true] at hc
        have h2 := Nat.eq_of_beq_eq_true hc.1.2
        have h3 := Nat.le_of_ble_eq_true hc.2
        split at h
        · rename_i cs hcs
          split at h
          · rename_i hl
            have hl := Nat.eq_of_beq_eq_true hl
            cases h
            have := aseq_ok parts 0 (zerosL z len) cs hcs (by rw [zerosL_length, h2]; omega)
            simp only [abuildSlice, ht, he]
            rw [if_pos ⟨hc.1.1, h2, h3⟩, this]
            simp
          · exact h
        · exact h
      · cases h
    · cases h
  · cases h
def dBuild (P : Program) (t : TypeId) (parts : List (Nat × Value)) : Option Value :=
  match ty P t with
  | some ⟨.array _ e, _, _, some z⟩ =>
    match ty P e with
    | some E => match closedV z with
      | true => match aseq (fun i => some (i * E.size, E.size)) 0 parts with
        | some cs => match Nat.beq cs.length z.cells.size with
          | true => some (.agg cs.toArray)
          | false => abuild P t parts
        | none => abuild P t parts
      | false => none
    | none => none
  | _ => abuild P t parts
theorem dBuild_ok {P : Program} {t : TypeId} {parts : List (Nat × Value)} {r : Value} (h : dBuild P t parts = some r) : abuild P t parts = some r := by
  unfold dBuild at h
  split at h
  · rename_i n e _ _ z ht
    split at h
    · rename_i E he
      split at h
      · rename_i hc
        split at h
        · rename_i cs hcs
          split at h
          · rename_i hl
            have hl := Nat.eq_of_beq_eq_true hl
            cases h
            have := aseq_ok parts 0 z.cells.toList cs hcs (by simp; omega)
            simp only [abuild, ht, he]
            rw [if_pos hc, this]
            simp
          · exact h
        · exact h
      · cases h
    · cases h
  · exact h
def dBuildP (P : Program) (t : TypeId) (ps : Option (List (Nat × Value))) (σ : AHeap) : Option (Value × AHeap) :=
  match ps with
  | some ps => (dBuild P t ps).map (·, σ)
  | none => none
def dBuildSliceP (P : Program) (id : Nat) (t : TypeId) (len : Nat) (ps : Option (List (Nat × Value))) (σ : AHeap) : Option (Value × AHeap) :=
  match ps with
  | some ps => dBuildSlice P σ id t len ps
  | none => none
noncomputable def cexec (P : Program) (keys : List TypeId) (σ : AHeap) (id : Nat) (fr : Fr) (o : Op) : Option (Value × AHeap) :=
  match o with
  | .move x => dMove (aeval fr x) σ
  | .assign x => dMove (aeval fr x) σ
  | .load t x => dLoad P t (aeval fr x) σ
  | .store t x y => dStore P t (aeval fr x) (aeval fr y) σ
  | .binOp op t x y _ => dBin P keys op t (aeval fr x) (aeval fr y) σ
  | .indexAddr t x y => dIdxA P t (aeval fr x) (aeval fr y) σ
  | .fieldAddr t x f => dFldA P t (aeval fr x) f σ
  | .field t x f => dFld P t (aeval fr x) f σ
  | .extract x i => dExt (aeval fr x) i σ
  | .build t ps => dBuildP P t (aparts fr ps.toList) σ
  | .buildSlice t n ps => dBuildSliceP P id t n (aparts fr ps.toList) σ
  | o => aexec P σ id fr o

theorem dec_eq {p : Prop} (i : Decidable p) {b : Bool} (h : b = true ↔ p) : @decide p i = b := by
  cases i with
  | isTrue hp => rw [h.2 hp]; rfl
  | isFalse hp => cases b with
    | false => rfl
    | true => exact absurd (h.1 rfl) hp
theorem eqAgg_ok {P : Program} {keys : List TypeId} (hk : ∀ t ∈ keys, KeyOk P t) {op : BinOp} {t : TypeId} {xs ys : Array Value} {v : Value} (h : eqAgg P keys op t xs ys = some v) : abinT P op t (.agg xs) (.agg ys) = some v := by
  unfold eqAgg at h
  split at h
  · rename_i hc
    simp only [Bool.and_eq_true, List.contains_eq_mem, decide_eq_true_eq] at hc
    obtain ⟨⟨⟨⟨c1, c2⟩, c3⟩, c4⟩, c5⟩ := hc
    have hiff : eqCL xs.toList ys.toList = true ↔ xs = ys := by rw [eqCL_iff c2 c3, Array.toList_inj]
    simp only [abinT]
    rw [if_pos ⟨hk t c1, plain_of_num c2, plain_of_num c3, c4, c5⟩]
    split at h
    · rw [dec_eq _ hiff]; exact h
    · rw [dec_eq _ hiff]; exact h
    · cases h
  · cases h
theorem cexec_ok {P : Program} {keys : List TypeId} (hk : ∀ t ∈ keys, KeyOk P t) {σ : AHeap} {id : Nat} {fr : Fr} {o : Op} {r : Value × AHeap} (h : cexec P keys σ id fr o = some r) : aexec P σ id fr o = some r := by
  unfold cexec at h
  split at h
  all_goals try exact h
  rotate_left
  · simp only [aexec]
    unfold dBuildP at h
    split at h
    · rename_i ps hps
      rw [Option.map_eq_some_iff] at h
      obtain ⟨v, hv, rfl⟩ := h
      simp only [hps, dBuild_ok hv, Option.map_some]
    · cases h
  · simp only [aexec]
    unfold dBuildSliceP at h
    split at h
    · rename_i ps hps
      simp only [hps, dBuildSlice_ok h]
    · cases h
  rename_i op t x y u
  simp only [aexec]
  unfold dBin at h
  split at h
  · rename_i h1 h2; rw [h1, h2]; exact h
  · rename_i xs ys h1 h2
    rw [h1, h2]
    rw [Option.map_eq_some_iff] at h
    obtain ⟨v, hv, rfl⟩ := h
    simp only [eqAgg_ok hk hv, Option.map_some]
  · rename_i h1 h2; rw [h1, h2]; exact h
  · cases h

/-! ### Regions whose order is drawn -/
def isEff (ops : Array Oper) (i : Nat) : Bool :=
  match ops[i]? with
  | some o => (quietOp o.op).isNone
  | none => false
def ancList (ops : Array Oper) : Nat → List Nat → List Nat
  | 0, acc => acc
  | i + 1, acc => if acc.any (fun c => (predsOf ops c).contains i) then ancList ops i (i :: acc) else ancList ops i acc
def aheadList (ops : Array Oper) (dn : List Nat) : List Nat → List Nat → List Nat
  | [], acc => acc
  | i :: r, acc => if !dn.contains i && !isEff ops i && (predsOf ops i).all (fun p => dn.contains p || acc.contains p) then aheadList ops dn r (acc ++ [i]) else aheadList ops dn r acc
def stagesGo (ops : Array Oper) : List Nat → List Nat → List Stage × List Nat
  | [], dn => ([], (List.range ops.size).filter fun i => !dn.contains i)
  | e :: es, dn =>
    let A := (ancList ops e [e]).filter fun i => !dn.contains i && !(i == e)
    let dn' := dn ++ A
    let M := aheadList ops dn' ((List.range ops.size).filter fun i => !(i == e)) []
    let r := stagesGo ops es (dn' ++ [e])
    ((A, e, M) :: r.1, r.2)
def stagesOf (ops : Array Oper) : List Stage × List Nat := stagesGo ops ((List.range ops.size).filter (isEff ops)) []

noncomputable def cnval (P : Program) (keys : List TypeId) (N : Nat) (gds : List (Option Tmp)) (σ : AHeap) (id : Nat) (T : VT) (o : SOp) : Option (Value × Option ABlk) :=
  match dstOk N o.dst, vwanted gds T o.guard with
  | true, some false => some (.tuple #[], none)
  | true, some true =>
    match quietOp o.op, vlist T (opTmps o.op) with
    | some q, some fr =>
      match cexec P keys σ id fr o.op with
      | some (v, τ) => some (v, cond q none (τ.blk id))
      | none => none
    | _, _ => none
  | _, _ => none
theorem cnval_ok {P : Program} {keys : List TypeId} (hk : ∀ t ∈ keys, KeyOk P t) {N : Nat} {gds : List (Option Tmp)} {σ : AHeap} {id : Nat} {fr : Fr} {T : VT} {o : SOp} {r : Value × Option ABlk} (hf : FT fr T) (h : cnval P keys N gds σ id T o = some r) : nval P N gds σ id fr o = some r := by
  unfold cnval at h
  unfold nval
  split at h
  · rename_i h1 h2; simp only [h1, vwanted_ok hf h2]; exact h
  · rename_i h1 h2
    simp only [h1, vwanted_ok hf h2]
    split at h
    · rename_i q s hq hs
      split at h
      · rename_i v τ hex
        have := cexec_ok hk hex
        rw [aexec_small hf hs] at this
        simp only [hq, this]; exact h
      · cases h
    · cases h
  · cases h

noncomputable def forceOB {α : Type} (x : Option ABlk) (k : Option ABlk → α) : α :=
  match x with
  | none => k none
  | some x => forceB x fun x => k (some x)
theorem forceOB_eq {α : Type} (x : Option ABlk) (k : Option ABlk → α) : forceOB x k = k x := by cases x <;> simp only [forceOB, forceB_eq]

noncomputable def cnrun (P : Program) (keys : List TypeId) (N : Nat) (gds : List (Option Tmp)) (L : List SOp) (base : Nat) (σ : AHeap) : List Nat → VT → Option (List Ent × VT)
  | [], fr => some ([], fr)
  | i :: r, fr =>
    match sget L i with
    | none => none
    | some o =>
      match cnval P keys N gds σ (base + i) fr o with
      | none => none
      | some (v, nb) =>
        forceV 4 v fun v => forceOB nb fun nb => cdstK fr o.dst v fun fr =>
        match cnrun P keys N gds L base σ r fr with
        | none => none
        | some (T, fr) => some (⟨i, o, v, nb⟩ :: T, fr)
theorem cnrun_ok {P : Program} {keys : List TypeId} (hk : ∀ t ∈ keys, KeyOk P t) {N : Nat} {gds : List (Option Tmp)} {L : List SOp} {base : Nat} {σ : AHeap} : ∀ {l : List Nat} {fr : Fr} {fr' fr2 : VT} {T : List Ent}, FT fr fr' → cnrun P keys N gds L base σ l fr' = some (T, fr2) →
    nrun P N gds L base σ l fr = some T ∧ FT (putT fr T) fr2
  | [], fr, fr', fr2, T, hf, h => by simp only [cnrun, Option.some.injEq, Prod.mk.injEq] at h; obtain ⟨rfl, rfl⟩ := h; exact ⟨rfl, hf⟩
  | i :: r, fr, fr', fr2, T, hf, h => by
    simp only [cnrun] at h
    split at h
    · cases h
    · rename_i o ho
      split at h
      · cases h
      · rename_i v nb hv
        simp only [forceV_eq, forceOB_eq, cdstK_eq] at h
        split at h
        · cases h
        · rename_i T' fr3 hT
          cases h
          obtain ⟨a, b⟩ := cnrun_ok hk (cdst_ft hf o.dst v) hT
          exact ⟨by simp only [nrun, ho, cnval_ok hk hf hv, a], b⟩

noncomputable def csetK {α : Type} (base : Nat) : List Ent → List (Nat × ABlk) → (List (Nat × ABlk) → α) → α
  | [], l, k => k l
  | ⟨i, _, _, some x⟩ :: T, l, k => forceN (base + i) fun j => delK l j fun l => csetK base T ((j, x) :: l) k
  | ⟨_, _, _, none⟩ :: T, l, k => csetK base T l k
noncomputable def csetT (base : Nat) : List Ent → List (Nat × ABlk) → List (Nat × ABlk)
  | [], l => l
  | ⟨i, _, _, some x⟩ :: T, l => csetT base T ((base + i, x) :: cdel l (base + i))
  | ⟨_, _, _, none⟩ :: T, l => csetT base T l
theorem csetK_eq {α : Type} (base : Nat) : ∀ (T : List Ent) (l : List (Nat × ABlk)) (k : List (Nat × ABlk) → α), csetK base T l k = k (csetT base T l)
  | [], l, k => rfl
  | ⟨i, _, _, some x⟩ :: T, l, k => by simp only [csetK, csetT, forceN_eq, delK_eq]; exact csetK_eq base T _ k
  | ⟨_, _, _, none⟩ :: T, l, k => csetK_eq base T l k
theorem toA_set (n : Nat) (l : List (Nat × ABlk)) (b : Nat) (x : ABlk) : CH.toA ⟨n, (b, x) :: cdel l b⟩ = (CH.toA ⟨n, l⟩).set b x := by
  refine AHeap.ext (σ := CH.toA ⟨n, (b, x) :: cdel l b⟩) (τ := (CH.toA ⟨n, l⟩).set b x) rfl ?_
  intro i
  show clook ((b, x) :: cdel l b) i = if i = b then some x else clook l i
  rw [clook_cons]
  split
  · rename_i hb; rw [if_pos (Nat.eq_of_beq_eq_true hb).symm]
  · rename_i hb
    have hne := Nat.ne_of_beq_eq_false hb
    rw [clook_cdel, if_neg (fun e => hne e.symm), if_neg (fun e => hne e.symm)]
theorem csetT_ok (base n : Nat) : ∀ (T : List Ent) (l : List (Nat × ABlk)), CH.toA ⟨n, csetT base T l⟩ = setT base (CH.toA ⟨n, l⟩) T
  | [], l => rfl
  | ⟨i, _, _, some x⟩ :: T, l => by simp only [csetT, setT]; rw [csetT_ok base n T, toA_set]
  | ⟨_, _, _, none⟩ :: T, l => csetT_ok base n T l

def agreeB (pend T : List Ent) : Bool := pend.all fun x => T.any fun y => y.i == x.i && eqV 4 y.v x.v && eqB y.nb x.nb
theorem agreeB_ok {pend T : List Ent} (h : agreeB pend T = true) : agree pend T := by
  intro x hx
  simp only [agreeB, List.all_eq_true, List.any_eq_true, Bool.and_eq_true, beq_iff_eq] at h
  obtain ⟨y, hy, ⟨h1, h2⟩, h3⟩ := h x hx
  exact ⟨y, hy, h1, eqV_ok 4 _ _ h2, eqB_ok h3⟩

/-- One operation that has an effect, or a call. -/
noncomputable def ceff {α : Type} (call : FuncId → List Value → CH → Option (Value × CH)) (P : Program) (keys : List TypeId) (N : Nat) (gds : List (Option Tmp)) (id : Nat) (o : SOp) (T : VT) (h : CH) (k : Value → CH → Option α) : Option α :=
  match dstOk N o.dst, vwanted gds T o.guard with
  | true, some false => k (.tuple #[]) h
  | true, some true =>
    match vlist T (opTmps o.op) with
    | some fr =>
      match isCall o.op with
      | true => match acallee fr o.op with
        | some (g, vs) => match call g vs h with
          | some (v, h) => k v h
          | none => none
        | none => none
      | false => match cexec P keys h.toA id fr o.op with
        | some (v, σ) => forceV 4 v fun v => cupd σ.blk (touch id fr o.op) h.bs fun bs => k v ⟨h.next, bs⟩
        | none => none
    | none => none
  | _, _ => none

def CallOk (P : Program) (call : FuncId → List Value → CH → Option (Value × CH)) : Prop :=
  ∀ g vs h v h', call g vs h = some (v, h') → hasBody P g = true ∧ ACalls P g vs h.toA fun v1 σ1 => v1 = v ∧ σ1 = h'.toA

theorem upd_ok {P : Program} {h : CH} {σ : AHeap} {id : Nat} {fr : Fr} {o : Op} {v : Value} (hx : aexec P h.toA id fr o = some (v, σ)) : σ = CH.toA ⟨h.next, cupd' σ.blk (touch id fr o) h.bs⟩ := by
  obtain ⟨a, b⟩ := touch_ok hx
  apply AHeap.ext
  · exact a
  · intro i
    show σ.blk i = clook (cupd' σ.blk (touch id fr o) h.bs) i
    rw [clook_cupd]
    split
    · rfl
    · rename_i hi; exact b i hi

theorem ceff_ok {α : Type} {call : FuncId → List Value → CH → Option (Value × CH)} {P : Program} {keys : List TypeId} (hk : ∀ t ∈ keys, KeyOk P t) (hc : CallOk P call) {N : Nat} {gds : List (Option Tmp)} {id : Nat} {o : SOp} {fr : Fr} {T : VT} {h : CH} {k : Value → CH → Option α} {r : α}
    (hf : FT fr T) (hr : ceff call P keys N gds id o T h k = some r) : ∃ v h', k v h' = some r ∧ ∀ Q : Value → AHeap → Prop, Q v h'.toA → Exec P N gds id o fr h.toA Q := by
  unfold ceff at hr
  unfold Exec
  split at hr
  · rename_i h1 h2
    exact ⟨_, _, hr, fun Q hQ => ⟨h1, .inl ⟨vwanted_ok hf h2, hQ⟩⟩⟩
  · rename_i h1 h2
    split at hr
    case h_2 => cases hr
    rename_i s hs
    split at hr
    · split at hr
      · rename_i g vs hg
        split at hr
        · rename_i v h' hcall
          obtain ⟨hb, ha⟩ := hc _ _ _ _ _ hcall
          exact ⟨v, h', hr, fun Q hQ => ⟨h1, .inr ⟨vwanted_ok hf h2, .inr ⟨g, vs, by rw [← acallee_small hf hs]; exact hg, hb, ha.mono fun v1 σ1 hh => by rw [hh.1, hh.2]; exact hQ⟩⟩⟩⟩
        · cases hr
      · cases hr
    · split at hr
      · rename_i v σ hex
        simp only [forceV_eq, cupd_eq] at hr
        have hex' := cexec_ok hk hex
        refine ⟨v, _, hr, fun Q hQ => ⟨h1, .inr ⟨vwanted_ok hf h2, .inl ⟨v, σ, by rw [← aexec_small hf hs]; exact hex', ?_⟩⟩⟩⟩
        rw [upd_ok hex']; exact hQ
      · cases hr
  · cases hr

noncomputable def cdraw {α : Type} (call : FuncId → List Value → CH → Option (Value × CH)) (P : Program) (keys : List TypeId) (N : Nat) (gds : List (Option Tmp)) (L : List SOp) (base : Nat) (K : VT → CH → Option α) : List Ent → List Stage → List Nat → VT → CH → Option α
  | pend, [], Af, fr, h =>
    match cnrun P keys N gds L base h.toA Af fr with
    | some (T, fr) => match agreeB pend T with
      | true => csetK base T h.bs fun bs => K fr ⟨h.next, bs⟩
      | false => none
    | none => none
  | pend, (A, e, M) :: S, Af, fr, h =>
    match cnrun P keys N gds L base h.toA A fr with
    | some (TA, frA) => match cnrun P keys N gds L base h.toA M frA with
      | some (TM, _) => match agreeB pend (TA ++ TM) with
        | true => match sget L e with
          | some o => csetK base TA h.bs fun bs => ceff call P keys N gds (base + e) o frA ⟨h.next, bs⟩ fun v h => cdstK frA o.dst v fun fr => cdraw call P keys N gds L base K TM S Af fr h
          | none => none
        | false => none
      | none => none
    | none => none

theorem cdraw_ok {α : Type} {call : FuncId → List Value → CH → Option (Value × CH)} {P : Program} {keys : List TypeId} (hk : ∀ t ∈ keys, KeyOk P t) (hc : CallOk P call) {N : Nat} {gds : List (Option Tmp)} {L : List SOp} {base : Nat} {K : VT → CH → Option α} {r : α} {K' : Fr → AHeap → Prop}
    (hK : ∀ fr fr' h, FT fr fr' → K fr' h = some r → K' fr h.toA) : ∀ (S : List Stage) (pend : List Ent) (Af : List Nat) (fr : Fr) (fr' : VT) (h : CH), FT fr fr' → cdraw call P keys N gds L base K pend S Af fr' h = some r → DGo P N gds L base K' pend S Af fr h.toA
  | [], pend, Af, fr, fr', h, hf, hr => by
    simp only [cdraw] at hr
    split at hr
    · rename_i T fr2 hT
      split at hr
      · rename_i hag
        rw [csetK_eq] at hr
        obtain ⟨a, b⟩ := cnrun_ok hk hf hT
        have := hK _ _ _ b hr
        rw [csetT_ok] at this
        exact ⟨T, a, agreeB_ok hag, this⟩
      · cases hr
    · cases hr
  | (A, e, M) :: S, pend, Af, fr, fr', h, hf, hr => by
    simp only [cdraw] at hr
    split at hr
    · rename_i TA frA hTA
      split at hr
      · rename_i TM frM hTM
        split at hr
        · rename_i hag
          split at hr
          · rename_i o ho
            rw [csetK_eq] at hr
            obtain ⟨a, b⟩ := cnrun_ok hk hf hTA
            obtain ⟨c, d⟩ := cnrun_ok hk b hTM
            obtain ⟨v, h', hr, hQ⟩ := ceff_ok hk hc b hr
            rw [cdstK_eq] at hr
            refine ⟨TA, TM, o, a, c, agreeB_ok hag, ho, ?_⟩
            have := hQ (fun v σ1 => DGo P N gds L base K' TM S Af (adst (putT fr TA) o.dst v) σ1) (cdraw_ok hk hc hK S TM Af _ _ h' (cdst_ft b o.dst v) hr)
            rw [csetT_ok] at this
            exact this
          · cases hr
        · cases hr
      · cases hr
    · cases hr

/-! ### The interpreter -/
def depthOf (N : Nat) : Nat := Nat.log2 (N + 1) + 1
/-! ### Closed calls that are known -/
noncomputable def shL (f : Value → Option Value) (l : List Value) : Option (List Value) :=
  List.rec (motive := fun _ => Option (List Value)) (some []) (fun v _ ih => Option.rec (motive := fun _ => Option (List Value)) none (fun u => Option.rec (motive := fun _ => Option (List Value)) none (fun r => some (u :: r)) ih) (f v)) l
theorem shL_nil (f : Value → Option Value) : shL f [] = some [] := rfl
theorem shL_cons (f : Value → Option Value) (v : Value) (r : List Value) : shL f (v :: r) = match f v with
    | some u => match shL f r with
      | some l => some (u :: l)
      | none => none
    | none => none := by
  show Option.rec (motive := fun _ => Option (List Value)) none (fun u => Option.rec (motive := fun _ => Option (List Value)) none (fun l => some (u :: l)) (shL f r)) (f v) = _
  cases f v with
  | none => rfl
  | some u => cases shL f r <;> rfl
/-- The renamed value. -/
noncomputable def shV (n : Nat) : Nat → Value → Option Value
  | 0, _ => none
  | d + 1, v =>
    match v with
    | .int k m => some (.int k m)
    | .bool b => some (.bool b)
    | .string s => some (.string s)
    | .nilFunc => some .nilFunc
    | .nilIface => some .nilIface
    | .pointer none => some (.pointer none)
    | .pointer (some ⟨b, o, none⟩) => forceN (b + n) fun b => some (.pointer (some ⟨b, o, none⟩))
    | .slice none 0 0 => some (.slice none 0 0)
    | .slice (some ⟨b, o, none⟩) l c => forceN (b + n) fun b => some (.slice (some ⟨b, o, none⟩) l c)
    | .agg xs => match shL (shV n d) xs.toList with
      | some l => match l.all Value.oneCell' with
        | true => some (.agg l.toArray)
        | false => none
      | none => none
    | .tuple xs => match shL (shV n d) xs.toList with
      | some l => some (.tuple l.toArray)
      | none => none
    | _ => none
theorem shL_ok {n : Nat} {f : Value → Option Value} (hf : ∀ v u, f v = some u → Sh n v u) : ∀ {l m : List Value}, shL f l = some m → ShL n l m
  | [], m, h => by rw [shL_nil] at h; cases h; exact .nil n
  | v :: r, m, h => by
    rw [shL_cons] at h
    split at h
    · rename_i u hu
      split at h
      · rename_i l hl; cases h; exact .cons (hf v u hu) (shL_ok hf hl)
      · cases h
    · cases h
theorem ones_of_all {l : List Value} (h : l.all Value.oneCell' = true) : Ones l := fun i v hv => by
  simp only [List.all_eq_true] at h; exact h v (List.mem_of_getElem? hv)
theorem shV_ok (n : Nat) : ∀ (d : Nat) (v u : Value), shV n d v = some u → Sh n v u
  | 0, v, u, h => by cases h
  | d + 1, v, u, h => by
    unfold shV at h
    split at h
    all_goals try (simp only [forceN_eq] at h)
    · cases h; exact .int _ _
    · cases h; exact .bool _
    · cases h; exact .string _
    · cases h; exact .nilFunc
    · cases h; exact .nilIface
    · cases h; exact .nilptr
    · cases h; exact .ptr _ _
    · cases h; exact .nilslice
    · cases h; exact .slice _ _ _ _
    · rename_i xs
      split at h
      · rename_i l hl
        split at h
        · rename_i ho
          cases h
          have := shL_ok (shV_ok n d) hl
          have hh := Sh.agg this.1 this.2 (ones_of_all ho)
          rwa [Array.toArray_toList] at hh
        · cases h
      · cases h
    · rename_i xs
      split at h
      · rename_i l hl
        cases h
        have := shL_ok (shV_ok n d) hl
        have hh := Sh.tuple this.1 this.2
        rwa [Array.toArray_toList] at hh
      · cases h
    · cases h
/-- The renamed blocks, in front of others. -/
noncomputable def shBs (n : Nat) (r : List (Nat × ABlk)) : List (Nat × ABlk) → Option (List (Nat × ABlk))
  | [] => some r
  | (i, .cells cs e rw) :: l =>
    match shL (shV n 3) cs with
    | some ds => match ds.all Value.oneCell' with
      | true => match shBs n r l with
        | some m => forceN (i + n) fun i => some ((i, .cells ds e rw) :: m)
        | none => none
      | false => none
    | none => none
  | (_, .map _ _) :: _ => none
  | (_, .loop ..) :: _ => none
theorem clook_below {n b : Nat} : ∀ {r : List (Nat × ABlk)}, (∀ e ∈ r, e.1 < n) → clook r (b + n) = none
  | [], _ => rfl
  | (j, x) :: r, hr => by
    rw [clook_cons]
    have h1 := hr (j, x) (List.mem_cons_self ..)
    have hb : Nat.beq j (b + n) = false := by
      cases hb : Nat.beq j (b + n) with
      | false => rfl
      | true => have := Nat.eq_of_beq_eq_true hb; simp only at h1; omega
    rw [hb]
    exact clook_below fun e he => hr e (List.mem_cons_of_mem _ he)
theorem shBs_ok {n : Nat} {r : List (Nat × ABlk)} (hr : ∀ e ∈ r, e.1 < n) : ∀ {l m : List (Nat × ABlk)}, shBs n r l = some m → (∀ b, b < n → clook m b = clook r b) ∧ ∀ b, ShB n (clook l b) (clook m (b + n))
  | [], m, h => by
    simp only [shBs, Option.some.injEq] at h; subst h
    refine ⟨fun _ _ => rfl, fun b => ?_⟩
    rw [clook_nil]
    have : clook r (b + n) = none := clook_below hr
    rw [this]; exact .none
  | (i, .cells cs e rw) :: l, m, h => by
    simp only [shBs] at h
    split at h
    case h_2 => cases h
    rename_i ds hds
    split at h
    case h_2 => cases h
    rename_i ho
    split at h
    case h_2 => cases h
    rename_i m' hm'
    rw [forceN_eq] at h
    cases h
    obtain ⟨h1, h2⟩ := shBs_ok hr hm'
    refine ⟨fun b hb => ?_, fun b => ?_⟩
    · rw [clook_cons]
      have : Nat.beq (i + n) b = false := by
        cases hx : Nat.beq (i + n) b with
        | false => rfl
        | true => have := Nat.eq_of_beq_eq_true hx; omega
      rw [this]; exact h1 b hb
    · rw [clook_cons, clook_cons]
      by_cases hb : i = b
      · subst hb
        rw [Nat.beq_refl, Nat.beq_refl]
        exact .cells e rw (shL_ok (shV_ok n 3) hds) (ones_of_all ho)
      · have e1 : Nat.beq i b = false := by
          cases hx : Nat.beq i b with
          | false => rfl
          | true => exact absurd (Nat.eq_of_beq_eq_true hx) hb
        have e2 : Nat.beq (i + n) (b + n) = false := by
          cases hx : Nat.beq (i + n) (b + n) with
          | false => rfl
          | true => have := Nat.eq_of_beq_eq_true hx; omega
        rw [e1, e2]; exact h2 b
  | (_, .map _ _) :: _, m, h => by simp [shBs] at h
  | (_, .loop ..) :: _, m, h => by simp [shBs] at h

/-- A known call: the function, its arguments, the answer, how far the numbers went, the blocks. -/
structure Known where
  g : FuncId
  vs : List Value
  v : Value
  n : Nat
  bs : List (Nat × ABlk)
def Known.Ok (P : Program) (e : Known) : Prop := e.vs.all closedV = true ∧ hasBody P e.g = true ∧ ACalls P e.g e.vs empty0 fun v1 σ1 => v1 = e.v ∧ σ1 = CH.toA ⟨e.n, e.bs⟩
def tfind (g : FuncId) (vs : List Value) : List Known → Option Known
  | [] => none
  | e :: l => match Nat.beq e.g g with
    | true => match eqLF (eqV 3) e.vs vs with
      | true => some e
      | false => tfind g vs l
    | false => tfind g vs l
theorem tfind_ok {g : FuncId} {vs : List Value} : ∀ {l : List Known} {e : Known}, tfind g vs l = some e → e ∈ l ∧ e.g = g ∧ e.vs = vs
  | [], e, h => by cases h
  | x :: l, e, h => by
    simp only [tfind] at h
    split at h
    · rename_i h1
      split at h
      · rename_i h2
        cases h
        exact ⟨List.mem_cons_self .., Nat.eq_of_beq_eq_true h1, eqLF_ok (eqV_ok 3) h2⟩
      · obtain ⟨a, b⟩ := tfind_ok h; exact ⟨List.mem_cons_of_mem _ a, b⟩
    · obtain ⟨a, b⟩ := tfind_ok h; exact ⟨List.mem_cons_of_mem _ a, b⟩
def belowB (n : Nat) : List (Nat × ABlk) → Bool
  | [] => true
  | (i, _) :: l => match Nat.ble n i with
    | true => false
    | false => belowB n l
theorem belowB_ok {n : Nat} : ∀ {l : List (Nat × ABlk)}, belowB n l = true → ∀ e ∈ l, e.1 < n
  | [], _, e, he => by cases he
  | (i, x) :: l, h, e, he => by
    simp only [belowB] at h
    split at h
    · cases h
    · rename_i hb
      cases he with
      | head => simp only; exact Nat.lt_of_not_le fun hle => by rw [Nat.ble_eq_true_of_le hle] at hb; cases hb
      | tail _ he => exact belowB_ok h e he
noncomputable def cknown (e : Known) (h : CH) : Option (Value × CH) :=
  match belowB h.next h.bs with
  | true => match shV h.next 4 e.v, shBs h.next h.bs e.bs with
    | some v, some bs => forceN (h.next + e.n) fun nx => some (v, ⟨nx, bs⟩)
    | _, _ => none
  | false => none
theorem cknown_ok {P : Program} {e : Known} (hk : e.Ok P) {h : CH} {v : Value} {h' : CH} (hr : cknown e h = some (v, h')) : hasBody P e.g = true ∧ ACalls P e.g e.vs h.toA fun v1 σ1 => v1 = v ∧ σ1 = h'.toA := by
  unfold cknown at hr
  split at hr
  case h_2 => cases hr
  rename_i hb
  split at hr
  · rename_i u bs hu hbs
    rw [forceN_eq] at hr
    cases hr
    obtain ⟨k1, k2, k3⟩ := hk
    obtain ⟨h1, h2⟩ := shBs_ok (belowB_ok hb) hbs
    exact ⟨k2, ACalls.closed k1 k3 ⟨v, CH.toA ⟨h.next + e.n, bs⟩, shV_ok _ _ _ _ hu, rfl, h1, h2, rfl, rfl⟩⟩
  · cases hr

/-- What comes next. -/
abbrev RecT (α : Type) := FuncId → Nat → List (Option Tmp) → List SOp → List Item → VT → CH → Option α
abbrev Rec := RecT (Value × CH)
abbrev Callee := FuncId → List Value → CH → Option (Value × CH)
noncomputable def center (tab : List Known) (rc : Rec) (P : Program) : Callee := fun g vs h =>
  match tfind g vs tab with
  | some e => cknown e h
  | none => match hasBody P g, P.funcs[g]? with
    | true, some fn => match fn.body, decide (vs.length ≤ fn.ntmps) with
      | some c, true => venterK 0 vs (vmk (depthOf fn.ntmps)) fun T => rc g fn.ntmps [] [] [.code c] T h
      | _, _ => none
    | _, _ => none
noncomputable def cres (P : Program) (f : FuncId) (T : VT) (h : CH) : Option (Value × CH) :=
  match P.funcs[f]? with
  | some fn => match vlist T (resTmps fn.results.toList) with
    | some fr => match aresults P fr h.toA fn.results.toList with
      | some vs => forceV 4 (packResults vs) fun v => some (v, h)
      | none => none
    | none => none
  | none => none
section
variable {α : Type}
noncomputable def cop (call : Callee) (rc : RecT α) (P : Program) (keys : List TypeId) (f : FuncId) (N : Nat) (gds : List (Option Tmp)) (o : SOp) (L : List SOp) (k : List Item) (T : VT) (h : CH) : Option α :=
  match dstOk N o.dst, vwanted gds T o.guard with
  | true, some false => cdstK T o.dst (.tuple #[]) fun T => rc f N gds L k T h
  | true, some true =>
    match vlist T (opTmps o.op) with
    | some fr =>
      match isCall o.op with
      | true => match acallee fr o.op with
        | some (g, vs) => match call g vs h with
          | some (v, h) => cdstK T o.dst v fun T => rc f N gds L k T h
          | none => none
        | none => none
      | false => forceN h.next fun id => match cexec P keys (CH.toA ⟨Nat.succ id, h.bs⟩) id fr o.op with
        | some (v, σ) => forceV 4 v fun v => cupd σ.blk (touch id fr o.op) h.bs fun bs => cdstK T o.dst v fun T => rc f N gds L k T ⟨Nat.succ id, bs⟩
        | none => none
    | none => none
  | _, _ => none
noncomputable def veval (T : VT) : Operand → Option Value
  | .tmp t => vget T t
  | .const v => some v
  | _ => none
noncomputable def cregion (call : Callee) (rc : RecT α) (P : Program) (keys : List TypeId) (f : FuncId) (N : Nat) (ops : Array Oper) (k : List Item) (T : VT) (h : CH) : Option α :=
  match drawB ops (stagesOf ops).1 (stagesOf ops).2 with
  | true => forceN (h.next + ops.toList.length) fun nx => forceN h.next fun base => cdraw call P keys N (ops.toList.map (·.dst)) (ops.toList.map slim) base (fun T h => rc f N [] [] k T h) [] (stagesOf ops).1 (stagesOf ops).2 T ⟨nx, h.bs⟩
  | false => none
noncomputable def ccode (call : Callee) (rc : RecT α) (ret : FuncId → VT → CH → Option α) (P : Program) (keys : List TypeId) (f : FuncId) (N : Nat) (c : Code) (k : List Item) (T : VT) (h : CH) : Option α :=
  match c with
  | .skip => rc f N [] [] k T h
  | .label _ => rc f N [] [] k T h
  | .seq x y => rc f N [] [] (.code x :: .code y :: k) T h
  | .block id c => rc f N [] [] (.code c :: .inBlock id :: k) T h
  | .scope c => rc f N [] [] (.code c :: .inScope c :: k) T h
  | .loop c => rc f N [] [] (.inLoop c :: k) T h
  | .exit id => match exitTo id k with
    | some k => rc f N [] [] k T h
    | none => none
  | .goto l => match gotoIn l k with
    | some k => rc f N [] [] k T h
    | none => none
  | .cond c x y => match veval T c with
    | some (.bool true) => rc f N [] [] (.code x :: k) T h
    | some (.bool false) => rc f N [] [] (.code y :: k) T h
    | _ => none
  | .ret => ret f T h
  | .region _ ops false => rc f N (ops.toList.map (·.dst)) (ops.toList.map slim) k T h
  | .region _ ops true => cregion call rc P keys f N ops k T h
  | _ => none
noncomputable def citem (call : Callee) (rc : RecT α) (ret : FuncId → VT → CH → Option α) (P : Program) (keys : List TypeId) (f : FuncId) (N : Nat) (i : Item) (k : List Item) (T : VT) (h : CH) : Option α :=
  match i with
  | .inBlock _ => rc f N [] [] k T h
  | .inScope _ => rc f N [] [] k T h
  | .inLoop c => rc f N [] [] (.code c :: .inLoop c :: k) T h
  | .code c => ccode call rc ret P keys f N c k T h
  | _ => none
end
noncomputable def crun (P : Program) (keys : List TypeId) (tab : List Known) (n : Nat) : Rec :=
  Nat.rec (motive := fun _ => Rec) (fun _ _ _ _ _ _ _ => none) (fun _ ih f N gds L k T h =>
    List.rec (motive := fun _ => Option (Value × CH))
      (List.rec (motive := fun _ => Option (Value × CH)) (cres P f T h) (fun i k _ => citem (center tab ih P) ih (cres P) P keys f N i k T h) k)
      (fun o L _ => cop (center tab ih P) ih P keys f N gds o L k T h) L) n

/-- Where a run stands. -/
structure CState where
  k : List Item
  T : VT
  h : CH
/-- Up to where no more than m items are left to do. -/
noncomputable def crunS (P : Program) (keys : List TypeId) (tab : List Known) (m : Nat) (n : Nat) : RecT CState :=
  Nat.rec (motive := fun _ => RecT CState) (fun _ _ _ _ _ _ _ => none) (fun n ih f N gds L k T h =>
    List.rec (motive := fun _ => Option CState)
      (match Nat.ble k.length m with
        | true => some ⟨k, T, h⟩
        | false => List.rec (motive := fun _ => Option CState) none (fun i k _ => citem (center tab (crun P keys tab n) P) ih (fun _ _ _ => none) P keys f N i k T h) k)
      (fun o L _ => cop (center tab (crun P keys tab n) P) ih P keys f N gds o L k T h) L) n

theorem cres_ok {P : Program} {f : FuncId} {fr : Fr} {T : VT} {h : CH} {v : Value} {h' : CH} (hf : FT fr T) (hr : cres P f T h = some (v, h')) : ∃ fn vs, P.funcs[f]? = some fn ∧ aresults P fr h.toA fn.results.toList = some vs ∧ packResults vs = v ∧ h' = h := by
  unfold cres at hr
  split at hr
  · rename_i fn hfn
    split at hr
    · rename_i s hs
      split at hr
      · rename_i vs hvs
        simp only [forceV_eq, Option.some.injEq, Prod.mk.injEq] at hr
        rw [aresults_small (vlist_ok hf hs)] at hvs
        exact ⟨fn, vs, hfn, hvs, hr.1, hr.2.symm⟩
      · cases hr
    · cases hr
  · cases hr

/-- What the interpreter says holds. J: what its answer is worth. -/
def Runs {α : Type} (P : Program) (rc : RecT α) (J : FuncId → Nat → α → (Value → AHeap → Prop) → Prop) : Prop :=
  ∀ (f : FuncId) (N : Nat) (gds : List (Option Tmp)) (L : List SOp) (k : List Item) (fr : Fr) (T : VT) (h : CH) (a : α) (R : Value → AHeap → Prop),
    FT fr T → rc f N gds L k T h = some a → J f N a R → (L = [] → AGo P .top f N k R fr h.toA) ∧ AReg P .top f N gds L k R fr h.toA
def JR : FuncId → Nat → Value × CH → (Value → AHeap → Prop) → Prop := fun _ _ a R => R a.1 a.2.toA
def JS (P : Program) : FuncId → Nat → CState → (Value → AHeap → Prop) → Prop := fun f N a R => ∀ fr, FT fr a.T → AGo P .top f N a.k R fr a.h.toA

theorem center_ok {P : Program} {tab : List Known} (ht : ∀ e ∈ tab, e.Ok P) {rc : Rec} (ih : Runs P rc JR) : CallOk P (center tab rc P) := by
  intro g vs h1 v1 h2 hc
  unfold center at hc
  split at hc
  · rename_i e he
    obtain ⟨hm, rfl, rfl⟩ := tfind_ok he
    exact cknown_ok (ht e hm) hc
  split at hc
  · rename_i fn hb hfn
    split at hc
    · rename_i c hbody hlen
      rw [venterK_eq] at hc
      exact ⟨hb, ACalls.enter hfn hbody (by simpa using hlen) ((ih _ _ _ _ _ _ _ _ _ (fun v σ => v = v1 ∧ σ = h2.toA) (venter_ft _ _) hc ⟨rfl, rfl⟩).1 rfl)⟩
    · cases hc
  · cases hc

section
variable {α : Type} {P : Program} {keys : List TypeId} {call : Callee} {rc : RecT α} {J : FuncId → Nat → α → (Value → AHeap → Prop) → Prop}

theorem cop_ok (hk : ∀ t ∈ keys, KeyOk P t) (hcall : CallOk P call) (ih : Runs P rc J) {f : FuncId} {N : Nat} {gds : List (Option Tmp)} {o : SOp} {L : List SOp} {k : List Item} {fr : Fr} {T : VT} {h : CH} {a : α} {R : Value → AHeap → Prop}
    (hf : FT fr T) (hr : cop call rc P keys f N gds o L k T h = some a) (hJ : J f N a R) : AReg P .top f N gds (o :: L) k R fr h.toA := by
  unfold cop at hr
  split at hr
  · rename_i h1 h2
    rw [cdstK_eq] at hr
    refine AReg.op (σ' := h.toA) (fr' := adst fr o.dst (.tuple #[])) ?_ (ih f N gds L k _ _ h a R (cdst_ft hf o.dst _) hr hJ).2
    simp only [aop, h1, vwanted_ok hf h2]
  · rename_i h1 h2
    split at hr
    case h_2 => cases hr
    rename_i s hs
    split at hr
    · split at hr
      · rename_i g vs hg
        split at hr
        · rename_i v2 h2' hc
          rw [cdstK_eq] at hr
          obtain ⟨hb, hcl⟩ := hcall _ _ _ _ _ hc
          refine AReg.call h1 (vwanted_ok hf h2) (by rw [← acallee_small hf hs]; exact hg) hb (hcl.mono fun v1 σ1 hh => ?_)
          obtain ⟨rfl, rfl⟩ := hh
          exact (ih f N gds L k _ _ h2' a R (cdst_ft hf o.dst _) hr hJ).2
        · cases hr
      · cases hr
    · rw [forceN_eq] at hr
      split at hr
      · rename_i u σ hex
        simp only [forceV_eq, cupd_eq, cdstK_eq] at hr
        have hex' := cexec_ok hk hex
        refine AReg.op (σ' := CH.toA ⟨h.next + 1, cupd' σ.blk (touch h.next s o.op) h.bs⟩) (fr' := adst fr o.dst u) ?_ (ih f N gds L k _ _ _ a R (cdst_ft hf o.dst _) hr hJ).2
        rw [← upd_ok (h := ⟨h.next + 1, h.bs⟩) hex']
        have hex2 : aexec P (h.toA.bump 1) h.toA.next fr o.op = some (u, σ) := by rw [← aexec_small hf hs]; exact hex'
        simp only [aop, h1, vwanted_ok hf h2, hex2]
      · cases hr
  · cases hr

theorem citem_ok (hk : ∀ t ∈ keys, KeyOk P t) (hm : P.follows .mixedOrders = true) (hcall : CallOk P call) (ih : Runs P rc J) {ret : FuncId → VT → CH → Option α} {f : FuncId} {N : Nat} {i : Item} {k : List Item} {fr : Fr} {T : VT} {h : CH} {a : α} {R : Value → AHeap → Prop}
    (hret : ret f T h = some a → ∃ fn vs, P.funcs[f]? = some fn ∧ aresults P fr h.toA fn.results.toList = some vs ∧ R (packResults vs) h.toA)
    (hf : FT fr T) (hr : citem call rc ret P keys f N i k T h = some a) (hJ : J f N a R) : AGo P .top f N (i :: k) R fr h.toA := by
  unfold citem at hr
  split at hr
  · exact AGo.inBlock ((ih _ _ _ _ _ _ _ _ _ _ hf hr hJ).1 rfl)
  · exact AGo.inScope ((ih _ _ _ _ _ _ _ _ _ _ hf hr hJ).1 rfl)
  · exact AGo.inLoop ((ih _ _ _ _ _ _ _ _ _ _ hf hr hJ).1 rfl)
  · unfold ccode at hr
    split at hr
    · exact AGo.skip ((ih _ _ _ _ _ _ _ _ _ _ hf hr hJ).1 rfl)
    · exact AGo.label ((ih _ _ _ _ _ _ _ _ _ _ hf hr hJ).1 rfl)
    · exact AGo.seq ((ih _ _ _ _ _ _ _ _ _ _ hf hr hJ).1 rfl)
    · exact AGo.block ((ih _ _ _ _ _ _ _ _ _ _ hf hr hJ).1 rfl)
    · exact AGo.scope ((ih _ _ _ _ _ _ _ _ _ _ hf hr hJ).1 rfl)
    · exact AGo.loop ((ih _ _ _ _ _ _ _ _ _ _ hf hr hJ).1 rfl)
    · split at hr
      · rename_i hx; exact AGo.exit hx ((ih _ _ _ _ _ _ _ _ _ _ hf hr hJ).1 rfl)
      · cases hr
    · split at hr
      · rename_i hx; exact AGo.gotoL hx ((ih _ _ _ _ _ _ _ _ _ _ hf hr hJ).1 rfl)
      · cases hr
    · rename_i c x y
      have he : ∀ b, veval T c = some (.bool b) → aeval fr c = some (.bool b) := by
        intro b hb
        cases c <;> simp only [veval, reduceCtorEq] at hb
        · exact hf _ _ hb
        · simp only [aeval]; cases hb; rfl
      split at hr
      · rename_i hx; exact AGo.condT (he _ hx) ((ih _ _ _ _ _ _ _ _ _ _ hf hr hJ).1 rfl)
      · rename_i hx; exact AGo.condF (he _ hx) ((ih _ _ _ _ _ _ _ _ _ _ hf hr hJ).1 rfl)
      · cases hr
    · obtain ⟨fn, vs, hfn, hvs, hR⟩ := hret hr
      exact AGo.ret hfn hvs hR
    · rename_i id ops
      have := (ih _ _ _ _ _ _ _ _ _ _ hf hr hJ).2
      have hh := AGo.code (id := id) (l := ops.toList) rfl rfl this
      rwa [Array.toArray_toList] at hh
    · rename_i id ops
      unfold cregion at hr
      split at hr
      · rename_i hB
        simp only [forceN_eq] at hr
        have hB' : drawB ops.toList.toArray (stagesOf ops).1 (stagesOf ops).2 = true := by rw [Array.toArray_toList]; exact hB
        have hh := AGo.draw (P := P) (ro := .top) (f := f) (N := N) (R := R) (k := k) (fr := fr) (σ := h.toA) (id := id) (l := ops.toList) (stagesOf ops).1 (stagesOf ops).2 hm hB' rfl rfl ?_
        · rwa [Array.toArray_toList] at hh
        · refine cdraw_ok hk hcall ?_ _ _ _ fr T ⟨h.next + ops.toList.length, h.bs⟩ hf hr
          intro fr1 T1 h1 hf1 hr1
          exact (ih _ _ _ _ _ _ _ _ _ _ hf1 hr1 hJ).1 rfl
      · cases hr
    · cases hr
  · cases hr
end

theorem crun_ok {P : Program} {keys : List TypeId} (hk : ∀ t ∈ keys, KeyOk P t) (hm : P.follows .mixedOrders = true) {tab : List Known} (ht : ∀ e ∈ tab, e.Ok P) : ∀ (n : Nat), Runs P (crun P keys tab n) JR
  | 0, f, N, gds, L, k, fr, T, h, a, R, hf, hr, hJ => by cases hr
  | n + 1, f, N, gds, L, k, fr, T, h, a, R, hf, hr, hJ => by
    have ih := crun_ok hk hm ht n
    cases L with
    | cons o L => exact ⟨fun e => (by cases e), cop_ok hk (center_ok ht ih) ih hf hr hJ⟩
    | nil =>
      have main : AGo P .top f N k R fr h.toA := by
        cases k with
        | nil =>
          obtain ⟨fn, vs, hfn, hvs, h1, h2⟩ := cres_ok (v := a.1) (h' := a.2) hf hr
          refine AGo.done hfn hvs ?_
          rw [h1, ← h2]; exact hJ
        | cons i k =>
          refine citem_ok hk hm (center_ok ht ih) ih (ret := cres P) (fun hc => ?_) hf hr hJ
          obtain ⟨fn, vs, hfn, hvs, h1, h2⟩ := cres_ok (v := a.1) (h' := a.2) hf hc
          refine ⟨fn, vs, hfn, hvs, ?_⟩
          rw [h1, ← h2]; exact hJ
      exact ⟨fun _ => main, AReg.nil main⟩

theorem crunS_ok {P : Program} {keys : List TypeId} (hk : ∀ t ∈ keys, KeyOk P t) (hm : P.follows .mixedOrders = true) {tab : List Known} (ht : ∀ e ∈ tab, e.Ok P) (m : Nat) : ∀ (n : Nat), Runs P (crunS P keys tab m n) (JS P)
  | 0, f, N, gds, L, k, fr, T, h, a, R, hf, hr, hJ => by cases hr
  | n + 1, f, N, gds, L, k, fr, T, h, a, R, hf, hr, hJ => by
    have ih := crunS_ok hk hm ht m n
    cases L with
    | cons o L => exact ⟨fun e => (by cases e), cop_ok hk (center_ok ht (crun_ok hk hm ht n)) ih hf hr hJ⟩
    | nil =>
      have main : AGo P .top f N k R fr h.toA := by
        have hr : (match Nat.ble k.length m with
          | true => some ⟨k, T, h⟩
          | false => List.rec (motive := fun _ => Option CState) none (fun i k _ => citem (center tab (crun P keys tab n) P) (crunS P keys tab m n) (fun _ _ _ => none) P keys f N i k T h) k) = some a := hr
        split at hr
        · cases hr; exact hJ fr hf
        · cases k with
          | nil => cases hr
          | cons i k => exact citem_ok hk hm (center_ok ht (crun_ok hk hm ht n)) ih (ret := fun _ _ _ => none) (fun hc => by cases hc) hf hr hJ
      exact ⟨fun _ => main, AReg.nil main⟩

/-- A closed call. -/
noncomputable def ccall (P : Program) (keys : List TypeId) (tab : List Known) (n : Nat) (g : FuncId) (vs : List Value) (h : CH) : Option (Value × CH) := center tab (crun P keys tab n) P g vs h
theorem ccall_ok {P : Program} {keys : List TypeId} (hk : ∀ t ∈ keys, KeyOk P t) (hm : P.follows .mixedOrders = true) {tab : List Known} (ht : ∀ e ∈ tab, e.Ok P) {n : Nat} {g : FuncId} {vs : List Value} {h : CH} {v : Value} {h' : CH} (hr : ccall P keys tab n g vs h = some (v, h')) :
    ACalls P g vs h.toA fun v1 σ1 => v1 = v ∧ σ1 = h'.toA := (center_ok ht (crun_ok hk hm ht n) _ _ _ _ _ hr).2
/-- Some of the blocks. -/
noncomputable def subB (l : List (Nat × ABlk)) : List (Nat × ABlk) → Bool
  | [] => true
  | (i, x) :: m => eqB (clook l i) (some x) && subB l m

theorem subB_ok {l : List (Nat × ABlk)} : ∀ {m : List (Nat × ABlk)}, subB l m = true → ∀ b x, clook m b = some x → clook l b = some x
  | [], _, b, x, h => by cases h
  | (i, y) :: m, h, b, x, hx => by
    simp only [subB, Bool.and_eq_true] at h
    rw [clook_cons] at hx
    split at hx
    · rename_i hb
      have hb := Nat.eq_of_beq_eq_true hb
      subst hb; cases hx
      exact eqB_ok h.1
    · exact subB_ok h.2 b x hx
/-- Is this what the call comes to? Of the blocks some are looked at. -/
noncomputable def isKnown (P : Program) (keys : List TypeId) (tab : List Known) (n : Nat) (e : Known) : Bool :=
  match e.vs.all closedV && hasBody P e.g with
  | true => match ccall P keys tab n e.g e.vs ⟨0, []⟩ with
    | some (v, ⟨nx, bs⟩) => eqV 4 v e.v && Nat.beq nx e.n && subB bs e.bs
    | none => false
  | false => false
/-- One more known call. -/
theorem Known.mk_ok {P : Program} {keys : List TypeId} (hk : ∀ t ∈ keys, KeyOk P t) (hm : P.follows .mixedOrders = true) {tab : List Known} (ht : ∀ e ∈ tab, e.Ok P) {n : Nat} {e : Known} (h : isKnown P keys tab n e = true) : e.Ok P := by
  unfold isKnown at h
  split at h
  case h_2 => cases h
  rename_i h1
  simp only [Bool.and_eq_true] at h1
  split at h
  case h_2 => cases h
  rename_i v nx bs hr
  simp only [Bool.and_eq_true] at h
  refine ⟨h1.1, h1.2, (ccall_ok hk hm ht hr).sub fun v1 σ1 hh => ?_⟩
  obtain ⟨rfl, rfl⟩ := hh
  exact ⟨CH.toA ⟨e.n, e.bs⟩, fun b x hx => subB_ok h.2 b x hx, (Nat.eq_of_beq_eq_true h.1.2).symm, eqV_ok 4 _ _ h.1.1, rfl⟩
/-- A run up to where m items are left. -/
theorem AGo.upto {P : Program} {keys : List TypeId} (hk : ∀ t ∈ keys, KeyOk P t) (hm : P.follows .mixedOrders = true) {tab : List Known} (ht : ∀ e ∈ tab, e.Ok P) {f : FuncId} {N m n : Nat} {k k' : List Item} {fr : Fr} {T T' : VT} {h h' : CH} {R : Value → AHeap → Prop}
    (hf : FT fr T) (hr : crunS P keys tab m n f N [] [] k T h = some ⟨k', T', h'⟩) (hgo : ∀ fr', FT fr' T' → AGo P .top f N k' R fr' h'.toA) : AGo P .top f N k R fr h.toA :=
  (crunS_ok hk hm ht m n f N [] [] k fr T h ⟨k', T', h'⟩ R hf hr hgo).1 rfl
end Go.Abs

