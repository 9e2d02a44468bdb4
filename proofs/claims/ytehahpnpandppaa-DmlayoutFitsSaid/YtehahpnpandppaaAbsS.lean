/- THE ABSTRACT MACHINE, part S: what a closed run says, said of any heap. -/
import Derived.Test.YtehahpnpandppaaAbsR
set_option linter.unusedVariables false
set_option linter.unusedSimpArgs false
namespace Go.Abs
open Go

/-- The blocks of a value, renamed by n. -/
inductive Sh (n : Nat) : Value → Value → Prop
  | bool (b) : Sh n (.bool b) (.bool b)
  | int (k m) : Sh n (.int k m) (.int k m)
  | string (s) : Sh n (.string s) (.string s)
  | nilptr : Sh n (.pointer none) (.pointer none)
  | ptr (b o) : Sh n (.pointer (some ⟨b, o, none⟩)) (.pointer (some ⟨b + n, o, none⟩))
  | nilslice : Sh n (.slice none 0 0) (.slice none 0 0)
  | slice (b o l c) : Sh n (.slice (some ⟨b, o, none⟩) l c) (.slice (some ⟨b + n, o, none⟩) l c)
  | nilmap : Sh n (.map none) (.map none)
  | nilFunc : Sh n .nilFunc .nilFunc
  | nilIface : Sh n .nilIface .nilIface
  | agg {xs ys : List Value} (h : xs.length = ys.length) (h' : ∀ (i : Nat) (v u : Value), xs[i]? = some v → ys[i]? = some u → Sh n v u) (ho : Ones ys) : Sh n (.agg xs.toArray) (.agg ys.toArray)
  | tuple {xs ys : List Value} (h : xs.length = ys.length) (h' : ∀ (i : Nat) (v u : Value), xs[i]? = some v → ys[i]? = some u → Sh n v u) : Sh n (.tuple xs.toArray) (.tuple ys.toArray)

def ShL (n : Nat) (xs ys : List Value) : Prop := xs.length = ys.length ∧ ∀ (i : Nat) (v u : Value), xs[i]? = some v → ys[i]? = some u → Sh n v u
theorem ShL.nil (n : Nat) : ShL n [] [] := ⟨rfl, fun i v u h => by simp at h⟩
theorem ShL.cons {n : Nat} {x y : Value} {xs ys : List Value} (h : Sh n x y) (hs : ShL n xs ys) : ShL n (x :: xs) (y :: ys) := by
  refine ⟨by simp [hs.1], fun i v u a b => ?_⟩
  cases i with
  | zero => simp at a b; subst a; subst b; exact h
  | succ i => exact hs.2 i v u (by simpa using a) (by simpa using b)

/-- The place map behind the first n blocks. -/
def glue (n : Nat) (φ φ1 : BMap) : BMap := fun b => if b < n then φ b else φ1 (b - n)

theorem RV.sh {n : Nat} {φ φ1 : BMap} {v v' : Value} (h : RV φ1 v v') : ∀ {u : Value}, Sh n v u → RV (glue n φ φ1) u v' := by
  have hg : ∀ b p, φ1 b = some p → glue n φ φ1 (b + n) = some p := fun b p hb => by
    unfold glue; rw [if_neg (by omega), Nat.add_sub_cancel]; exact hb
  induction h with
  | bool => intro u hu; cases hu; exact .bool _
  | int => intro u hu; cases hu; exact .int _ _
  | string => intro u hu; cases hu; exact .string _
  | nilptr => intro u hu; cases hu; exact .nilptr
  | ptr h => intro u hu; cases hu; exact .ptr (hg _ _ h)
  | nilslice => intro u hu; cases hu; exact .nilslice
  | slice h hl hc hr => intro u hu; cases hu; exact .slice (hg _ _ h) hl hc hr
  | nilmap => intro u hu; cases hu; exact .nilmap
  | map => intro u hu; cases hu
  | nilFunc => intro u hu; cases hu; exact .nilFunc
  | nilIface => intro u hu; cases hu; exact .nilIface
  | func => intro u hu; cases hu
  | agg hx _ ho ih =>
    intro u hu
    cases hu with
    | agg h h' ho' =>
      rename_i xs ys _
      refine .agg (by simp at hx; simp; omega) (fun i a b ha hb => ?_) (fun i a ha => ho' i a (by simpa using ha))
      have hi : i < xs.length := by
        have := (Array.getElem?_eq_some_iff.1 ha).1; simp at this; omega
      exact ih i xs[i] b (by simp [List.getElem?_eq_getElem hi]) hb (h' i xs[i] a (List.getElem?_eq_getElem hi) (by simpa using ha))
  | tuple hx _ ih =>
    intro u hu
    cases hu with
    | tuple h h' =>
      rename_i xs ys _
      refine .tuple (by simp at hx; simp; omega) (fun i a b ha hb => ?_)
      have hi : i < xs.length := by
        have := (Array.getElem?_eq_some_iff.1 ha).1; simp at this; omega
      exact ih i xs[i] b (by simp [List.getElem?_eq_getElem hi]) hb (h' i xs[i] a (List.getElem?_eq_getElem hi) (by simpa using ha))

inductive ShB (n : Nat) : Option ABlk → Option ABlk → Prop
  | none : ShB n none none
  | cells {xs ys : List Value} (e rw) (h : ShL n xs ys) (ho : Ones ys) : ShB n (some (.cells xs e rw)) (some (.cells ys e rw))

theorem BlkOk.sh {P : Program} {n : Nat} {φ φ1 : BMap} {w : World} {B : Nat} {p : Pl} {x y : ABlk} (h : BlkOk P φ1 w B p x) (hs : ShB n (some x) (some y)) : BlkOk P (glue n φ φ1) w B p y := by
  cases hs with
  | @cells xs ys e rw hl ho =>
    obtain ⟨_, h2, h3, h4⟩ := h
    refine ⟨ho, fun i v hv => ?_, h3, fun hr => ?_⟩
    · obtain ⟨hlen, hl⟩ := hl
      have hi : i < xs.length := by
        have := (List.getElem?_eq_some_iff.1 hv).1; omega
      obtain ⟨v', a, b⟩ := h2 i xs[i] (List.getElem?_eq_getElem hi)
      exact ⟨v', a, b.sh (hl i _ _ (List.getElem?_eq_getElem hi) hv)⟩
    · obtain ⟨a, b, cur, c, d, e⟩ := h4 hr
      exact ⟨a, b, cur, c, d, by rw [← hl.1]; exact e⟩

theorem ShB.rw {n : Nat} {x y : ABlk} (h : ShB n (some x) (some y)) : y.rw = x.rw := by cases h; rfl
theorem ShB.solid {n : Nat} {x y : ABlk} (h : ShB n (some x) (some y)) : y.solid = x.solid := by
  cases h with
  | @cells xs ys e rw hl ho =>
    simp only [ABlk.solid]
    congr 2
    have := hl.1
    cases xs <;> cases ys <;> simp_all

def empty0 : AHeap := ⟨0, fun _ => none⟩

/-- A CLOSED RUN, FROM ANY HEAP. -/
theorem ACalls.closed {P : Program} {g : FuncId} {args : List Value} {σ : AHeap} {R : Value → AHeap → Prop} {v : Value} {τ : AHeap} (hargs : args.all closedV = true)
    (h : ACalls P g args empty0 fun v1 σ1 => v1 = v ∧ σ1 = τ)
    (hR : ∃ u σ', Sh σ.next v u ∧ σ'.next = σ.next + τ.next ∧ (∀ b, b < σ.next → σ'.blk b = σ.blk b) ∧ (∀ b, ShB σ.next (τ.blk b) (σ'.blk (b + σ.next))) ∧ R u σ') : ACalls P g args σ R := by
  obtain ⟨u, σ', hu, hn, hlow, hhi, hRR⟩ := hR
  intro B φ w args' cs h1 h2
  have h0 : RH P (fun _ => none) empty0 w B := ⟨h1.base, fun _ _ => rfl, fun b x hx => (by cases hx), fun b c x y p q hx => (by cases hx)⟩
  have hcl : ∀ {v v' : Value} {ψ : BMap}, closedV v = true → RV φ v v' → RV ψ v v' := by
    have cell : ∀ {v v' : Value} {ψ : BMap}, closedCell v = true → RV φ v v' → RV ψ v v' := by
      intro v v' ψ hc hr
      cases hr <;> simp [closedCell] at hc
      · exact .bool _
      · exact .int _ _
      · exact .string _
      · exact .nilptr
      · exact .nilslice
      · exact .nilmap
      · exact .nilFunc
      · exact .nilIface
    intro v v' ψ hc hr
    cases hr with
    | agg hx h ho =>
      rename_i xs xs'
      refine .agg hx (fun i a b ha hb => ?_) ho
      refine cell ?_ (h i a b ha hb)
      simp only [closedV, List.all_eq_true] at hc
      exact hc a (by have := Array.mem_of_getElem? ha; simpa using this)
    | _ => exact cell (by simpa [closedV] using hc) (by first | assumption | (constructor <;> assumption))
  have h2' : RVs (fun _ => none) args args' := ⟨h2.1, fun i a b ha hb => hcl (by simp only [List.all_eq_true] at hargs; exact hargs a (List.mem_of_getElem? ha)) (h2.2 i a b ha hb)⟩
  obtain ⟨v1, v', σ1, φ1, w1, w', frm, ⟨rfl, rfl⟩, a2, a3, a4, a5, a6⟩ := h B _ w args' cs h0 h2'
  have hb' : ∀ b x, σ.blk b = some x → b < σ.next := by
    intro b x hx
    obtain ⟨p, hp, _⟩ := h1.dom b x hx
    rcases Nat.lt_or_ge b σ.next with hlt | hge
    · exact hlt
    · rw [h1.fresh b hge] at hp; cases hp
  have no0 : ∀ ψ g, ¬ Owns ψ empty0 g := fun ψ g ⟨b, x, p, hx, _⟩ => by cases hx
  have hnew : ∀ b x, σ'.blk b = some x → b < σ.next ∧ σ.blk b = some x ∨ ∃ c y, b = c + σ.next ∧ σ1.blk c = some y ∧ ShB σ.next (some y) (some x) := by
    intro b x hx
    rcases Nat.lt_or_ge b σ.next with hlt | hge
    · rw [hlow b hlt] at hx; exact .inl ⟨hlt, hx⟩
    · have hbb : b - σ.next + σ.next = b := by omega
      have := hhi (b - σ.next)
      rw [hbb, hx] at this
      cases hτ : σ1.blk (b - σ.next) with
      | none => rw [hτ] at this; cases this
      | some y => rw [hτ] at this; exact .inr ⟨b - σ.next, y, hbb.symm, hτ, this⟩
  have hext : Ext φ (glue σ.next φ φ1) := by
    intro b p hp
    unfold glue
    rw [if_pos]
    · exact hp
    · rcases Nat.lt_or_ge b σ.next with hlt | hge
      · exact hlt
      · rw [h1.fresh b hge] at hp; cases hp
  have hlo : ∀ b, b < σ.next → glue σ.next φ φ1 b = φ b := fun b hb => by unfold glue; rw [if_pos hb]
  have hup : ∀ c, glue σ.next φ φ1 (c + σ.next) = φ1 c := fun c => by unfold glue; rw [if_neg (by omega), Nat.add_sub_cancel]
  have hrwnew : ∀ c y, σ1.blk c = some y → y.rw = true := by
    intro c y hy
    cases hyr : y.rw with
    | true => rfl
    | false => have := a4.ro c y hy hyr; cases this
  have hgnew : ∀ c y p, σ1.blk c = some y → φ1 c = some p → w.heap.size ≤ p.g := by
    intro c y p hy hp
    rcases Nat.lt_or_ge p.g w.heap.size with hlt | hge
    · exact absurd (a4.own p.g hlt ⟨c, y, p, hy, hrwnew c y hy, hp, rfl⟩) (no0 _ _)
    · exact hge
  refine ⟨u, v', σ', glue σ.next φ φ1, w1, w', frm, hRR, a2.sh hu, ⟨a3.base, fun b hb => ?_, fun b x hx => ?_, fun b c x y p q hx hy hrw hsol hp hq he => ?_⟩, ⟨hext, hlo, by omega, a4.os, a4.tape, a4.output, a4.size, fun g hg _ => a4.kept g hg (no0 _ _), fun g hg ho => ?_, fun b hb hd => by rw [hlow b hb]; exact hd, fun b x hx hr => ?_⟩, a5, a6⟩
  · unfold glue
    rw [if_neg (by omega)]
    exact a3.fresh _ (by omega)
  · rcases hnew b x hx with ⟨hlt, hx'⟩ | ⟨c, y, rfl, hy, hsh⟩
    · obtain ⟨p, hp, hok⟩ := h1.dom b x hx'
      exact ⟨p, hext b p hp, hok.keep hext fun hs => a4.kept p.g (hok.lt hs) (no0 _ _)⟩
    · obtain ⟨p, hp, hok⟩ := a3.dom c y hy
      exact ⟨p, by rw [hup]; exact hp, hok.sh hsh⟩
  · rcases hnew b x hx with ⟨hlt, hx'⟩ | ⟨b', x', rfl, hx', hshx⟩ <;> rcases hnew c y hy with ⟨hlt2, hy'⟩ | ⟨c', y', rfl, hy', hshy⟩
    · rw [hlo _ hlt] at hp; rw [hlo _ hlt2] at hq
      exact h1.inj b c x y p q hx' hy' hrw hsol hp hq he
    · rw [hup] at hq
      have hq' := hgnew _ _ _ hy' hq
      rw [hlo _ hlt] at hp
      obtain ⟨p2, hp2, hok⟩ := h1.dom b x hx'
      rw [hp] at hp2; cases hp2
      have := hok.lt (solid_of_rw hrw)
      omega
    · rw [hup] at hp
      have hp' := hgnew _ _ _ hx' hp
      rw [hlo _ hlt2] at hq
      obtain ⟨p2, hp2, hok⟩ := h1.dom c y hy'
      rw [hq] at hp2; cases hp2
      have := hok.lt hsol
      omega
    · rw [hup] at hp hq
      rw [hshx.rw] at hrw; rw [hshy.solid] at hsol
      rw [a3.inj b' c' x' y' p q hx' hy' hrw hsol hp hq he]
  · obtain ⟨b, x, p, hx, hr, hp, rfl⟩ := ho
    rcases hnew b x hx with ⟨hlt, hx'⟩ | ⟨c, y, rfl, hy, hsh⟩
    · rw [hlo _ hlt] at hp; exact ⟨b, x, p, hx', hr, hp, rfl⟩
    · rw [hup] at hp
      have := hgnew _ _ _ hy hp
      omega
  · rcases hnew b x hx with ⟨hlt, hx'⟩ | ⟨c, y, rfl, hy, hsh⟩
    · exact hx'
    · have := hrwnew c y hy
      rw [hsh.rw, this] at hr; cases hr

theorem toA_nil : CH.toA ⟨0, []⟩ = empty0 := rfl

/-- A closed call that answers with a value without blocks: it may be forgotten what it made. -/
theorem Sh.closed (n : Nat) : ∀ {v : Value}, closedCell v = true → Sh n v v := by
  intro v h
  unfold closedCell at h
  split at h
  · exact .bool _
  · exact .int _ _
  · exact .string _
  · exact .nilptr
  · exact .nilslice
  · exact .nilmap
  · exact .nilFunc
  · exact .nilIface
  · cases h
end Go.Abs
