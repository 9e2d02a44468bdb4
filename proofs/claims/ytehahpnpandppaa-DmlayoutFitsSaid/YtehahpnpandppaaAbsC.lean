/- THE ABSTRACT MACHINE, part C: heaps that change, and the worlds that follow them. -/
import Derived.Test.YtehahpnpandppaaAbsB
set_option linter.unusedVariables false
set_option linter.unusedSimpArgs false
namespace Go.Abs
open Go

theorem lt_of_cell {w : World} {g o : Nat} {v : Value} (h : w.cell? ⟨g, o, none⟩ = some v) : g < w.heap.size := World.block_lt_of_cell? w ⟨g, o, none⟩ h
theorem cell_of_heap {w w' : World} {g o : Nat} (h : w'.heap[g]? = w.heap[g]?) : w'.cell? ⟨g, o, none⟩ = w.cell? ⟨g, o, none⟩ := World.cell?_of_block (a := ⟨g, o, none⟩) h

theorem BlkOk.lt {P : Program} {φ : BMap} {w : World} {B : Nat} {p : Pl} {x : ABlk} (h : BlkOk P φ w B p x) (hs : x.solid = true) : p.g < w.heap.size := by
  cases x with
  | map k m => obtain ⟨_, es, c, he, _⟩ := h; exact (Array.getElem?_eq_some_iff.1 he).1
  | cells cs e rw =>
    obtain ⟨_, hc, _, hr⟩ := h
    cases hrw : rw with
    | true => obtain ⟨_, _, cur, he, _⟩ := hr hrw; exact (Array.getElem?_eq_some_iff.1 he).1
    | false =>
      subst hrw
      cases cs with
      | nil => simp [ABlk.solid] at hs
      | cons v vs => obtain ⟨v', hv, _⟩ := hc 0 v rfl; exact lt_of_cell hv

/-- A block whose place has not changed. -/
theorem BlkOk.keep {P : Program} {φ φ' : BMap} {w w' : World} {B : Nat} {p : Pl} {x : ABlk} (h : BlkOk P φ w B p x) (hφ : Ext φ φ') (hw : x.solid = true → w'.heap[p.g]? = w.heap[p.g]?) : BlkOk P φ' w' B p x := by
  cases x with
  | map k m =>
    obtain ⟨h0, es, c, he, h1, h2, h3, h4⟩ := h
    exact ⟨h0, es, c, by rw [hw rfl]; exact he, h1, h2, fun e he => let ⟨v, a, b⟩ := h3 e he; ⟨v, a, b.ext hφ⟩, h4⟩
  | cells cs e rw =>
    obtain ⟨h0, hc, hs, hr⟩ := h
    refine ⟨h0, fun i v hv => ?_, hs, fun hrw => ?_⟩
    · obtain ⟨v', a, b⟩ := hc i v hv
      refine ⟨v', ?_, b.ext hφ⟩
      rw [cell_of_heap (hw ?_)]; exact a
      cases cs with
      | nil => simp at hv
      | cons u us => simp [ABlk.solid]
    · obtain ⟨a, b, cur, hcur, c⟩ := hr hrw
      exact ⟨a, b, cur, by rw [hw (by simp [ABlk.solid, hrw])]; exact hcur, c⟩

/-- What one operation does: only the place of its own new block is laid. -/
structure OStep (id : Nat) (φ : BMap) (σ : AHeap) (w : World) (φ' : BMap) (σ' : AHeap) (w' : World) : Prop where
  ext : Ext φ φ'
  old : ∀ b, b ≠ id → φ' b = φ b
  next : σ'.next = σ.next
  os : w'.os = w.os
  tape : w'.tape = w.tape
  output : w'.output = w.output
  size : w.heap.size ≤ w'.heap.size
  kept : ∀ g, g < w.heap.size → ¬ Owns φ σ g → w'.heap[g]? = w.heap[g]?
  own : ∀ g, g < w.heap.size → Owns φ' σ' g → Owns φ σ g
  dead : ∀ b, b ≠ id → σ.blk b = none → σ'.blk b = none
  ro : ∀ b x, σ'.blk b = some x → x.rw = false → σ.blk b = some x

theorem OStep.refl (id : Nat) (φ : BMap) (σ : AHeap) (w : World) : OStep id φ σ w φ σ w :=
  ⟨.refl _, fun _ _ => rfl, rfl, rfl, rfl, rfl, Nat.le_refl _, fun _ _ _ => rfl, fun _ _ h => h, fun _ _ h => h, fun _ _ h _ => h⟩

def lay (φ : BMap) (id : Nat) (p : Pl) : BMap := fun b => if b = id then some p else φ b
theorem lay_ext {φ : BMap} {id : Nat} {p : Pl} (h : φ id = none) : Ext φ (lay φ id p) := by
  intro b q hb
  unfold lay
  split
  · subst b; rw [h] at hb; cases hb
  · exact hb
theorem lay_same (φ : BMap) (id : Nat) (p : Pl) : lay φ id p id = some p := by simp [lay]
theorem lay_other (φ : BMap) {id b : Nat} (p : Pl) (h : b ≠ id) : lay φ id p b = φ b := by simp [lay, h]

/-- A NEW BLOCK (of whatever kind), behind all others. -/
theorem RH.alloc {P : Program} {φ : BMap} {σ : AHeap} {w w' : World} {B id : Nat} {x : ABlk} {obj : Obj} {p : Pl} (hr : RH P φ σ w B) (hid : φ id = none) (hlt : id < σ.next)
    (hw : w'.heap = w.heap.push obj) (hos : w'.os = w.os) (htape : w'.tape = w.tape) (hout : w'.output = w.output) (hp : p.g = w.heap.size) (hxrw : x.rw = true)
    (hx : BlkOk P (lay φ id p) w' B p x) :
    RH P (lay φ id p) (σ.set id x) w' B ∧ OStep id φ σ w (lay φ id p) (σ.set id x) w' := by
  have hext : Ext φ (lay φ id p) := lay_ext hid
  have hsz : w'.heap.size = w.heap.size + 1 := by rw [hw]; simp
  have hold : ∀ g, g < w.heap.size → w'.heap[g]? = w.heap[g]? := fun g hg => by rw [hw, Array.getElem?_push, if_neg (by omega)]
  have hlive : ∀ b y, b ≠ id → (σ.set id x).blk b = some y → ∃ q, φ b = some q ∧ BlkOk P φ w B q y := fun b y hb hy => by
    rw [AHeap.set_blk, if_neg hb] at hy; exact hr.dom b y hy
  refine ⟨⟨by rw [hsz]; exact Nat.le_succ_of_le hr.base, fun b hb => ?_, fun b y hy => ?_, fun b c y z q r hy hz hrw hsol hq hrr he => ?_⟩, ⟨hext, fun b hb => lay_other _ _ hb, rfl, hos, htape, hout, by omega, fun g hg _ => hold g hg, fun g hg ho => ?_, fun b hb hd => by rw [AHeap.set_blk, if_neg hb]; exact hd, fun b y hy hyr => ?_⟩⟩
  · have : σ.next ≤ b := hb
    rw [lay_other _ _ (by omega)]; exact hr.fresh b hb
  · by_cases hb : b = id
    · subst hb; rw [AHeap.set_blk, if_pos rfl] at hy; cases hy; exact ⟨p, lay_same _ _ _, hx⟩
    · obtain ⟨q, hq, hok⟩ := hlive b y hb hy
      exact ⟨q, by rw [lay_other _ _ hb]; exact hq, hok.keep hext (fun hs => hold _ (hok.lt hs))⟩
  · have solid : ∀ {y : ABlk}, y.rw = true → y.solid = true := fun {y} h => by cases y <;> simp_all [ABlk.rw, ABlk.solid]
    by_cases hb : b = id <;> by_cases hc : c = id
    · rw [hb, hc]
    · subst hb
      obtain ⟨r', hr', hok⟩ := hlive c z hc hz
      rw [lay_same] at hq; cases hq
      rw [lay_other _ _ hc, hr'] at hrr; cases hrr
      have := hok.lt hsol; omega
    · subst hc
      obtain ⟨q', hq', hok⟩ := hlive b y hb hy
      rw [lay_same] at hrr; cases hrr
      rw [lay_other _ _ hb, hq'] at hq; cases hq
      have := hok.lt (solid hrw); omega
    · rw [lay_other _ _ hb] at hq
      rw [lay_other _ _ hc] at hrr
      rw [AHeap.set_blk, if_neg hb] at hy
      rw [AHeap.set_blk, if_neg hc] at hz
      exact hr.inj b c y z q r hy hz hrw hsol hq hrr he
  · obtain ⟨b, y, q, hy, hrw, hq, hg'⟩ := ho
    by_cases hb : b = id
    · subst hb; rw [lay_same] at hq; cases hq; omega
    · rw [lay_other _ _ hb] at hq
      rw [AHeap.set_blk, if_neg hb] at hy
      exact ⟨b, y, q, hy, hrw, hq, hg'⟩
  · rw [AHeap.set_blk] at hy
    split at hy
    · cases hy; rw [hxrw] at hyr; cases hyr
    · exact hy

theorem solid_of_rw {y : ABlk} (h : y.rw = true) : y.solid = true := by cases y <;> simp_all [ABlk.rw, ABlk.solid]

/-- A BLOCK IS WRITTEN IN PLACE. -/
theorem RH.write {P : Program} {φ : BMap} {σ : AHeap} {w w' : World} {B id b : Nat} {x y : ABlk} {p : Pl} (hr : RH P φ σ w B) (hb : σ.blk b = some x) (hrw : x.rw = true) (hp : φ b = some p) (hyrw : y.rw = true)
    (hw : ∀ g, g ≠ p.g → w'.heap[g]? = w.heap[g]?) (hsz : w'.heap.size = w.heap.size) (hos : w'.os = w.os) (htape : w'.tape = w.tape) (hout : w'.output = w.output)
    (hy : BlkOk P φ w' B p y) :
    RH P φ (σ.set b y) w' B ∧ OStep id φ σ w φ (σ.set b y) w' := by
  have hlive : ∀ c z, (σ.set b y).blk c = some z → ∃ z', σ.blk c = some z' ∧ (z.rw = true → z'.rw = true) ∧ (z.solid = true → z'.solid = true) := fun c z hz => by
    rw [AHeap.set_blk] at hz
    split at hz
    · rename_i e; subst e; exact ⟨x, hb, fun _ => hrw, fun _ => solid_of_rw hrw⟩
    · exact ⟨z, hz, fun h => h, fun h => h⟩
  refine ⟨⟨by rw [hsz]; exact hr.base, hr.fresh, fun c z hz => ?_, fun c d u v q r hu hv hurw hsol hq hrr he => ?_⟩, ⟨.refl _, fun _ _ => rfl, rfl, hos, htape, hout, Nat.le_of_eq hsz.symm, fun g hg hno => ?_, fun g hg ho => ?_, fun c _ hd => ?_, fun c z hz hzr => ?_⟩⟩
  · rw [AHeap.set_blk] at hz
    split at hz
    · rename_i e; subst e; cases hz; exact ⟨p, hp, hy⟩
    · rename_i e
      obtain ⟨q, hq, hok⟩ := hr.dom c z hz
      refine ⟨q, hq, hok.keep (.refl _) (fun hs => hw _ (fun e' => e ?_))⟩
      exact (hr.inj b c x z p q hb hz hrw hs hp hq e'.symm).symm
  · obtain ⟨u', hu', h1, _⟩ := hlive c u hu
    obtain ⟨v', hv', _, h2⟩ := hlive d v hv
    exact hr.inj c d u' v' q r hu' hv' (h1 hurw) (h2 hsol) hq hrr he
  · refine hw g (fun e => hno ⟨b, x, p, hb, hrw, hp, e.symm⟩)
  · obtain ⟨c, z, q, hz, hzrw, hq, hg'⟩ := ho
    obtain ⟨z', hz', h1, _⟩ := hlive c z hz
    exact ⟨c, z', q, hz', h1 hzrw, hq, hg'⟩
  · rw [AHeap.set_blk]; split
    · rename_i e; subst e; rw [hb] at hd; cases hd
    · exact hd
  · rw [AHeap.set_blk] at hz; split at hz
    · cases hz; rw [hyrw] at hzr; cases hzr
    · exact hz

/-- A BLOCK IS USED UP, AND ANOTHER TAKES ITS PLACE (append with room). -/
theorem RH.replace {P : Program} {φ : BMap} {σ : AHeap} {w w' : World} {B id b : Nat} {x y : ABlk} {p q : Pl} (hr : RH P φ σ w B) (hb : σ.blk b = some x) (hrw : x.rw = true) (hp : φ b = some p) (hyrw : y.rw = true)
    (hid : φ id = none) (hlt : id < σ.next) (hq : q.g = p.g)
    (hw : ∀ g, g ≠ p.g → w'.heap[g]? = w.heap[g]?) (hsz : w'.heap.size = w.heap.size) (hos : w'.os = w.os) (htape : w'.tape = w.tape) (hout : w'.output = w.output)
    (hy : BlkOk P (lay φ id q) w' B q y) :
    RH P (lay φ id q) ((σ.del b).set id y) w' B ∧ OStep id φ σ w (lay φ id q) ((σ.del b).set id y) w' := by
  have hext : Ext φ (lay φ id q) := lay_ext hid
  have hne : b ≠ id := fun e => by subst e; rw [hid] at hp; cases hp
  have hold : ∀ c z, c ≠ id → ((σ.del b).set id y).blk c = some z → c ≠ b ∧ σ.blk c = some z := fun c z hc hz => by
    rw [AHeap.set_blk, if_neg hc, AHeap.del_blk] at hz
    split at hz
    · cases hz
    · rename_i e; exact ⟨e, hz⟩
  refine ⟨⟨by rw [hsz]; exact hr.base, fun c hc => ?_, fun c z hz => ?_, fun c d u v s r hu hv hurw hsol hs hrr he => ?_⟩, ⟨hext, fun c hc => lay_other _ _ hc, rfl, hos, htape, hout, Nat.le_of_eq hsz.symm, fun g hg hno => ?_, fun g hg ho => ?_, fun c hc hd => ?_, fun c z hz hzr => ?_⟩⟩
  · have : σ.next ≤ c := hc
    rw [lay_other _ _ (by omega)]; exact hr.fresh c hc
  · by_cases hc : c = id
    · subst hc; rw [AHeap.set_blk, if_pos rfl] at hz; cases hz; exact ⟨q, lay_same _ _ _, hy⟩
    · obtain ⟨hcb, hz'⟩ := hold c z hc hz
      obtain ⟨s, hs, hok⟩ := hr.dom c z hz'
      refine ⟨s, by rw [lay_other _ _ hc]; exact hs, hok.keep hext (fun hsol => hw _ (fun e => hcb ?_))⟩
      exact (hr.inj b c x z p s hb hz' hrw hsol hp hs e.symm).symm
  · by_cases hc : c = id <;> by_cases hd : d = id
    · rw [hc, hd]
    · subst hc
      rw [lay_same] at hs; cases hs
      obtain ⟨hdb, hv'⟩ := hold d v hd hv
      rw [lay_other _ _ hd] at hrr
      exact absurd (hr.inj b d x v p r hb hv' hrw hsol hp hrr (by omega)) (fun e => hdb e.symm)
    · subst hd
      rw [lay_same] at hrr; cases hrr
      obtain ⟨hcb, hu'⟩ := hold c u hc hu
      rw [lay_other _ _ hc] at hs
      exact absurd (hr.inj b c x u p s hb hu' hrw (solid_of_rw hurw) hp hs (by omega)) (fun e => hcb e.symm)
    · obtain ⟨_, hu'⟩ := hold c u hc hu
      obtain ⟨_, hv'⟩ := hold d v hd hv
      rw [lay_other _ _ hc] at hs
      rw [lay_other _ _ hd] at hrr
      exact hr.inj c d u v s r hu' hv' hurw hsol hs hrr he
  · exact hw g (fun e => hno ⟨b, x, p, hb, hrw, hp, e.symm⟩)
  · obtain ⟨c, z, s, hz, hzrw, hs, hg'⟩ := ho
    by_cases hc : c = id
    · subst hc; rw [lay_same] at hs; cases hs
      exact ⟨b, x, p, hb, hrw, hp, by omega⟩
    · obtain ⟨_, hz'⟩ := hold c z hc hz
      rw [lay_other _ _ hc] at hs
      exact ⟨c, z, s, hz', hzrw, hs, hg'⟩
  · rw [AHeap.set_blk, if_neg hc, AHeap.del_blk]; split
    · rfl
    · exact hd
  · by_cases hc : c = id
    · subst hc; rw [AHeap.set_blk, if_pos rfl] at hz; cases hz; rw [hyrw] at hzr; cases hzr
    · exact (hold c z hc hz).2

/-- Blocks may be forgotten. -/
theorem RH.del {P : Program} {φ : BMap} {σ : AHeap} {w : World} {B b : Nat} (hr : RH P φ σ w B) : RH P φ (σ.del b) w B := by
  have hold : ∀ c z, (σ.del b).blk c = some z → σ.blk c = some z := fun c z hz => by
    rw [AHeap.del_blk] at hz; split at hz
    · cases hz
    · exact hz
  exact ⟨hr.base, hr.fresh, fun c z hz => hr.dom c z (hold c z hz), fun c d u v q r hu hv => hr.inj c d u v q r (hold c u hu) (hold d v hv)⟩

theorem OStep.del {id b : Nat} {φ φ' : BMap} {σ σ' : AHeap} {w w' : World} (h : OStep id φ (σ.del b) w φ' σ' w') : OStep id φ σ w φ' σ' w' where
  ext := h.ext
  old := h.old
  next := h.next
  os := h.os
  tape := h.tape
  output := h.output
  size := h.size
  kept g hg hno := h.kept g hg (fun ⟨c, x, p, hx, r⟩ => hno ⟨c, x, p, by rw [AHeap.del_blk] at hx; split at hx; cases hx; exact hx, r⟩)
  own g hg ho := let ⟨c, x, p, hx, r⟩ := h.own g hg ho; ⟨c, x, p, by rw [AHeap.del_blk] at hx; split at hx; cases hx; exact hx, r⟩
  dead c hc hd := h.dead c hc (by rw [AHeap.del_blk]; split; rfl; exact hd)
  ro c x hx hr := by have := h.ro c x hx hr; rw [AHeap.del_blk] at this; split at this; cases this; exact this

theorem RH.bump {P : Program} {φ : BMap} {σ : AHeap} {w : World} {B : Nat} (hr : RH P φ σ w B) (n : Nat) : RH P φ (σ.bump n) w B :=
  ⟨hr.base, fun b hb => hr.fresh b (by simp only [AHeap.bump_next] at hb; omega), hr.dom, hr.inj⟩

end Go.Abs
