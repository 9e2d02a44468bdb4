/- THE ABSTRACT MACHINE, part D: each operation of the model does what the abstract one says. -/
import Derived.Test.YtehahpnpandppaaAbsC
set_option linter.unusedVariables false
set_option linter.unusedSimpArgs false
namespace Go.Abs
open Go

/-! ### Operands -/
theorem RV.closedCell {φ : BMap} {v : Value} (h : closedCell v = true) : RV φ v v := by
  unfold Abs.closedCell at h
  split at h <;> first | (constructor; done) | (cases h)
theorem ones_closed {xs : List Value} (h : xs.all closedCell = true) : Ones xs := by
  intro i v hv
  have := List.all_eq_true.1 h v (List.mem_of_getElem? hv)
  unfold Abs.closedCell at this
  split at this <;> first | rfl | (cases this)
theorem RVs.closed {φ : BMap} {xs : List Value} (h : xs.all closedCell = true) : RVs φ xs xs := by
  refine ⟨rfl, fun i v v' a b => ?_⟩
  rw [a] at b; cases b
  exact RV.closedCell (List.all_eq_true.1 h v (List.mem_of_getElem? a))
theorem RV.closed {φ : BMap} {v : Value} (h : closedV v = true) : RV φ v v := by
  unfold closedV at h
  split at h
  · rename_i cs
    exact .agg rfl (fun i v v' a b => by rw [a] at b; cases b; exact RV.closedCell (List.all_eq_true.1 h v (by simpa using Array.mem_of_getElem? a)))
      (fun i v a => ones_closed h i v (by simpa using a))
  · exact RV.closedCell h
theorem closed_cells {v : Value} (h : closedV v = true) : v.cells.toList.all closedCell = true := by
  unfold closedV at h
  split at h
  · exact h
  · rename_i hn
    have : v.cells = #[v] := by cases v <;> first | rfl | (rename_i cs; exact absurd rfl (hn cs))
    rw [this]; simpa using h

theorem tmps_getD {tmps : Array Value} {t : Nat} {v : Value} (h : tmps[t]? = some v) : tmps.getD t undef = v := by
  simp [Array.getD_eq_getD_getElem?, h]

theorem aeval_rv {φ : BMap} {N : Nat} {fr : Fr} {a : Act} (hf : RF φ N fr a.tmps) {x : Operand} {v : Value} (h : aeval fr x = some v) : RV φ v (a.eval x) := by
  cases x with
  | tmp t => obtain ⟨v', h1, h2⟩ := hf.get t v h; simp only [Act.eval, tmps_getD h1]; exact h2
  | const c =>
    simp only [aeval] at h
    split at h
    · rename_i hc; cases h; exact RV.closed hc
    · cases h
  | global g => simp [aeval] at h
  | func f => simp only [aeval, Option.some.injEq] at h; subst h; exact .func rfl (fun i v v' a => by simp at a) rfl (fun i v v' a => by simp at a)

theorem aevals_rv {φ : BMap} {N : Nat} {fr : Fr} {a : Act} (hf : RF φ N fr a.tmps) : ∀ {xs : List Operand} {vs : List Value}, aevals fr xs = some vs → RVs φ vs (xs.map a.eval)
  | [], vs, h => by simp only [aevals, Option.some.injEq] at h; subst h; exact .nil φ
  | x :: r, vs, h => by
    simp only [aevals] at h
    split at h
    · rename_i v vs' h1 h2; cases h; exact .cons (aeval_rv hf h1) (aevals_rv hf h2)
    · cases h

theorem aevalO_rv {φ : BMap} {N : Nat} {fr : Fr} {a : Act} (hf : RF φ N fr a.tmps) {x : Option Operand} {v : Option Value} (h : aevalO fr x = some v) :
    (v = none ∧ x.map a.eval = none) ∨ ∃ u u', v = some u ∧ x.map a.eval = some u' ∧ RV φ u u' := by
  cases x with
  | none => simp only [aevalO, Option.some.injEq] at h; subst h; exact .inl ⟨rfl, rfl⟩
  | some x =>
    simp only [aevalO, Option.map_eq_some_iff] at h
    obtain ⟨u, h1, rfl⟩ := h
    exact .inr ⟨u, _, rfl, rfl, aeval_rv hf h1⟩

/-! ### Types -/
theorem ty_spec {P : Program} {t : TypeId} {T : ATy} (h : ty P t = some T) :
    ∃ d i, P.underlying t = some d ∧ P.info? t = some i ∧ T = ⟨akind d, i.size, i.bytes, i.zero⟩ := by
  unfold ty at h
  split at h
  · rename_i d i h1 h2; cases h; exact ⟨d, i, h1, h2, rfl⟩
  · cases h
theorem akind_slice {d : TypeDesc} {e : TypeId} (h : akind d = .slice e) : d = .slice e := by cases d <;> simp [akind] at h; subst h; rfl
theorem akind_array {d : TypeDesc} {n : Nat} {e : TypeId} (h : akind d = .array n e) : d = .array n e := by cases d <;> simp [akind] at h; obtain ⟨rfl, rfl⟩ := h; rfl
theorem akind_map {d : TypeDesc} {k e : TypeId} (h : akind d = .map k e) : d = .map k e := by cases d <;> simp [akind] at h; obtain ⟨rfl, rfl⟩ := h; rfl
theorem akind_int {d : TypeDesc} {k : IntKind} (h : akind d = .int k) : d = .int k := by cases d <;> simp [akind] at h; subst h; rfl
theorem akind_bool {d : TypeDesc} (h : akind d = .bool) : d = .bool := by cases d <;> simp [akind] at h; rfl
theorem akind_string {d : TypeDesc} (h : akind d = .string) : d = .string := by cases d <;> simp [akind] at h; rfl
theorem akind_struct {d : TypeDesc} {fs : List (Nat × TypeId)} (h : akind d = .struct fs) : ∃ gs, d = .struct gs ∧ fs = gs.toList.map fun f => (f.offset, f.type) := by
  cases d <;> simp [akind] at h; rename_i gs; exact ⟨gs, rfl, h.symm⟩

/-- The outcome of an operation, abstract and in the model. -/
def OpOk (P : Program) (B id : Nat) (φ : BMap) (σ : AHeap) (w : World) (r : Result Next) (v : Value) (σ' : AHeap) : Prop :=
  ∃ v' w' φ', (r = .ok (.value v') w' ∨ (r = .ok .skip w' ∧ v' = undef)) ∧ RV φ' v v' ∧ RH P φ' σ' w' B ∧ OStep id φ σ w φ' σ' w'

theorem OpOk.pure {P : Program} {B id : Nat} {φ : BMap} {σ : AHeap} {w : World} {r : Result Next} {v v' : Value} (hr : RH P φ σ w B) (h : r = .ok (.value v') w) (hv : RV φ v v') : OpOk P B id φ σ w r v σ :=
  ⟨v', w, φ, .inl h, hv, hr, .refl _ _ _ _⟩

theorem run_sizeOf {P : Program} {t : TypeId} {i : TypeInfo} (h : P.info? t = some i) (w : World) : (sizeOf t).run P w = .ok i.size w := by simp [sizeOf, typeInfo, h]
theorem run_zeroValue {P : Program} {t : TypeId} {i : TypeInfo} {z : Value} (h : P.info? t = some i) (hz : i.zero = some z) (w : World) : (zeroValue t).run P w = .ok z w := by simp [zeroValue, typeInfo, h, hz]
theorem run_under {P : Program} {t : TypeId} {d : TypeDesc} (h : P.underlying t = some d) (w : World) : (underlying t).run P w = .ok d w := by simp [underlying, h]
theorem run_isAgg {P : Program} {t : TypeId} {T : ATy} (h : ty P t = some T) (w : World) : (isAgg t).run P w = .ok T.agg w := by
  obtain ⟨d, i, h1, _, rfl⟩ := ty_spec h
  simp only [isAgg, Sem.run_bind, run_under h1, Result.andThen_ok]
  cases d <;> simp [ATy.agg, akind]

/-! ### New blocks -/
theorem getElem?_map_range (n : Nat) (f : Nat → Value) (i : Nat) : ((Array.range n).map f)[i]? = if i < n then some (f i) else none := by
  rw [Array.getElem?_map]
  by_cases h : i < n
  · simp [h, Array.getElem?_eq_getElem]
  · simp [h]

/-- A new block of cells, in a world that may have drawn. -/
theorem RH.cells {P : Program} {φ : BMap} {σ : AHeap} {w w1 : World} {B id : Nat} {e : TypeId} {s : Nat} {cs : List Value} {cur : Array Value} (hr : RH P φ σ w B) (hid : φ id = none) (hlt : id < σ.next)
    (hw : w1.heap = w.heap) (hos : w1.os = w.os) (htape : w1.tape = w.tape) (hout : w1.output = w.output) (hs : tsz P e = some s) (hone : Ones cs)
    (hcs : ∀ (i : Nat) (v : Value), cs[i]? = some v → ∃ v', cur[i]? = some v' ∧ RV φ v v') (hlen : cs.length ≤ cur.size) :
    RH P (lay φ id ⟨w.heap.size, 0, cur.size, s⟩) (σ.set id (.cells cs e true)) (w1.alloc (.cells cur e)) B ∧
    OStep id φ σ w (lay φ id ⟨w.heap.size, 0, cur.size, s⟩) (σ.set id (.cells cs e true)) (w1.alloc (.cells cur e)) := by
  have hheap : (w1.alloc (.cells cur e)).heap = w.heap.push (.cells cur e) := by simp [World.alloc, hw]
  have hnew : (w1.alloc (.cells cur e)).heap[w.heap.size]? = some (.cells cur e (0, 0)) := by rw [hheap]; simp
  refine hr.alloc hid hlt hheap hos htape hout rfl rfl ⟨hone, fun i v hv => ?_, hs, fun _ => ⟨rfl, hr.base, cur, hnew, rfl, hlen⟩⟩
  obtain ⟨v', h1, h2⟩ := hcs i v hv
  refine ⟨v', ?_, h2.ext (lay_ext hid)⟩
  simp [World.cell?, hnew, h1]

theorem OpOk.box {P : Program} {B id : Nat} {φ : BMap} {σ σ' : AHeap} {w : World} {e : TypeId} {v v' : Value} {r : Result Next} (hr : RH P φ σ w B) (hid : φ id = none) (hlt : id < σ.next)
    (hv : RV φ v v') (ht : isTuple v = false) (hn : anew P σ id e v.cells.toList = some σ')
    (h : r = .ok (.value (.pointer (some ⟨w.heap.size, 0, none⟩))) (w.alloc (.cells v'.cells e))) : OpOk P B id φ σ w r (.pointer (some ⟨id, 0, none⟩)) σ' := by
  unfold anew at hn
  split at hn
  · rename_i hsome
    cases hn
    obtain ⟨T, hT⟩ := Option.isSome_iff_exists.1 hsome
    have hs : tsz P e = some T.size := by simp [tsz, hT]
    have hc := hv.cells
    obtain ⟨a, b⟩ := hr.cells (w1 := w) (cs := v.cells.toList) (cur := v'.cells) hid hlt rfl rfl rfl rfl hs (hv.ones ht)
      (fun i u hu => let ⟨u', p, q⟩ := hc.get hu; ⟨u', by simpa using p, q⟩) (by have := hc.1; simp at this ⊢; omega)
    refine ⟨_, _, _, .inl h, ?_, a, b⟩
    exact RV.ptr (p := ⟨w.heap.size, 0, v'.cells.size, T.size⟩) (lay_same _ _ _)
  · cases hn

/-! ### What a value is, by what it stands for -/
theorem RV.ptr_inv {φ : BMap} {b off : Nat} {p' : Value} (h : RV φ (.pointer (some ⟨b, off, none⟩)) p') : ∃ p, φ b = some p ∧ p' = .pointer (some ⟨p.g, p.o + off, none⟩) := by
  cases h with | ptr h => exact ⟨_, h, rfl⟩
theorem RV.slice_inv {φ : BMap} {b off len c : Nat} {p' : Value} (h : RV φ (.slice (some ⟨b, off, none⟩) len c) p') :
    ∃ p c', φ b = some p ∧ p' = .slice (some ⟨p.g, p.o + off, none⟩) len c' ∧ len ≤ c ∧ c ≤ c' ∧ (c' = c ∨ off + c' * p.sz ≤ p.room) := by
  cases h with | slice h hl hc hr => exact ⟨_, _, h, rfl, hl, hc, hr⟩
theorem RV.nil_inv {φ : BMap} {p' : Value} (h : RV φ (.slice none 0 0) p') : p' = .slice none 0 0 := by cases h; rfl
theorem RV.map_inv {φ : BMap} {b : Nat} {p' : Value} (h : RV φ (.map (some b)) p') : ∃ p, φ b = some p ∧ p' = .map (some p.g) := by
  cases h with | map h => exact ⟨_, h, rfl⟩
theorem RV.int_inv {φ : BMap} {k : IntKind} {n : Int} {p' : Value} (h : RV φ (.int k n) p') : p' = .int k n := by cases h; rfl
theorem RV.bool_inv {φ : BMap} {b : Bool} {p' : Value} (h : RV φ (.bool b) p') : p' = .bool b := by cases h; rfl
theorem RV.string_inv {φ : BMap} {b : ByteArray} {p' : Value} (h : RV φ (.string b) p') : p' = .string b := by cases h; rfl
theorem RV.agg_inv {φ : BMap} {xs : Array Value} {p' : Value} (h : RV φ (.agg xs) p') : ∃ xs', p' = .agg xs' ∧ RVs φ xs.toList xs'.toList ∧ Ones xs.toList := by
  cases h with | agg hx h ho => exact ⟨_, rfl, ⟨by simpa using hx, fun i a b ha hb => h i a b (by simpa using ha) (by simpa using hb)⟩, fun i a ha => ho i a (by simpa using ha)⟩
theorem RV.tuple_inv {φ : BMap} {xs : Array Value} {p' : Value} (h : RV φ (.tuple xs) p') : ∃ xs', p' = .tuple xs' ∧ RVs φ xs.toList xs'.toList := by
  cases h with | tuple hx h => exact ⟨_, rfl, ⟨by simpa using hx, fun i a b ha hb => h i a b (by simpa using ha) (by simpa using hb)⟩⟩
theorem RV.func_inv {φ : BMap} {f : FuncId} {xs ys : Array Value} {p' : Value} (h : RV φ (.func (.func f) xs ys) p') :
    ∃ xs' ys', p' = .func (.func f) xs' ys' ∧ RVs φ xs.toList xs'.toList ∧ RVs φ ys.toList ys'.toList := by
  cases h with
  | func hx h hy h' => exact ⟨_, _, rfl, ⟨by simpa using hx, fun i a b ha hb => h i a b (by simpa using ha) (by simpa using hb)⟩, ⟨by simpa using hy, fun i a b ha hb => h' i a b (by simpa using ha) (by simpa using hb)⟩⟩

/-! ### Loads -/
theorem Ones.take {xs : List Value} (h : Ones xs) (n : Nat) : Ones (xs.take n) := fun i v hv => by
  rw [List.getElem?_take] at hv; split at hv
  · exact h i v hv
  · cases hv
theorem Ones.drop {xs : List Value} (h : Ones xs) (n : Nat) : Ones (xs.drop n) := fun i v hv => by
  rw [List.getElem?_drop] at hv; exact h _ v hv
theorem Ones.append {xs ys : List Value} (h : Ones xs) (k : Ones ys) : Ones (xs ++ ys) := fun i v hv => by
  by_cases hi : i < xs.length
  · rw [List.getElem?_append_left hi] at hv; exact h i v hv
  · rw [List.getElem?_append_right (by omega)] at hv; exact k _ v hv
theorem Ones.set {xs : List Value} (h : Ones xs) (n : Nat) {u : Value} (hu : u.oneCell' = true) : Ones (xs.set n u) := fun i v hv => by
  rw [List.getElem?_set] at hv
  split at hv
  · split at hv
    · cases hv; exact hu
    · cases hv
  · exact h i v hv
theorem Ones.tail {x : Value} {xs : List Value} (h : Ones (x :: xs)) : Ones xs := fun i v hv => h (i + 1) v (by simpa using hv)

/-- The cells of a stretch of a block. -/
theorem cells_at {P : Program} {B : Nat} {φ : BMap} {w : World} {p : Pl} {cs : List Value} {e : TypeId} {rw : Bool} (h : BlkOk P φ w B p (.cells cs e rw)) {off n : Nat} (hn : off + n ≤ cs.length) :
    ∃ xs, RVs φ ((cs.drop off).take n) xs ∧ xs.length = n ∧ Ones ((cs.drop off).take n) ∧ ∀ (j : Nat) (v : Value), xs[j]? = some v → w.cell? ((⟨p.g, p.o + off, none⟩ : Addr).add j) = some v := by
  obtain ⟨hones, hcell, _⟩ := h
  let f : Nat → Value := fun j => (w.cell? ⟨p.g, p.o + off + j, none⟩).getD undef
  have hex : ∀ j, j < n → ∃ v', w.cell? ⟨p.g, p.o + off + j, none⟩ = some v' ∧ ∃ v, cs[off + j]? = some v ∧ RV φ v v' := fun j hj => by
    have hjl : off + j < cs.length := by omega
    obtain ⟨v', a, b⟩ := hcell (off + j) cs[off + j] (List.getElem?_eq_getElem hjl)
    exact ⟨v', by rw [show p.o + off + j = p.o + (off + j) by omega]; exact a, _, List.getElem?_eq_getElem hjl, b⟩
  refine ⟨(List.range n).map f, ⟨by simp; omega, fun j u u' hu hu' => ?_⟩, by simp, (hones.drop off).take n, fun j v hv => ?_⟩
  · rw [List.getElem?_take] at hu
    split at hu
    · rename_i hj
      rw [List.getElem?_drop] at hu
      rw [List.getElem?_map, List.getElem?_range hj] at hu'
      simp only [Option.map_some, Option.some.injEq] at hu'
      obtain ⟨v', a, v, b, c⟩ := hex j hj
      rw [hu] at b; cases b
      subst hu'
      simpa only [f, a, Option.getD_some] using c
    · cases hu
  · by_cases hj : j < n
    · rw [List.getElem?_map, List.getElem?_range hj] at hv
      simp only [Option.map_some, Option.some.injEq] at hv
      obtain ⟨v', a, _⟩ := hex j hj
      rw [Addr.add_lit]
      subst hv
      simp only [f, a, Option.getD_some]
    · simp [List.getElem?_eq_none (l := (List.range n).map f) (i := j) (by simp; omega)] at hv

theorem aload_rv {P : Program} {B : Nat} {φ : BMap} {σ : AHeap} {w : World} {t : TypeId} {p p' v : Value} (hr : RH P φ σ w B) (h : aload P σ t p = some v) (hp : RV φ p p') :
    ∃ v', (Instr.loadAt t p').run P w = .ok v' w ∧ RV φ v v' := by
  unfold aload at h
  split at h
  · rename_i b off
    split at h
    · rename_i cs e rw T hb hT
      obtain ⟨p, hφ, rfl⟩ := hp.ptr_inv
      obtain ⟨q, hq, hok⟩ := hr.dom b _ hb
      rw [hφ] at hq; cases hq
      have hagg := run_isAgg hT w
      obtain ⟨d, i, hd, hi, rfl⟩ := ty_spec hT
      split at h
      · rename_i ha
        rw [ha] at hagg
        split at h
        · rename_i hlen
          cases h
          obtain ⟨xs, h1, h2, h3, h4⟩ := cells_at hok hlen
          refine ⟨.agg xs.toArray, ?_, RV.agg_of h1 h3⟩
          have hl := run_loadCells_list (P := P) w (⟨p.g, p.o + off, none⟩ : Addr) xs h4
          rw [h2] at hl
          simp only [Instr.loadAt, Instr.sureAddr, loadVar, Sem.run_bind, Sem.run_pure, Result.andThen_ok, hagg, if_true, run_sizeOf hi]
          simp only [] at hl
          rw [hl]
          rfl
        · cases h
      · rename_i ha
        have ha' : (ATy.agg ⟨akind d, i.size, i.bytes, i.zero⟩) = false := by simpa using ha
        rw [ha'] at hagg
        obtain ⟨v', a, b⟩ := hok.2.1 off v h
        refine ⟨v', ?_, b⟩
        simp [Instr.loadAt, Instr.sureAddr, loadVar, hagg, a]
    · cases h
  · cases h

/-! ### Stores -/
theorem setRange_length (cs : List Value) : ∀ (vs : List Value) (off : Nat), (setRange cs off vs).length = cs.length := by
  intro vs
  induction vs generalizing cs with
  | nil => intro off; rfl
  | cons v vs ih => intro off; simp [setRange, ih]

theorem setRange_get : ∀ (vs cs : List Value) (off i : Nat), off + vs.length ≤ cs.length → (setRange cs off vs)[i]? = if off ≤ i ∧ i < off + vs.length then vs[i - off]? else cs[i]? := by
  intro vs
  induction vs with
  | nil => intro cs off i _; simp only [setRange, List.length_nil]; rw [if_neg (by omega)]
  | cons v vs ih =>
    intro cs off i h
    simp only [setRange, List.length_cons] at *
    rw [ih (cs.set off v) (off + 1) i (by rw [List.length_set]; omega)]
    by_cases h1 : off + 1 ≤ i ∧ i < off + 1 + vs.length
    · rw [if_pos h1, if_pos (by omega), show i - off = (i - (off + 1)) + 1 by omega]; rfl
    · rw [if_neg h1]
      by_cases h2 : i = off
      · subst h2
        rw [if_pos (by omega), List.getElem?_set, if_pos rfl, if_pos (by omega), Nat.sub_self]; rfl
      · rw [if_neg (by omega), List.getElem?_set, if_neg (by omega)]

theorem Ones.setRange {xs : List Value} (h : Ones xs) (n : Nat) {us : List Value} (hu : Ones us) : Ones (setRange xs n us) := by
  induction us generalizing xs n with
  | nil => exact h
  | cons u us ih => exact ih (h.set n (hu 0 u rfl)) (n + 1) hu.tail

/-- Cells are stored into a block of the heap's own. -/
theorem store_cells {P : Program} {B id b off : Nat} {φ : BMap} {σ : AHeap} {w : World} {p : Pl} {cs news news' : List Value} {e : TypeId} (hr : RH P φ σ w B) (hb : σ.blk b = some (.cells cs e true))
    (hp : φ b = some p) (hn : RVs φ news news') (hone : Ones news) (hlen : off + news.length ≤ cs.length) :
    ∃ w', (storeCells ⟨p.g, p.o + off, none⟩ news').run P w = .ok () w' ∧ RH P φ (σ.set b (.cells (setRange cs off news) e true)) w' B ∧ OStep id φ σ w φ (σ.set b (.cells (setRange cs off news) e true)) w' := by
  obtain ⟨q, hq, hok⟩ := hr.dom b _ hb
  rw [hp] at hq; cases hq
  obtain ⟨hones, hcell, hsz, hrw⟩ := hok
  obtain ⟨ho, hB, cur, hcur, hroom, hle⟩ := hrw rfl
  have hlen' : news'.length = news.length := hn.1.symm
  have hone' : ∀ v ∈ news', v.oneCell' = true := fun v hv => by
    obtain ⟨i, hi⟩ := List.mem_iff_getElem?.1 hv
    have hil : i < news'.length := (List.getElem?_eq_some_iff.1 hi).1
    have := hn.2 i news[i] v (List.getElem?_eq_getElem (by omega)) hi
    rw [this.oneCell]; exact hone i _ (List.getElem?_eq_getElem (by omega))
  have hst := run_storeCells_at P p.g off e news' 0 cur w hcur (by simp only [Nat.add_zero]; omega) hone'
  simp only [Nat.add_zero] at hst
  have hgl : p.g < w.heap.size := (Array.getElem?_eq_some_iff.1 hcur).1
  refine ⟨_, by rw [ho, Nat.zero_add]; exact hst, ?_⟩
  have hnew : (w.setRow p.g (cur.toList.take off ++ news' ++ cur.toList.drop (off + news'.length)).toArray).heap[p.g]? =
      some (.cells (cur.toList.take off ++ news' ++ cur.toList.drop (off + news'.length)).toArray e (0, 0)) := by
    simp only [World.setRow, Array.getElem?_modify, if_true, hcur, Option.map_some]
  refine hr.write (p := p) hb rfl hp rfl (fun g hg => ?_) ?_ rfl rfl rfl ⟨hones.setRange _ hone, fun i v hv => ?_, hsz, fun _ => ⟨ho, hB, _, hnew, ?_, ?_⟩⟩
  · simp only [World.setRow, Array.getElem?_modify]; rw [if_neg (by omega)]
  · simp [World.setRow]
  · rw [setRange_get _ _ _ _ hlen] at hv
    rw [ho, Nat.zero_add]
    have hcellnew : ∀ j, (w.setRow p.g (cur.toList.take off ++ news' ++ cur.toList.drop (off + news'.length)).toArray).cell? ⟨p.g, j, none⟩ = (cur.toList.take off ++ news' ++ cur.toList.drop (off + news'.length))[j]? := fun j => by
      simp only [World.cell?, hnew, Option.isSome_none, Bool.false_eq_true, if_false, List.getElem?_toArray]
    rw [hcellnew]
    have hoff : off ≤ cur.toList.length := by simp; omega
    split at hv
    · rename_i hi
      obtain ⟨v', h1, h2⟩ := hn.get hv
      refine ⟨v', ?_, h2⟩
      rw [List.append_assoc, List.getElem?_append_right (by simp; omega), List.getElem?_append_left (by simp; omega)]
      simp only [List.length_take, Nat.min_eq_left hoff]; exact h1
    · rename_i hi
      obtain ⟨v', h1, h2⟩ := hcell i v hv
      rw [ho, Nat.zero_add] at h1
      have h1' : cur[i]? = some v' := by simpa [World.cell?, hcur] using h1
      refine ⟨v', ?_, h2⟩
      by_cases hi1 : i < off
      · rw [List.append_assoc, List.getElem?_append_left (by simp; omega), List.getElem?_take, if_pos hi1]; simpa using h1'
      · rw [List.getElem?_append_right (by simp; omega), List.getElem?_drop]
        simp only [List.length_append, List.length_take, Nat.min_eq_left hoff]
        rw [show off + news'.length + (i - (off + news'.length)) = i by omega]; simpa using h1'
  · simp only [List.size_toArray, List.length_append, List.length_take, List.length_drop, Nat.min_eq_left (show off ≤ cur.toList.length by simp; omega)]
    simp only [Array.length_toList]; omega
  · rw [setRange_length]; exact hle

theorem astore_ok {P : Program} {B id : Nat} {φ : BMap} {σ σ' : AHeap} {w : World} {t : TypeId} {p p' v v' : Value} (hr : RH P φ σ w B) (h : astore P σ t p v = some σ') (hp : RV φ p p') (hv : RV φ v v') :
    ∃ w', (Instr.storeAt t p' v').run P w = .ok () w' ∧ RH P φ σ' w' B ∧ OStep id φ σ w φ σ' w' := by
  unfold astore at h
  split at h
  · rename_i b off
    split at h
    · rename_i cs e T hb hT
      split at h
      · rename_i hc
        obtain ⟨h1, h2, h3⟩ := hc
        cases h
        obtain ⟨p, hφ, rfl⟩ := hp.ptr_inv
        obtain ⟨d, i, hd, hi, rfl⟩ := ty_spec hT
        have hcl := hv.cells
        obtain ⟨w', a, b, c⟩ := store_cells (id := id) (off := off) hr hb hφ hcl (hv.ones h3) (by simp only [Array.length_toList]; simp only [] at h1 h2; omega)
        refine ⟨w', ?_, b, c⟩
        have hsz : v'.cells.size = i.size := by have := hcl.1; simp only [Array.length_toList] at this; rw [← this]; exact h1
        simp [Instr.storeAt, Instr.sureAddr, storeVar, run_sizeOf hi, hsz, a]
      · cases h
    · cases h
  · cases h

end Go.Abs
