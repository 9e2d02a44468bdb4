/- A part of the proof: contracts of functions of the program, shown by walking through their code in an abstract machine. Condition: none. -/
import Derived.Test.YtehahpnpandppaaLayC
set_option linter.unusedVariables false
set_option linter.unusedSimpArgs false
namespace Go.Abs.Lay
open Go Go.Proofs
-- @TY ty3, ty4, ty22, ty25
set_option maxHeartbeats 1000000

def rowOf (cs : List Value) (i : Nat) : List Value := (cs.drop (i * 7)).take 7
theorem rowOf_len {cs : List Value} {m i : Nat} (h : cs.length = m * 7) (hi : i < m) : (rowOf cs i).length = 7 := by
  simp only [rowOf, List.length_take, List.length_drop]; omega
theorem rowOf_set {cs vs : List Value} {m i j : Nat} (h : cs.length = m * 7) (hj : j < m) (hv : vs.length = 7) : rowOf (setRange cs (j * 7) vs) i = if i = j then vs else rowOf cs i := by
  have hle : j * 7 + vs.length ≤ cs.length := by omega
  apply List.ext_getElem?
  intro n
  simp only [rowOf, List.getElem?_take, List.getElem?_drop]
  by_cases hn : n < 7
  · simp only [hn, if_true]
    rw [setRange_get vs cs (j * 7) _ hle]
    by_cases hij : i = j
    · subst hij
      rw [if_pos ⟨by omega, by omega⟩, if_pos rfl]
      congr 1; omega
    · rw [if_neg (by omega), if_neg hij]
      simp only [rowOf, List.getElem?_take, List.getElem?_drop, hn, if_true]
  · simp only [hn, if_false]
    split
    · rw [List.getElem?_eq_none (by omega)]
    · simp only [rowOf, List.getElem?_take, hn, if_false]
def E (cs : List Value) (i : Nat) : Value := .agg (rowOf cs i).toArray
theorem aload_row {σ : AHeap} {b m i : Nat} {cs : List Value} {rw : Bool} (hb : σ.blk b = some (.cells cs 25 rw)) (h : cs.length = m * 7) (hi : i < m) : aload Try.prog σ 25 (.pointer (some ⟨b, 0 + i * 7, none⟩)) = some (E cs i) := by
  rw [aload_agg hb ty25 rfl (by simp only; omega)]
  simp only [E, rowOf, Nat.zero_add]

theorem rowOf_low {cs vs : List Value} {off i : Nat} (h : i * 7 + 7 ≤ off) (hl : off + vs.length ≤ cs.length) : rowOf (setRange cs off vs) i = rowOf cs i := by
  apply List.ext_getElem?
  intro n
  simp only [rowOf, List.getElem?_take, List.getElem?_drop]
  by_cases hn : n < 7
  · simp only [hn, if_true]
    rw [setRange_get vs cs off _ hl, if_neg (by omega)]
  · simp only [hn, if_false]

/-- What is kept of the first n. -/
def kept (p : Nat → Bool) (n : Nat) : List Nat := (List.range n).filter fun i => !p i
theorem kept_succ (p : Nat → Bool) (n : Nat) : kept p (n + 1) = if p n then kept p n else kept p n ++ [n] := by
  simp only [kept, List.range_succ, List.filter_append]
  cases hp : p n <;> simp [hp]
theorem kept_len (p : Nat → Bool) : ∀ n, (kept p n).length ≤ n
  | 0 => by simp [kept]
  | n + 1 => by rw [kept_succ]; have := kept_len p n; split <;> simp <;> omega
theorem kept_all {p : Nat → Bool} {n : Nat} (h : ∀ j, j < n → p j = false) : kept p n = List.range n := by
  simp only [kept]; rw [List.filter_eq_self]; intro a ha; simp [h a (by simpa using ha)]

theorem findI_cases (p : Nat → Bool) (len : Nat) : (findI p len = -1 ∧ ∀ j, j < len → p j = false) ∨ ∃ i, i < len ∧ findI p len = (i : Int) ∧ p i = true ∧ ∀ j, j < i → p j = false := by
  cases hf : (List.range len).find? p with
  | none =>
    left
    refine ⟨by simp [findI, hf], fun j hj => ?_⟩
    rw [List.find?_eq_none] at hf
    simpa using hf j (by simpa using hj)
  | some i =>
    right
    rw [List.find?_range_eq_some] at hf
    exact ⟨i, by simpa using hf.2.1, findI_hit (by simpa using hf.2.1) hf.1 (fun j hj => by simpa using hf.2.2 j hj), hf.1, fun j hj => by simpa using hf.2.2 j hj⟩

theorem setRange_full {cs vs : List Value} (h : vs.length = cs.length) : setRange cs 0 vs = vs := by
  rw [setRange_eq _ _ _ (by omega)]
  simp [h]
theorem storeNew {τ : AHeap} {c : Nat} {zs row : List Value} (hz : zs.length = 7) (hr : row.length = 7) : astore Try.prog ((τ.set c (.cells zs 25 true)).bump 1) 25 (.pointer (some ⟨c, 0, none⟩)) (.agg row.toArray) = some ((τ.bump 1).set c (.cells row 25 true)) := by
  rw [astore_to (by rw [AHeap.bump_blk]; exact blk_set _ _ _) ty25 (by simpa [Value.cells] using hr) (by simp only; omega) rfl]
  simp only [Value.cells, setRange_full (show row.length = zs.length by omega), set_bump, set_set]

theorem Gr.split {σ υ : AHeap} {c : Nat} {x : ABlk} (h : Gr (σ.set c x) υ) : ∃ τ, Gr σ τ ∧ υ = τ.set c x := by
  obtain ⟨n, rfl⟩ := h; exact ⟨σ.bump n, ⟨n, rfl⟩, rfl⟩
theorem Gr.put {σ τ : AHeap} {b : Nat} {x : ABlk} (y : ABlk) (h : Gr (σ.set b x) τ) : Gr (σ.set b y) (τ.set b y) := by
  obtain ⟨n, rfl⟩ := h
  exact ⟨n, by rw [set_bump, set_set, set_bump]⟩

def z25 : Value := .agg #[.int .i64 0, .int .i64 0, .int .i64 0, .int .i64 0, .int .i64 0, .int .i64 0, .int .i64 0]
theorem slc_lo {σ : AHeap} {b len cap w : Nat} {cs : List Value} {rw : Bool} {kd : IntKind} (hb : σ.blk b = some (.cells cs 25 rw)) (h1 : w ≤ len) (h2 : w < cap) :
    aslice2 Try.prog σ 22 (.slice (some ⟨b, 0, none⟩) len cap) (some (.int kd (w : Int))) none = some (.slice (some ⟨b, 0 + w * 7, none⟩) (len - w) (cap - w)) := by
  have e1 : abound 0 len (some (.int kd (w : Int))) = some w := by simp only [abound]; rw [if_pos ⟨by omega, by omega⟩]; simp
  simp only [aslice2, ty22, ty25, hb, tsz, abound.eq_1, e1]
  simp only [if_true, if_pos (Or.inl h2 : w < cap ∨ w = 0)]
theorem slc_hi {σ : AHeap} {b len cap w : Nat} {cs : List Value} {rw : Bool} {kd : IntKind} (hb : σ.blk b = some (.cells cs 25 rw)) (h1 : w ≤ cap) :
    aslice2 Try.prog σ 22 (.slice (some ⟨b, 0, none⟩) len cap) none (some (.int kd (w : Int))) = some (.slice (some ⟨b, 0, none⟩) w cap) := by
  have e1 : abound len cap (some (.int kd (w : Int))) = some w := by simp only [abound]; rw [if_pos ⟨by omega, by omega⟩]; simp
  simp only [aslice2, ty22, ty25, hb, tsz, abound.eq_1, e1]
  simp
theorem clear25 {σ : AHeap} {b off n c : Nat} {cs : List Value} (hb : σ.blk b = some (.cells cs 25 true)) (hn : n ≠ 0) (hl : off + n * 7 ≤ cs.length) :
    aclear Try.prog σ 22 (.slice (some ⟨b, off, none⟩) n c) = some (σ.set b (.cells (setRange cs off (zerosL z25 n)) 25 true)) := by
  cases n with
  | zero => exact absurd rfl hn
  | succ n =>
    simp only [aclear, ty22, ty25, hb]
    rw [if_pos ⟨rfl, rfl, hl⟩]
    rfl

/-- slices.DeleteFunc over sizes -/
theorem deleteFunc (b len cap m : Nat) (cs : List Value) (g : FuncId) (xs ys : Array Value) (p : Nat → Bool) (σ : AHeap) (hlen : len ≤ 9223372036854775806) (hb : σ.blk b = some (.cells cs 25 true)) (hbn : b < σ.next) (hcs : cs.length = m * 7) (hlm : len ≤ m) (hlc : len ≤ cap)
    (hg : hasBody Try.prog g = true)
    (hf : ∀ i τ, i < len → σ.next ≤ τ.next → (∀ c, c ≠ b → c < σ.next → τ.blk c = σ.blk c) → ACalls Try.prog g (xs.toList ++ [E cs i] ++ ys.toList) τ fun v σ' => v = .bool (p i) ∧ Gr τ σ') :
    ACalls Try.prog 25 [.slice (some ⟨b, 0, none⟩) len cap, .func (.func g) xs ys] σ fun v σ' => v = .slice (some ⟨b, 0, none⟩) (kept p len).length cap ∧
      ∃ cs', cs'.length = cs.length ∧ (∀ i j, (kept p len)[i]? = some j → rowOf cs' i = rowOf cs j) ∧ Gr (σ.set b (.cells cs' 25 true)) σ' := by
  refine ACalls.wf fun hwf => ?_
  refine ACalls.enter Try.func25 rfl (by rw [Try.ntmps25]; simp) ?_
  rw [Try.ntmps25]
  repeat (first | refine AGo.seq ?_ | refine AGo.skip ?_ | refine AGo.block ?_ | refine AGo.inBlock ?_ | refine AGo.scope ?_ | refine AGo.inScope ?_ | refine AGo.label ?_ | refine AGo.reg ?_ | refine AReg.nil ?_ | refine AGo.exit rfl ?_ | refine AReg.move rfl rfl ?_ | refine AReg.assign rfl rfl ?_ | refine AReg.lss rfl rfl rfl ?_ | refine AReg.leq rfl rfl rfl ?_ | refine AReg.gtr rfl rfl rfl ?_ | refine AReg.geq rfl rfl rfl ?_ | refine AReg.eql rfl rfl rfl ?_ | refine AReg.neq rfl rfl rfl ?_ | refine AReg.add rfl rfl rfl (by omega) ?_ | refine AReg.sub rfl rfl rfl (by omega) ?_ | refine AReg.not rfl rfl ?_ | refine AReg.lenS rfl rfl (tf (by rfl)) ?_ | refine AReg.idx rfl rfl rfl (tf (by rfl)) (tf (by rfl)) (by omega) ?_ | refine AReg.extract rfl rfl rfl ?_ | refine AReg.box rfl rfl rfl (tb (by rfl)) ?_ | refine AReg.alloc rfl (tf (by rfl)) rfl ?_ | refine AReg.fieldA rfl rfl (tf (by rfl)) rfl (tf (by rfl)) rfl ?_ | refine AReg.makeFunc rfl rfl rfl ?_)
  refine AReg.go rfl rfl (by kernel_rfl) ?_
  refine (indexFunc b 0 len cap (E cs) g xs ys p _ (by omega) (fun i hi => ?_) hg (fun i τ hi hgr => hf i τ hi ?_ ?_)).mono ?_
  · exact aload_row (by simpa [AHeap.bump_blk] using hb) hcs (by omega)
  · have := hgr.next; simp at this; omega
  · intro c hc hlt; rw [hgr.blk]; rfl
  rintro _ σ1 ⟨rfl, hg1⟩
  replace hg1 : Gr σ σ1 := Gr.trans (by repeat (first | exact Gr.refl _ | assumption | refine Gr.b ?_ _)) hg1
  repeat (first | refine AGo.seq ?_ | refine AGo.skip ?_ | refine AGo.block ?_ | refine AGo.inBlock ?_ | refine AGo.scope ?_ | refine AGo.inScope ?_ | refine AGo.label ?_ | refine AGo.reg ?_ | refine AReg.nil ?_ | refine AGo.exit rfl ?_ | refine AReg.move rfl rfl ?_ | refine AReg.assign rfl rfl ?_ | refine AReg.lss rfl rfl rfl ?_ | refine AReg.leq rfl rfl rfl ?_ | refine AReg.gtr rfl rfl rfl ?_ | refine AReg.geq rfl rfl rfl ?_ | refine AReg.eql rfl rfl rfl ?_ | refine AReg.neq rfl rfl rfl ?_ | refine AReg.add rfl rfl rfl (by omega) ?_ | refine AReg.sub rfl rfl rfl (by omega) ?_ | refine AReg.not rfl rfl ?_ | refine AReg.lenS rfl rfl (tf (by rfl)) ?_ | refine AReg.idx rfl rfl rfl (tf (by rfl)) (tf (by rfl)) (by omega) ?_ | refine AReg.extract rfl rfl rfl ?_ | refine AReg.box rfl rfl rfl (tb (by rfl)) ?_ | refine AReg.alloc rfl (tf (by rfl)) rfl ?_ | refine AReg.fieldA rfl rfl (tf (by rfl)) rfl (tf (by rfl)) rfl ?_ | refine AReg.makeFunc rfl rfl rfl ?_)
  rcases findI_cases p len with ⟨hfi, hall⟩ | ⟨w0, hw0, hfi, hpw, hlow⟩
  · rw [hfi]
    refine AGo.condD rfl (fun h => ?_) (fun h => absurd rfl h)
    repeat (first | refine AGo.seq ?_ | refine AGo.skip ?_ | refine AGo.block ?_ | refine AGo.inBlock ?_ | refine AGo.scope ?_ | refine AGo.inScope ?_ | refine AGo.label ?_ | refine AGo.reg ?_ | refine AReg.nil ?_ | refine AGo.exit rfl ?_ | refine AReg.move rfl rfl ?_ | refine AReg.assign rfl rfl ?_ | refine AReg.lss rfl rfl rfl ?_ | refine AReg.leq rfl rfl rfl ?_ | refine AReg.gtr rfl rfl rfl ?_ | refine AReg.geq rfl rfl rfl ?_ | refine AReg.eql rfl rfl rfl ?_ | refine AReg.neq rfl rfl rfl ?_ | refine AReg.add rfl rfl rfl (by omega) ?_ | refine AReg.sub rfl rfl rfl (by omega) ?_ | refine AReg.not rfl rfl ?_ | refine AReg.lenS rfl rfl (tf (by rfl)) ?_ | refine AReg.idx rfl rfl rfl (tf (by rfl)) (tf (by rfl)) (by omega) ?_ | refine AReg.extract rfl rfl rfl ?_ | refine AReg.box rfl rfl rfl (tb (by rfl)) ?_ | refine AReg.alloc rfl (tf (by rfl)) rfl ?_ | refine AReg.fieldA rfl rfl (tf (by rfl)) rfl (tf (by rfl)) rfl ?_ | refine AReg.makeFunc rfl rfl rfl ?_)
    refine AGo.ret Try.func25 (by rfl) ?_
    refine ⟨?_, cs, rfl, fun i j hij => ?_, ?_⟩
    · rw [kept_all hall]; simp [packResults]
    · rw [kept_all hall] at hij
      simp only [List.getElem?_eq_some_iff, List.getElem_range] at hij
      obtain ⟨_, rfl⟩ := hij; rfl
    · have : σ.set b (.cells cs 25 true) = σ := AHeap.ext rfl fun c => by
        rw [AHeap.set_blk]; split
        · rename_i e; subst e; exact hb.symm
        · rfl
      rw [this]; exact (by repeat (first | exact Gr.refl _ | assumption | refine Gr.b ?_ _))
  rw [hfi]
  refine AGo.condD rfl (fun h => by omega) (fun h => ?_)
  repeat (first | refine AGo.seq ?_ | refine AGo.skip ?_ | refine AGo.block ?_ | refine AGo.inBlock ?_ | refine AGo.scope ?_ | refine AGo.inScope ?_ | refine AGo.label ?_ | refine AGo.reg ?_ | refine AReg.nil ?_ | refine AGo.exit rfl ?_ | refine AReg.move rfl rfl ?_ | refine AReg.assign rfl rfl ?_ | refine AReg.lss rfl rfl rfl ?_ | refine AReg.leq rfl rfl rfl ?_ | refine AReg.gtr rfl rfl rfl ?_ | refine AReg.geq rfl rfl rfl ?_ | refine AReg.eql rfl rfl rfl ?_ | refine AReg.neq rfl rfl rfl ?_ | refine AReg.add rfl rfl rfl (by omega) ?_ | refine AReg.sub rfl rfl rfl (by omega) ?_ | refine AReg.not rfl rfl ?_ | refine AReg.lenS rfl rfl (tf (by rfl)) ?_ | refine AReg.idx rfl rfl rfl (tf (by rfl)) (tf (by rfl)) (by omega) ?_ | refine AReg.extract rfl rfl rfl ?_ | refine AReg.box rfl rfl rfl (tb (by rfl)) ?_ | refine AReg.alloc rfl (tf (by rfl)) rfl ?_ | refine AReg.fieldA rfl rfl (tf (by rfl)) rfl (tf (by rfl)) rfl ?_ | refine AReg.makeFunc rfl rfl rfl ?_)
  refine AGo.loop ?_
  refine AGo.loopI (ι := Nat × Nat) (F := fun x => [(0, .slice (some ⟨b, 0, none⟩) len cap), (1, .func (.func g) xs ys), (5, .int .i64 (x.1 : Int)), (6, .int .i64 (x.2 : Int))])
    (S := fun x τ => x.2 ≤ len ∧ x.1 < x.2 ∧ (kept p x.2).length = x.1 ∧ ∃ cs', cs'.length = cs.length ∧ (∀ i j, (kept p x.2)[i]? = some j → rowOf cs' i = rowOf cs j) ∧ (∀ i, x.2 ≤ i → i < len → rowOf cs' i = rowOf cs i) ∧ Gr (σ.set b (.cells cs' 25 true)) τ)
    (μ := fun x => len - x.2) ?_ (x0 := (w0, w0 + 1)) ?_ ⟨rfl, rfl, rfl, rfl, trivial⟩
  · rintro ⟨w, j⟩ τ ⟨hjl, hwj, hkl, cs', hcs', hk1, hk2, hgr⟩ next
    simp only at hjl hwj hkl hk1 hk2
    have hτ : τ.blk b = some (.cells cs' 25 true) := by rw [hgr.blk, blk_set]
    have hτn : σ.next ≤ τ.next := hgr.next
    have hτo : ∀ c, c ≠ b → τ.blk c = σ.blk c := fun c hc => by rw [hgr.blk, blk_ne hc]
    repeat (first | refine AGo.seq ?_ | refine AGo.skip ?_ | refine AGo.block ?_ | refine AGo.inBlock ?_ | refine AGo.scope ?_ | refine AGo.inScope ?_ | refine AGo.label ?_ | refine AGo.reg ?_ | refine AReg.nil ?_ | refine AGo.exit rfl ?_ | refine AReg.move rfl rfl ?_ | refine AReg.assign rfl rfl ?_ | refine AReg.lss rfl rfl rfl ?_ | refine AReg.leq rfl rfl rfl ?_ | refine AReg.gtr rfl rfl rfl ?_ | refine AReg.geq rfl rfl rfl ?_ | refine AReg.eql rfl rfl rfl ?_ | refine AReg.neq rfl rfl rfl ?_ | refine AReg.add rfl rfl rfl (by omega) ?_ | refine AReg.sub rfl rfl rfl (by omega) ?_ | refine AReg.not rfl rfl ?_ | refine AReg.lenS rfl rfl (tf (by rfl)) ?_ | refine AReg.idx rfl rfl rfl (tf (by rfl)) (tf (by rfl)) (by omega) ?_ | refine AReg.extract rfl rfl rfl ?_ | refine AReg.box rfl rfl rfl (tb (by rfl)) ?_ | refine AReg.alloc rfl (tf (by rfl)) rfl ?_ | refine AReg.fieldA rfl rfl (tf (by rfl)) rfl (tf (by rfl)) rfl ?_ | refine AReg.makeFunc rfl rfl rfl ?_)
    refine AGo.condD rfl (fun h => ?_) (fun h => ?_)
    · have h : j < len := by omega
      repeat (first | refine AGo.seq ?_ | refine AGo.skip ?_ | refine AGo.block ?_ | refine AGo.inBlock ?_ | refine AGo.scope ?_ | refine AGo.inScope ?_ | refine AGo.label ?_ | refine AGo.reg ?_ | refine AReg.nil ?_ | refine AGo.exit rfl ?_ | refine AReg.move rfl rfl ?_ | refine AReg.assign rfl rfl ?_ | refine AReg.lss rfl rfl rfl ?_ | refine AReg.leq rfl rfl rfl ?_ | refine AReg.gtr rfl rfl rfl ?_ | refine AReg.geq rfl rfl rfl ?_ | refine AReg.eql rfl rfl rfl ?_ | refine AReg.neq rfl rfl rfl ?_ | refine AReg.add rfl rfl rfl (by omega) ?_ | refine AReg.sub rfl rfl rfl (by omega) ?_ | refine AReg.not rfl rfl ?_ | refine AReg.lenS rfl rfl (tf (by rfl)) ?_ | refine AReg.idx rfl rfl rfl (tf (by rfl)) (tf (by rfl)) (by omega) ?_ | refine AReg.extract rfl rfl rfl ?_ | refine AReg.box rfl rfl rfl (tb (by rfl)) ?_ | refine AReg.alloc rfl (tf (by rfl)) rfl ?_ | refine AReg.fieldA rfl rfl (tf (by rfl)) rfl (tf (by rfl)) rfl ?_ | refine AReg.makeFunc rfl rfl rfl ?_)
      refine AReg.load rfl rfl (aload_row (rw := true) (by simp only [AHeap.bump_blk]; exact hτ) (hcs'.trans hcs) (by omega)) ?_
      repeat (first | refine AGo.seq ?_ | refine AGo.skip ?_ | refine AGo.block ?_ | refine AGo.inBlock ?_ | refine AGo.scope ?_ | refine AGo.inScope ?_ | refine AGo.label ?_ | refine AGo.reg ?_ | refine AReg.nil ?_ | refine AGo.exit rfl ?_ | refine AReg.move rfl rfl ?_ | refine AReg.assign rfl rfl ?_ | refine AReg.lss rfl rfl rfl ?_ | refine AReg.leq rfl rfl rfl ?_ | refine AReg.gtr rfl rfl rfl ?_ | refine AReg.geq rfl rfl rfl ?_ | refine AReg.eql rfl rfl rfl ?_ | refine AReg.neq rfl rfl rfl ?_ | refine AReg.add rfl rfl rfl (by omega) ?_ | refine AReg.sub rfl rfl rfl (by omega) ?_ | refine AReg.not rfl rfl ?_ | refine AReg.lenS rfl rfl (tf (by rfl)) ?_ | refine AReg.idx rfl rfl rfl (tf (by rfl)) (tf (by rfl)) (by omega) ?_ | refine AReg.extract rfl rfl rfl ?_ | refine AReg.box rfl rfl rfl (tb (by rfl)) ?_ | refine AReg.alloc rfl (tf (by rfl)) rfl ?_ | refine AReg.fieldA rfl rfl (tf (by rfl)) rfl (tf (by rfl)) rfl ?_ | refine AReg.makeFunc rfl rfl rfl ?_)
      refine AReg.store rfl rfl (storeNew (by simp [Value.cells]) (rowOf_len (hcs'.trans hcs) (by omega))) ?_
      repeat (first | refine AGo.seq ?_ | refine AGo.skip ?_ | refine AGo.block ?_ | refine AGo.inBlock ?_ | refine AGo.scope ?_ | refine AGo.inScope ?_ | refine AGo.label ?_ | refine AGo.reg ?_ | refine AReg.nil ?_ | refine AGo.exit rfl ?_ | refine AReg.move rfl rfl ?_ | refine AReg.assign rfl rfl ?_ | refine AReg.lss rfl rfl rfl ?_ | refine AReg.leq rfl rfl rfl ?_ | refine AReg.gtr rfl rfl rfl ?_ | refine AReg.geq rfl rfl rfl ?_ | refine AReg.eql rfl rfl rfl ?_ | refine AReg.neq rfl rfl rfl ?_ | refine AReg.add rfl rfl rfl (by omega) ?_ | refine AReg.sub rfl rfl rfl (by omega) ?_ | refine AReg.not rfl rfl ?_ | refine AReg.lenS rfl rfl (tf (by rfl)) ?_ | refine AReg.idx rfl rfl rfl (tf (by rfl)) (tf (by rfl)) (by omega) ?_ | refine AReg.extract rfl rfl rfl ?_ | refine AReg.box rfl rfl rfl (tb (by rfl)) ?_ | refine AReg.alloc rfl (tf (by rfl)) rfl ?_ | refine AReg.fieldA rfl rfl (tf (by rfl)) rfl (tf (by rfl)) rfl ?_ | refine AReg.makeFunc rfl rfl rfl ?_)
      refine AReg.load rfl rfl (aload_agg (by simp only [AHeap.bump_blk]; exact blk_set _ _ _) ty25 rfl (by simp only; rw [rowOf_len (hcs'.trans hcs) (by omega)]; exact Nat.le_refl _)) ?_
      have hrow : rowOf cs' j = rowOf cs j := hk2 j (Nat.le_refl _) h
      have hE : Value.agg (((rowOf cs' j).drop 0).take 7).toArray = E cs j := by
        simp only [E, List.drop_zero, hrow]
        rw [List.take_of_length_le (by rw [rowOf_len hcs (by omega)]; exact Nat.le_refl _)]
      simp only [hE]
      refine AReg.go rfl rfl hg ?_
      refine (hf j _ h ?_ ?_).mono ?_
      · simp; omega
      · intro c hc hlt
        simp only [AHeap.bump_blk]
        rw [blk_ne (by simp; omega)]
        exact hτo c hc
      rintro _ σ3 ⟨rfl, hg3⟩
      obtain ⟨τ0, hg0, rfl⟩ := Gr.split (Gr.trans (Gr.b (Gr.b (Gr.refl _) _) _) hg3)
      have hg0 : Gr τ τ0 := Gr.trans (by repeat (first | exact Gr.refl _ | assumption | refine Gr.b ?_ _)) hg0
      have hcn : (((((((((τ.bump 1).bump 1).bump 1).bump 1).bump 1).bump 1).bump 1).bump 1)).next = τ.next + 8 := by simp
      rw [hcn]
      have hτ0 : τ0.blk b = some (.cells cs' 25 true) := by rw [hg0.blk]; exact hτ
      have hfree : τ0.blk (τ.next + 8) = none := by rw [hg0.blk, hτo _ (by omega)]; exact hwf _ (by omega)
      repeat (first | refine AGo.seq ?_ | refine AGo.skip ?_ | refine AGo.block ?_ | refine AGo.inBlock ?_ | refine AGo.scope ?_ | refine AGo.inScope ?_ | refine AGo.label ?_ | refine AGo.reg ?_ | refine AReg.nil ?_ | refine AGo.exit rfl ?_ | refine AReg.move rfl rfl ?_ | refine AReg.assign rfl rfl ?_ | refine AReg.lss rfl rfl rfl ?_ | refine AReg.leq rfl rfl rfl ?_ | refine AReg.gtr rfl rfl rfl ?_ | refine AReg.geq rfl rfl rfl ?_ | refine AReg.eql rfl rfl rfl ?_ | refine AReg.neq rfl rfl rfl ?_ | refine AReg.add rfl rfl rfl (by omega) ?_ | refine AReg.sub rfl rfl rfl (by omega) ?_ | refine AReg.not rfl rfl ?_ | refine AReg.lenS rfl rfl (tf (by rfl)) ?_ | refine AReg.idx rfl rfl rfl (tf (by rfl)) (tf (by rfl)) (by omega) ?_ | refine AReg.extract rfl rfl rfl ?_ | refine AReg.box rfl rfl rfl (tb (by rfl)) ?_ | refine AReg.alloc rfl (tf (by rfl)) rfl ?_ | refine AReg.fieldA rfl rfl (tf (by rfl)) rfl (tf (by rfl)) rfl ?_ | refine AReg.makeFunc rfl rfl rfl ?_)
      refine AGo.condB rfl (fun hp => ?_) (fun hp => ?_)
      · repeat (first | refine AGo.seq ?_ | refine AGo.skip ?_ | refine AGo.block ?_ | refine AGo.inBlock ?_ | refine AGo.scope ?_ | refine AGo.inScope ?_ | refine AGo.label ?_ | refine AGo.reg ?_ | refine AReg.nil ?_ | refine AGo.exit rfl ?_ | refine AReg.move rfl rfl ?_ | refine AReg.assign rfl rfl ?_ | refine AReg.lss rfl rfl rfl ?_ | refine AReg.leq rfl rfl rfl ?_ | refine AReg.gtr rfl rfl rfl ?_ | refine AReg.geq rfl rfl rfl ?_ | refine AReg.eql rfl rfl rfl ?_ | refine AReg.neq rfl rfl rfl ?_ | refine AReg.add rfl rfl rfl (by omega) ?_ | refine AReg.sub rfl rfl rfl (by omega) ?_ | refine AReg.not rfl rfl ?_ | refine AReg.lenS rfl rfl (tf (by rfl)) ?_ | refine AReg.idx rfl rfl rfl (tf (by rfl)) (tf (by rfl)) (by omega) ?_ | refine AReg.extract rfl rfl rfl ?_ | refine AReg.box rfl rfl rfl (tb (by rfl)) ?_ | refine AReg.alloc rfl (tf (by rfl)) rfl ?_ | refine AReg.fieldA rfl rfl (tf (by rfl)) rfl (tf (by rfl)) rfl ?_ | refine AReg.makeFunc rfl rfl rfl ?_)
        refine AReg.load rfl rfl (aload_agg (by simp only [AHeap.bump_blk]; exact blk_set _ _ _) ty25 rfl (by simp only; rw [rowOf_len (hcs'.trans hcs) (by omega)]; exact Nat.le_refl _)) ?_
        simp only [hE]
        repeat (first | refine AGo.seq ?_ | refine AGo.skip ?_ | refine AGo.block ?_ | refine AGo.inBlock ?_ | refine AGo.scope ?_ | refine AGo.inScope ?_ | refine AGo.label ?_ | refine AGo.reg ?_ | refine AReg.nil ?_ | refine AGo.exit rfl ?_ | refine AReg.move rfl rfl ?_ | refine AReg.assign rfl rfl ?_ | refine AReg.lss rfl rfl rfl ?_ | refine AReg.leq rfl rfl rfl ?_ | refine AReg.gtr rfl rfl rfl ?_ | refine AReg.geq rfl rfl rfl ?_ | refine AReg.eql rfl rfl rfl ?_ | refine AReg.neq rfl rfl rfl ?_ | refine AReg.add rfl rfl rfl (by omega) ?_ | refine AReg.sub rfl rfl rfl (by omega) ?_ | refine AReg.not rfl rfl ?_ | refine AReg.lenS rfl rfl (tf (by rfl)) ?_ | refine AReg.idx rfl rfl rfl (tf (by rfl)) (tf (by rfl)) (by omega) ?_ | refine AReg.extract rfl rfl rfl ?_ | refine AReg.box rfl rfl rfl (tb (by rfl)) ?_ | refine AReg.alloc rfl (tf (by rfl)) rfl ?_ | refine AReg.fieldA rfl rfl (tf (by rfl)) rfl (tf (by rfl)) rfl ?_ | refine AReg.makeFunc rfl rfl rfl ?_)
        refine AReg.store rfl rfl (astore_to (cs := cs') (e := 25) (by simp only [AHeap.bump_blk]; rw [blk_ne (by omega)]; exact hτ0) ty25 ?_ ?_ rfl) ?_
        · simp only [E, Value.cells]; simpa using rowOf_len hcs (by omega)
        · simp only; omega
        repeat (first | refine AGo.seq ?_ | refine AGo.skip ?_ | refine AGo.block ?_ | refine AGo.inBlock ?_ | refine AGo.scope ?_ | refine AGo.inScope ?_ | refine AGo.label ?_ | refine AGo.reg ?_ | refine AReg.nil ?_ | refine AGo.exit rfl ?_ | refine AReg.move rfl rfl ?_ | refine AReg.assign rfl rfl ?_ | refine AReg.lss rfl rfl rfl ?_ | refine AReg.leq rfl rfl rfl ?_ | refine AReg.gtr rfl rfl rfl ?_ | refine AReg.geq rfl rfl rfl ?_ | refine AReg.eql rfl rfl rfl ?_ | refine AReg.neq rfl rfl rfl ?_ | refine AReg.add rfl rfl rfl (by omega) ?_ | refine AReg.sub rfl rfl rfl (by omega) ?_ | refine AReg.not rfl rfl ?_ | refine AReg.lenS rfl rfl (tf (by rfl)) ?_ | refine AReg.idx rfl rfl rfl (tf (by rfl)) (tf (by rfl)) (by omega) ?_ | refine AReg.extract rfl rfl rfl ?_ | refine AReg.box rfl rfl rfl (tb (by rfl)) ?_ | refine AReg.alloc rfl (tf (by rfl)) rfl ?_ | refine AReg.fieldA rfl rfl (tf (by rfl)) rfl (tf (by rfl)) rfl ?_ | refine AReg.makeFunc rfl rfl rfl ?_)
        simp only [bump_bump, set_bump]
        refine AGo.forget ((τ0.bump _).set b _) (Sub.both (Sub.set (fun _ _ h => h) _ _ ?_) _ _) rfl (next (w + 1, j + 1) _ _ (by simp only; omega) ?_ ⟨rfl, rfl, rfl, rfl, trivial⟩)
        · exact hfree
        · have hpj : p j = false := by simpa using hp
          have hks : kept p (j + 1) = kept p j ++ [j] := by rw [kept_succ, hpj]; simp
          refine ⟨by simp only; omega, by simp only; omega, by simp only [hks]; simp [hkl], setRange cs' (w * 7) (rowOf cs j), by rw [setRange_length]; exact hcs', ?_, ?_, ?_⟩
          · intro i j' hij
            simp only [hks] at hij
            rw [rowOf_set (hcs'.trans hcs) (by omega) (rowOf_len hcs (by omega))]
            by_cases hiw : i = w
            · subst hiw
              rw [List.getElem?_append_right (by omega), hkl, Nat.sub_self] at hij
              simp only [List.getElem?_cons_zero, Option.some.injEq] at hij
              rw [if_pos rfl, hij]
            · rw [if_neg hiw]
              have hi : i < (kept p j ++ [j]).length := (List.getElem?_eq_some_iff.1 hij).1
              simp only [List.length_append, List.length_cons, List.length_nil, hkl] at hi
              rw [List.getElem?_append_left (by omega)] at hij
              exact hk1 i j' hij
          · intro i h1 h2
            simp only at h1
            rw [rowOf_set (hcs'.trans hcs) (by omega) (rowOf_len hcs (by omega)), if_neg (by omega)]
            exact hk2 i (by omega) h2
          · have e1 : (E cs j).cells.toList = rowOf cs j := by simp [E, Value.cells]
            rw [e1, Nat.zero_add]
            exact Gr.put _ ((hgr.trans hg0).b _)
      · have hpj : p j = true := by simpa using hp
        have hks : kept p (j + 1) = kept p j := by rw [kept_succ, hpj]; simp
        repeat (first | refine AGo.seq ?_ | refine AGo.skip ?_ | refine AGo.block ?_ | refine AGo.inBlock ?_ | refine AGo.scope ?_ | refine AGo.inScope ?_ | refine AGo.label ?_ | refine AGo.reg ?_ | refine AReg.nil ?_ | refine AGo.exit rfl ?_ | refine AReg.move rfl rfl ?_ | refine AReg.assign rfl rfl ?_ | refine AReg.lss rfl rfl rfl ?_ | refine AReg.leq rfl rfl rfl ?_ | refine AReg.gtr rfl rfl rfl ?_ | refine AReg.geq rfl rfl rfl ?_ | refine AReg.eql rfl rfl rfl ?_ | refine AReg.neq rfl rfl rfl ?_ | refine AReg.add rfl rfl rfl (by omega) ?_ | refine AReg.sub rfl rfl rfl (by omega) ?_ | refine AReg.not rfl rfl ?_ | refine AReg.lenS rfl rfl (tf (by rfl)) ?_ | refine AReg.idx rfl rfl rfl (tf (by rfl)) (tf (by rfl)) (by omega) ?_ | refine AReg.extract rfl rfl rfl ?_ | refine AReg.box rfl rfl rfl (tb (by rfl)) ?_ | refine AReg.alloc rfl (tf (by rfl)) rfl ?_ | refine AReg.fieldA rfl rfl (tf (by rfl)) rfl (tf (by rfl)) rfl ?_ | refine AReg.makeFunc rfl rfl rfl ?_)
        simp only [bump_bump, set_bump]
        refine AGo.forget (τ0.bump _) (Sub.set (fun _ _ h => h) _ _ hfree) rfl (next (w, j + 1) _ _ (by simp only; omega) ⟨by simp only; omega, by simp only; omega, by simp only [hks]; exact hkl, cs', hcs', ?_, ?_, (hgr.trans hg0).b _⟩ ⟨rfl, rfl, rfl, rfl, trivial⟩)
        · intro i j' hij
          simp only [hks] at hij
          exact hk1 i j' hij
        · intro i h1 h2
          simp only at h1
          exact hk2 i (by omega) h2
    · have hj : j = len := by omega
      subst hj
      repeat (first | refine AGo.seq ?_ | refine AGo.skip ?_ | refine AGo.block ?_ | refine AGo.inBlock ?_ | refine AGo.scope ?_ | refine AGo.inScope ?_ | refine AGo.label ?_ | refine AGo.reg ?_ | refine AReg.nil ?_ | refine AGo.exit rfl ?_ | refine AReg.move rfl rfl ?_ | refine AReg.assign rfl rfl ?_ | refine AReg.lss rfl rfl rfl ?_ | refine AReg.leq rfl rfl rfl ?_ | refine AReg.gtr rfl rfl rfl ?_ | refine AReg.geq rfl rfl rfl ?_ | refine AReg.eql rfl rfl rfl ?_ | refine AReg.neq rfl rfl rfl ?_ | refine AReg.add rfl rfl rfl (by omega) ?_ | refine AReg.sub rfl rfl rfl (by omega) ?_ | refine AReg.not rfl rfl ?_ | refine AReg.lenS rfl rfl (tf (by rfl)) ?_ | refine AReg.idx rfl rfl rfl (tf (by rfl)) (tf (by rfl)) (by omega) ?_ | refine AReg.extract rfl rfl rfl ?_ | refine AReg.box rfl rfl rfl (tb (by rfl)) ?_ | refine AReg.alloc rfl (tf (by rfl)) rfl ?_ | refine AReg.fieldA rfl rfl (tf (by rfl)) rfl (tf (by rfl)) rfl ?_ | refine AReg.makeFunc rfl rfl rfl ?_)
      refine AReg.slc rfl rfl rfl rfl (slc_lo (rw := true) (by simp only [AHeap.bump_blk]; exact hτ) (by omega) (by omega)) ?_
      refine AReg.clear rfl ty22 (clear25 (by simp only [AHeap.bump_blk]; exact hτ) (by omega) ?_) ?_
      · have : (j - w) * 7 = j * 7 - w * 7 := Nat.sub_mul _ _ _
        omega
      repeat (first | refine AGo.seq ?_ | refine AGo.skip ?_ | refine AGo.block ?_ | refine AGo.inBlock ?_ | refine AGo.scope ?_ | refine AGo.inScope ?_ | refine AGo.label ?_ | refine AGo.reg ?_ | refine AReg.nil ?_ | refine AGo.exit rfl ?_ | refine AReg.move rfl rfl ?_ | refine AReg.assign rfl rfl ?_ | refine AReg.lss rfl rfl rfl ?_ | refine AReg.leq rfl rfl rfl ?_ | refine AReg.gtr rfl rfl rfl ?_ | refine AReg.geq rfl rfl rfl ?_ | refine AReg.eql rfl rfl rfl ?_ | refine AReg.neq rfl rfl rfl ?_ | refine AReg.add rfl rfl rfl (by omega) ?_ | refine AReg.sub rfl rfl rfl (by omega) ?_ | refine AReg.not rfl rfl ?_ | refine AReg.lenS rfl rfl (tf (by rfl)) ?_ | refine AReg.idx rfl rfl rfl (tf (by rfl)) (tf (by rfl)) (by omega) ?_ | refine AReg.extract rfl rfl rfl ?_ | refine AReg.box rfl rfl rfl (tb (by rfl)) ?_ | refine AReg.alloc rfl (tf (by rfl)) rfl ?_ | refine AReg.fieldA rfl rfl (tf (by rfl)) rfl (tf (by rfl)) rfl ?_ | refine AReg.makeFunc rfl rfl rfl ?_)
      refine AReg.slc rfl rfl rfl rfl (slc_hi (rw := true) (by simp only [AHeap.bump_blk]; exact blk_set _ _ _) (by omega)) ?_
      repeat (first | refine AGo.seq ?_ | refine AGo.skip ?_ | refine AGo.block ?_ | refine AGo.inBlock ?_ | refine AGo.scope ?_ | refine AGo.inScope ?_ | refine AGo.label ?_ | refine AGo.reg ?_ | refine AReg.nil ?_ | refine AGo.exit rfl ?_ | refine AReg.move rfl rfl ?_ | refine AReg.assign rfl rfl ?_ | refine AReg.lss rfl rfl rfl ?_ | refine AReg.leq rfl rfl rfl ?_ | refine AReg.gtr rfl rfl rfl ?_ | refine AReg.geq rfl rfl rfl ?_ | refine AReg.eql rfl rfl rfl ?_ | refine AReg.neq rfl rfl rfl ?_ | refine AReg.add rfl rfl rfl (by omega) ?_ | refine AReg.sub rfl rfl rfl (by omega) ?_ | refine AReg.not rfl rfl ?_ | refine AReg.lenS rfl rfl (tf (by rfl)) ?_ | refine AReg.idx rfl rfl rfl (tf (by rfl)) (tf (by rfl)) (by omega) ?_ | refine AReg.extract rfl rfl rfl ?_ | refine AReg.box rfl rfl rfl (tb (by rfl)) ?_ | refine AReg.alloc rfl (tf (by rfl)) rfl ?_ | refine AReg.fieldA rfl rfl (tf (by rfl)) rfl (tf (by rfl)) rfl ?_ | refine AReg.makeFunc rfl rfl rfl ?_)
      refine AGo.ret Try.func25 (by rfl) ?_
      have hlow2 : (0 + w * 7) + (zerosL z25 (j - w)).length ≤ cs'.length := by
        rw [zerosL_length]
        have : (j - w) * 7 = j * 7 - w * 7 := Nat.sub_mul _ _ _
        simp only [z25, Value.cells, List.size_toArray, List.length_cons, List.length_nil]
        omega
      refine ⟨by simp [packResults, hkl], setRange cs' (0 + w * 7) (zerosL z25 (j - w)), ?_, ?_, ?_⟩
      · rw [setRange_length]; exact hcs'
      · intro i j' hij
        have hi : i < w := by have := (List.getElem?_eq_some_iff.1 hij).1; omega
        rw [← hk1 i j' hij, rowOf_low (by omega) hlow2]
      · simp only [bump_bump, set_bump]
        exact Gr.put _ (hgr.b _)
  · refine ⟨by simp only; omega, by simp only; omega, ?_, cs, rfl, ?_, fun _ _ _ => rfl, ?_⟩
    · simp only [kept_succ, hpw, if_true, kept_all hlow, List.length_range]
    · intro i j hij
      simp only [kept_succ, hpw, if_true, kept_all hlow] at hij
      simp only [List.getElem?_eq_some_iff, List.getElem_range] at hij
      obtain ⟨_, rfl⟩ := hij; rfl
    · have : σ.set b (.cells cs 25 true) = σ := AHeap.ext rfl fun c => by
        rw [AHeap.set_blk]; split
        · rename_i e; subst e; exact hb.symm
        · rfl
      rw [this]; exact (by repeat (first | exact Gr.refl _ | assumption | refine Gr.b ?_ _))
end Go.Abs.Lay
