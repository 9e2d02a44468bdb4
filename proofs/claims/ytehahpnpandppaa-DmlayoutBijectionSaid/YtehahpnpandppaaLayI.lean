/- A part of the proof: contracts of functions of the program, shown by walking through their code in an abstract machine. Condition: none. -/
import Derived.Test.YtehahpnpandppaaLayH
set_option linter.unusedVariables false
set_option linter.unusedSimpArgs false
namespace Go.Abs.Lay
open Go Go.Proofs
-- @TY ty3, ty4, ty22, ty25
set_option maxHeartbeats 1000000

def fitV (n : Int) (sq : Bool) : Value := if n < 1 ∨ n > 1558 then z25 else E sizeCells (fitRow n sq)
def fitE (n : Int) : Int := if n < 1 then 3 else if n > 1558 then 16 else 0
theorem load25z {σ : AHeap} {b : Nat} {cs : List Value} (hb : σ.blk b = some (.cells cs 25 true)) (hl : cs.length = 7) : aload Try.prog σ 25 (.pointer (some ⟨b, 0, none⟩)) = some (.agg cs.toArray) := by
  rw [aload_agg hb ty25 rfl (by simp only; omega)]
  simp [List.take_of_length_le (show cs.length ≤ 7 by omega)]

/-- dmlayout.Fit -/
theorem fit (n : Int) (sq : Bool) (σ : AHeap) : ACalls Try.prog 12 [.int .i64 n, .bool sq] σ fun v σ' => v = .tuple #[fitV n sq, .int .i64 (fitE n)] ∧ Gr σ σ' := by
  refine ACalls.wf fun hwf => ?_
  refine ACalls.drop (Q := fun v => v = .tuple #[fitV n sq, .int .i64 (fitE n)]) ?_
  refine ACalls.enter Try.func12 rfl (by rw [Try.ntmps12]; simp) ?_
  rw [Try.ntmps12]
  repeat (first | refine AGo.seq ?_ | refine AGo.skip ?_ | refine AGo.block ?_ | refine AGo.inBlock ?_ | refine AGo.scope ?_ | refine AGo.inScope ?_ | refine AGo.label ?_ | refine AGo.reg ?_ | refine AReg.nil ?_ | refine AGo.exit rfl ?_ | refine AReg.move rfl rfl ?_ | refine AReg.assign rfl rfl ?_ | refine AReg.lss rfl rfl rfl ?_ | refine AReg.leq rfl rfl rfl ?_ | refine AReg.gtr rfl rfl rfl ?_ | refine AReg.geq rfl rfl rfl ?_ | refine AReg.eql rfl rfl rfl ?_ | refine AReg.neq rfl rfl rfl ?_ | refine AReg.add rfl rfl rfl (by omega) ?_ | refine AReg.sub rfl rfl rfl (by omega) ?_ | refine AReg.not rfl rfl ?_ | refine AReg.lenS rfl rfl (tf (by rfl)) ?_ | refine AReg.idx rfl rfl rfl (tf (by rfl)) (tf (by rfl)) (by omega) ?_ | refine AReg.extract rfl rfl rfl ?_ | refine AReg.box rfl rfl rfl (tb (by rfl)) ?_ | refine AReg.alloc rfl (tf (by rfl)) rfl ?_ | refine AReg.fieldA rfl rfl (tf (by rfl)) rfl (tf (by rfl)) rfl ?_ | refine AReg.makeFunc rfl rfl rfl ?_)
  simp only [AHeap.set_next, AHeap.bump_next]
  refine AReg.opq fun τ hτ => ?_
  have hn : τ.blk σ.next = some (.cells [.int .i64 n] 3 true) := by rw [hτ]; simp only [AHeap.bump_blk]; rw [blk_ne (by simp)]; exact blk_set _ _ _
  have h4 : τ.blk (σ.next + 1) = some (.cells z25.cells.toList 25 true) := by rw [hτ]; exact blk_set _ _ _
  have hfr : ∀ c, σ.next ≤ c → c ≠ σ.next → c ≠ σ.next + 1 → τ.blk c = none := fun c h1 h2 h3 => by
    rw [hτ]; simp only [AHeap.bump_blk]; rw [blk_ne (by simpa using h3)]; simp only [AHeap.bump_blk]; rw [blk_ne h2]; exact hwf c h1
  have hnx : σ.next + 2 ≤ τ.next := by rw [hτ]; simp
  have hsub : Sub σ τ := by rw [hτ]; exact (Sub.set (Sub.set (fun _ _ h => h) _ _ (hwf _ (Nat.le_refl _))) _ _ (hwf _ (by simp)))
  clear hτ
  refine AReg.load rfl rfl (v := .int .i64 n) (aload_cell hn ty3 rfl rfl) ?_
  repeat (first | refine AGo.seq ?_ | refine AGo.skip ?_ | refine AGo.block ?_ | refine AGo.inBlock ?_ | refine AGo.scope ?_ | refine AGo.inScope ?_ | refine AGo.label ?_ | refine AGo.reg ?_ | refine AReg.nil ?_ | refine AGo.exit rfl ?_ | refine AReg.move rfl rfl ?_ | refine AReg.assign rfl rfl ?_ | refine AReg.lss rfl rfl rfl ?_ | refine AReg.leq rfl rfl rfl ?_ | refine AReg.gtr rfl rfl rfl ?_ | refine AReg.geq rfl rfl rfl ?_ | refine AReg.eql rfl rfl rfl ?_ | refine AReg.neq rfl rfl rfl ?_ | refine AReg.add rfl rfl rfl (by omega) ?_ | refine AReg.sub rfl rfl rfl (by omega) ?_ | refine AReg.not rfl rfl ?_ | refine AReg.lenS rfl rfl (tf (by rfl)) ?_ | refine AReg.idx rfl rfl rfl (tf (by rfl)) (tf (by rfl)) (by omega) ?_ | refine AReg.extract rfl rfl rfl ?_ | refine AReg.box rfl rfl rfl (tb (by rfl)) ?_ | refine AReg.alloc rfl (tf (by rfl)) rfl ?_ | refine AReg.fieldA rfl rfl (tf (by rfl)) rfl (tf (by rfl)) rfl ?_ | refine AReg.makeFunc rfl rfl rfl ?_)
  refine AGo.condD rfl (fun h => ?_) (fun h => ?_)
  · repeat (first | refine AGo.seq ?_ | refine AGo.skip ?_ | refine AGo.block ?_ | refine AGo.inBlock ?_ | refine AGo.scope ?_ | refine AGo.inScope ?_ | refine AGo.label ?_ | refine AGo.reg ?_ | refine AReg.nil ?_ | refine AGo.exit rfl ?_ | refine AReg.move rfl rfl ?_ | refine AReg.assign rfl rfl ?_ | refine AReg.lss rfl rfl rfl ?_ | refine AReg.leq rfl rfl rfl ?_ | refine AReg.gtr rfl rfl rfl ?_ | refine AReg.geq rfl rfl rfl ?_ | refine AReg.eql rfl rfl rfl ?_ | refine AReg.neq rfl rfl rfl ?_ | refine AReg.add rfl rfl rfl (by omega) ?_ | refine AReg.sub rfl rfl rfl (by omega) ?_ | refine AReg.not rfl rfl ?_ | refine AReg.lenS rfl rfl (tf (by rfl)) ?_ | refine AReg.idx rfl rfl rfl (tf (by rfl)) (tf (by rfl)) (by omega) ?_ | refine AReg.extract rfl rfl rfl ?_ | refine AReg.box rfl rfl rfl (tb (by rfl)) ?_ | refine AReg.alloc rfl (tf (by rfl)) rfl ?_ | refine AReg.fieldA rfl rfl (tf (by rfl)) rfl (tf (by rfl)) rfl ?_ | refine AReg.makeFunc rfl rfl rfl ?_)
    refine AReg.build rfl rfl (v := z25) (by simp only [abuild, ty25]; rfl) ?_
    refine AReg.store rfl rfl (astore_to (cs := z25.cells.toList) (e := 25) h4 ty25 rfl (by simp [z25, Value.cells]) rfl) ?_
    repeat (first | refine AGo.seq ?_ | refine AGo.skip ?_ | refine AGo.block ?_ | refine AGo.inBlock ?_ | refine AGo.scope ?_ | refine AGo.inScope ?_ | refine AGo.label ?_ | refine AGo.reg ?_ | refine AReg.nil ?_ | refine AGo.exit rfl ?_ | refine AReg.move rfl rfl ?_ | refine AReg.assign rfl rfl ?_ | refine AReg.lss rfl rfl rfl ?_ | refine AReg.leq rfl rfl rfl ?_ | refine AReg.gtr rfl rfl rfl ?_ | refine AReg.geq rfl rfl rfl ?_ | refine AReg.eql rfl rfl rfl ?_ | refine AReg.neq rfl rfl rfl ?_ | refine AReg.add rfl rfl rfl (by omega) ?_ | refine AReg.sub rfl rfl rfl (by omega) ?_ | refine AReg.not rfl rfl ?_ | refine AReg.lenS rfl rfl (tf (by rfl)) ?_ | refine AReg.idx rfl rfl rfl (tf (by rfl)) (tf (by rfl)) (by omega) ?_ | refine AReg.extract rfl rfl rfl ?_ | refine AReg.box rfl rfl rfl (tb (by rfl)) ?_ | refine AReg.alloc rfl (tf (by rfl)) rfl ?_ | refine AReg.fieldA rfl rfl (tf (by rfl)) rfl (tf (by rfl)) rfl ?_ | refine AReg.makeFunc rfl rfl rfl ?_)
    refine AGo.ret Try.func12 (ares_cell rfl (load25z (by simp only [AHeap.bump_blk]; exact blk_set _ _ _) (by rw [setRange_length]; rfl)) (ares_tmp rfl ares_nil)) ?_
    refine ⟨?_, ⟨_, σ.blk⟩, Gr.ofNext ?_, ?_, rfl⟩
    · simp only [packResults, fitV, fitE, if_pos h, if_pos (Or.inl h : n < 1 ∨ n > 1558)]; rfl
    · simp; omega
    · simp only [bump_bump, set_bump]
      exact Sub.set hsub _ _ (hwf _ (by omega))
  · repeat (first | refine AGo.seq ?_ | refine AGo.skip ?_ | refine AGo.block ?_ | refine AGo.inBlock ?_ | refine AGo.scope ?_ | refine AGo.inScope ?_ | refine AGo.label ?_ | refine AGo.reg ?_ | refine AReg.nil ?_ | refine AGo.exit rfl ?_ | refine AReg.move rfl rfl ?_ | refine AReg.assign rfl rfl ?_ | refine AReg.lss rfl rfl rfl ?_ | refine AReg.leq rfl rfl rfl ?_ | refine AReg.gtr rfl rfl rfl ?_ | refine AReg.geq rfl rfl rfl ?_ | refine AReg.eql rfl rfl rfl ?_ | refine AReg.neq rfl rfl rfl ?_ | refine AReg.add rfl rfl rfl (by omega) ?_ | refine AReg.sub rfl rfl rfl (by omega) ?_ | refine AReg.not rfl rfl ?_ | refine AReg.lenS rfl rfl (tf (by rfl)) ?_ | refine AReg.idx rfl rfl rfl (tf (by rfl)) (tf (by rfl)) (by omega) ?_ | refine AReg.extract rfl rfl rfl ?_ | refine AReg.box rfl rfl rfl (tb (by rfl)) ?_ | refine AReg.alloc rfl (tf (by rfl)) rfl ?_ | refine AReg.fieldA rfl rfl (tf (by rfl)) rfl (tf (by rfl)) rfl ?_ | refine AReg.makeFunc rfl rfl rfl ?_)
    refine AReg.load rfl rfl (v := .int .i64 n) (aload_cell (by simp only [AHeap.bump_blk]; exact hn) ty3 rfl rfl) ?_
    repeat (first | refine AGo.seq ?_ | refine AGo.skip ?_ | refine AGo.block ?_ | refine AGo.inBlock ?_ | refine AGo.scope ?_ | refine AGo.inScope ?_ | refine AGo.label ?_ | refine AGo.reg ?_ | refine AReg.nil ?_ | refine AGo.exit rfl ?_ | refine AReg.move rfl rfl ?_ | refine AReg.assign rfl rfl ?_ | refine AReg.lss rfl rfl rfl ?_ | refine AReg.leq rfl rfl rfl ?_ | refine AReg.gtr rfl rfl rfl ?_ | refine AReg.geq rfl rfl rfl ?_ | refine AReg.eql rfl rfl rfl ?_ | refine AReg.neq rfl rfl rfl ?_ | refine AReg.add rfl rfl rfl (by omega) ?_ | refine AReg.sub rfl rfl rfl (by omega) ?_ | refine AReg.not rfl rfl ?_ | refine AReg.lenS rfl rfl (tf (by rfl)) ?_ | refine AReg.idx rfl rfl rfl (tf (by rfl)) (tf (by rfl)) (by omega) ?_ | refine AReg.extract rfl rfl rfl ?_ | refine AReg.box rfl rfl rfl (tb (by rfl)) ?_ | refine AReg.alloc rfl (tf (by rfl)) rfl ?_ | refine AReg.fieldA rfl rfl (tf (by rfl)) rfl (tf (by rfl)) rfl ?_ | refine AReg.makeFunc rfl rfl rfl ?_)
    refine AGo.condD rfl (fun h2 => ?_) (fun h2 => ?_)
    · repeat (first | refine AGo.seq ?_ | refine AGo.skip ?_ | refine AGo.block ?_ | refine AGo.inBlock ?_ | refine AGo.scope ?_ | refine AGo.inScope ?_ | refine AGo.label ?_ | refine AGo.reg ?_ | refine AReg.nil ?_ | refine AGo.exit rfl ?_ | refine AReg.move rfl rfl ?_ | refine AReg.assign rfl rfl ?_ | refine AReg.lss rfl rfl rfl ?_ | refine AReg.leq rfl rfl rfl ?_ | refine AReg.gtr rfl rfl rfl ?_ | refine AReg.geq rfl rfl rfl ?_ | refine AReg.eql rfl rfl rfl ?_ | refine AReg.neq rfl rfl rfl ?_ | refine AReg.add rfl rfl rfl (by omega) ?_ | refine AReg.sub rfl rfl rfl (by omega) ?_ | refine AReg.not rfl rfl ?_ | refine AReg.lenS rfl rfl (tf (by rfl)) ?_ | refine AReg.idx rfl rfl rfl (tf (by rfl)) (tf (by rfl)) (by omega) ?_ | refine AReg.extract rfl rfl rfl ?_ | refine AReg.box rfl rfl rfl (tb (by rfl)) ?_ | refine AReg.alloc rfl (tf (by rfl)) rfl ?_ | refine AReg.fieldA rfl rfl (tf (by rfl)) rfl (tf (by rfl)) rfl ?_ | refine AReg.makeFunc rfl rfl rfl ?_)
      refine AReg.build rfl rfl (v := z25) (by simp only [abuild, ty25]; rfl) ?_
      refine AReg.store rfl rfl (astore_to (cs := z25.cells.toList) (e := 25) h4 ty25 rfl (by simp [z25, Value.cells]) rfl) ?_
      repeat (first | refine AGo.seq ?_ | refine AGo.skip ?_ | refine AGo.block ?_ | refine AGo.inBlock ?_ | refine AGo.scope ?_ | refine AGo.inScope ?_ | refine AGo.label ?_ | refine AGo.reg ?_ | refine AReg.nil ?_ | refine AGo.exit rfl ?_ | refine AReg.move rfl rfl ?_ | refine AReg.assign rfl rfl ?_ | refine AReg.lss rfl rfl rfl ?_ | refine AReg.leq rfl rfl rfl ?_ | refine AReg.gtr rfl rfl rfl ?_ | refine AReg.geq rfl rfl rfl ?_ | refine AReg.eql rfl rfl rfl ?_ | refine AReg.neq rfl rfl rfl ?_ | refine AReg.add rfl rfl rfl (by omega) ?_ | refine AReg.sub rfl rfl rfl (by omega) ?_ | refine AReg.not rfl rfl ?_ | refine AReg.lenS rfl rfl (tf (by rfl)) ?_ | refine AReg.idx rfl rfl rfl (tf (by rfl)) (tf (by rfl)) (by omega) ?_ | refine AReg.extract rfl rfl rfl ?_ | refine AReg.box rfl rfl rfl (tb (by rfl)) ?_ | refine AReg.alloc rfl (tf (by rfl)) rfl ?_ | refine AReg.fieldA rfl rfl (tf (by rfl)) rfl (tf (by rfl)) rfl ?_ | refine AReg.makeFunc rfl rfl rfl ?_)
      refine AGo.ret Try.func12 (ares_cell rfl (load25z (by simp only [AHeap.bump_blk]; exact blk_set _ _ _) (by rw [setRange_length]; rfl)) (ares_tmp rfl ares_nil)) ?_
      refine ⟨?_, ⟨_, σ.blk⟩, Gr.ofNext ?_, ?_, rfl⟩
      · simp only [packResults, fitV, fitE, if_neg h, if_pos h2, if_pos (Or.inr h2 : n < 1 ∨ n > 1558)]; rfl
      · simp; omega
      · simp only [bump_bump, set_bump]
        exact Sub.set hsub _ _ (hwf _ (by omega))
    · repeat (first | refine AGo.seq ?_ | refine AGo.skip ?_ | refine AGo.block ?_ | refine AGo.inBlock ?_ | refine AGo.scope ?_ | refine AGo.inScope ?_ | refine AGo.label ?_ | refine AGo.reg ?_ | refine AReg.nil ?_ | refine AGo.exit rfl ?_ | refine AReg.move rfl rfl ?_ | refine AReg.assign rfl rfl ?_ | refine AReg.lss rfl rfl rfl ?_ | refine AReg.leq rfl rfl rfl ?_ | refine AReg.gtr rfl rfl rfl ?_ | refine AReg.geq rfl rfl rfl ?_ | refine AReg.eql rfl rfl rfl ?_ | refine AReg.neq rfl rfl rfl ?_ | refine AReg.add rfl rfl rfl (by omega) ?_ | refine AReg.sub rfl rfl rfl (by omega) ?_ | refine AReg.not rfl rfl ?_ | refine AReg.lenS rfl rfl (tf (by rfl)) ?_ | refine AReg.idx rfl rfl rfl (tf (by rfl)) (tf (by rfl)) (by omega) ?_ | refine AReg.extract rfl rfl rfl ?_ | refine AReg.box rfl rfl rfl (tb (by rfl)) ?_ | refine AReg.alloc rfl (tf (by rfl)) rfl ?_ | refine AReg.fieldA rfl rfl (tf (by rfl)) rfl (tf (by rfl)) rfl ?_ | refine AReg.makeFunc rfl rfl rfl ?_)
      refine AReg.go rfl rfl (by kernel_rfl) (sizes _ _ fun b τ1 hb1 hb2 hg1 => ?_)
      have hb1 : τ.next ≤ b := by simp at hb1; omega
      have hτ1 : ∀ c, c ≠ b → τ1.blk c = τ.blk c := fun c hc => by rw [hg1.blk, blk_ne hc]; rfl
      have hτb : τ1.blk b = some (.cells sizeCells 25 true) := by rw [hg1.blk]; exact blk_set _ _ _
      repeat (first | refine AGo.seq ?_ | refine AGo.skip ?_ | refine AGo.block ?_ | refine AGo.inBlock ?_ | refine AGo.scope ?_ | refine AGo.inScope ?_ | refine AGo.label ?_ | refine AGo.reg ?_ | refine AReg.nil ?_ | refine AGo.exit rfl ?_ | refine AReg.move rfl rfl ?_ | refine AReg.assign rfl rfl ?_ | refine AReg.lss rfl rfl rfl ?_ | refine AReg.leq rfl rfl rfl ?_ | refine AReg.gtr rfl rfl rfl ?_ | refine AReg.geq rfl rfl rfl ?_ | refine AReg.eql rfl rfl rfl ?_ | refine AReg.neq rfl rfl rfl ?_ | refine AReg.add rfl rfl rfl (by omega) ?_ | refine AReg.sub rfl rfl rfl (by omega) ?_ | refine AReg.not rfl rfl ?_ | refine AReg.lenS rfl rfl (tf (by rfl)) ?_ | refine AReg.idx rfl rfl rfl (tf (by rfl)) (tf (by rfl)) (by omega) ?_ | refine AReg.extract rfl rfl rfl ?_ | refine AReg.box rfl rfl rfl (tb (by rfl)) ?_ | refine AReg.alloc rfl (tf (by rfl)) rfl ?_ | refine AReg.fieldA rfl rfl (tf (by rfl)) rfl (tf (by rfl)) rfl ?_ | refine AReg.makeFunc rfl rfl rfl ?_)
      refine AGo.condJ (fun fr' τ' => ∃ len, len = (if sq then 24 else 30) ∧ Has [(6, .slice (some ⟨b, 0, none⟩) len 30), (2, .pointer (some ⟨σ.next, 0, none⟩)), (4, .pointer (some ⟨σ.next + 1, 0, none⟩))] fr' ∧ Gr τ1 τ') rfl (fun hs next => ?_) (fun hs next => ?_) ?_
      · refine AGo.reg (AReg.move rfl rfl (AReg.slc rfl rfl rfl rfl (w := .slice (some ⟨b, 0, none⟩) 24 30) (slc_hi (w := 24) (kd := .i64) (rw := true) (by simp only [AHeap.bump_blk]; exact hτb) (by omega)) (AReg.assign rfl rfl (AReg.nil ?_))))
        refine next _ _ ⟨24, by simp [hs], ⟨?_, ?_, ?_, trivial⟩, (by repeat (first | exact Gr.refl _ | assumption | refine Gr.b ?_ _))⟩ <;> rfl
      · refine AGo.skip ?_
        refine next _ _ ⟨30, by simp [hs], ⟨?_, ?_, ?_, trivial⟩, (by repeat (first | exact Gr.refl _ | assumption | refine Gr.b ?_ _))⟩ <;> rfl
      rintro fr2 τ2 ⟨len, hlen, hH, hg2⟩
      refine AGo.has hH ?_
      repeat (first | refine AGo.seq ?_ | refine AGo.skip ?_ | refine AGo.block ?_ | refine AGo.inBlock ?_ | refine AGo.scope ?_ | refine AGo.inScope ?_ | refine AGo.label ?_ | refine AGo.reg ?_ | refine AReg.nil ?_ | refine AGo.exit rfl ?_ | refine AReg.move rfl rfl ?_ | refine AReg.assign rfl rfl ?_ | refine AReg.lss rfl rfl rfl ?_ | refine AReg.leq rfl rfl rfl ?_ | refine AReg.gtr rfl rfl rfl ?_ | refine AReg.geq rfl rfl rfl ?_ | refine AReg.eql rfl rfl rfl ?_ | refine AReg.neq rfl rfl rfl ?_ | refine AReg.add rfl rfl rfl (by omega) ?_ | refine AReg.sub rfl rfl rfl (by omega) ?_ | refine AReg.not rfl rfl ?_ | refine AReg.lenS rfl rfl (tf (by rfl)) ?_ | refine AReg.idx rfl rfl rfl (tf (by rfl)) (tf (by rfl)) (by omega) ?_ | refine AReg.extract rfl rfl rfl ?_ | refine AReg.box rfl rfl rfl (tb (by rfl)) ?_ | refine AReg.alloc rfl (tf (by rfl)) rfl ?_ | refine AReg.fieldA rfl rfl (tf (by rfl)) rfl (tf (by rfl)) rfl ?_ | refine AReg.makeFunc rfl rfl rfl ?_)
      have hτ2 : ∀ c, c ≠ b → τ2.blk c = τ.blk c := fun c hc => by rw [hg2.blk, hτ1 c hc]
      have hb2' : b < τ2.next := Nat.lt_of_lt_of_le hb2 hg2.next
      have hl30 : len ≤ 30 := by rw [hlen]; split <;> omega
      refine AReg.go rfl rfl (by kernel_rfl) ?_
      refine (deleteFunc b len 30 30 sizeCells 26 #[] #[.pointer (some ⟨σ.next, 0, none⟩)] (fun i => decide (dataOf i < n)) _ (by omega) (by simp only [AHeap.bump_blk]; rw [hg2.blk]; exact hτb) (by simp; omega) sizeCells_len hl30 hl30 (by kernel_rfl) (fun i υ hi hn1 hn2 => ?_)).mono ?_
      · refine fit1r _ (dataOf i) n σ.next υ (dataOf_ok i (by omega)) (by simp at hn1; omega) ?_
        refine aload_cell (cs := [.int .i64 n]) (e := 3) (rw := true) ?_ ty3 rfl rfl
        rw [hn2 _ (by omega) (by simp; omega)]
        simp only [AHeap.bump_blk]
        rw [hτ2 _ (by omega)]; exact hn
      rintro _ σ4 ⟨rfl, cs', hcs', hrow, hg4⟩
      have hσ4 : ∀ c, c ≠ b → σ4.blk c = τ.blk c := fun c hc => by rw [hg4.blk, blk_ne hc]; simp only [AHeap.bump_blk]; exact hτ2 c hc
      have hσ4b : σ4.blk b = some (.cells cs' 25 true) := by rw [hg4.blk]; exact blk_set _ _ _
      have hb4 : b < σ4.next := by have := hg4.next; simp at this; omega
      have hcs7 : cs'.length = 30 * 7 := hcs'.trans sizeCells_len
      generalize hK : kept (fun i => decide (dataOf i < n)) len = K at *
      have hKf : K = fitKept n sq := by rw [← hK, fitKept, ← hlen]
      have h23 : 23 ∈ K := by
        rw [← hK]; simp only [kept, List.mem_filter, List.mem_range, dataOf_big]
        exact ⟨by rw [hlen]; split <;> omega, by simp; omega⟩
      obtain ⟨k, hk⟩ : ∃ k, K.length = k + 1 := by
        cases hKl : K.length with
        | zero => rw [List.length_eq_zero_iff] at hKl; rw [hKl] at h23; cases h23
        | succ k => exact ⟨k, rfl⟩
      have hKlen : K.length ≤ 30 := by rw [← hK]; exact Nat.le_trans (kept_len _ _) hl30
      have hKi : ∀ i, i ≤ k → K[i]? = some (K.getD i 0) ∧ K.getD i 0 < 30 := fun i hi => by
        have hlt : i < K.length := by omega
        refine ⟨by simp [List.getD_eq_getElem?_getD, List.getElem?_eq_getElem hlt], ?_⟩
        have hm : K.getD i 0 ∈ K := by simp [List.getD_eq_getElem?_getD, List.getElem?_eq_getElem hlt]
        have : K.getD i 0 < len := by
          rw [← hK] at hm
          simp only [kept, List.mem_filter, List.mem_range] at hm
          rw [← hK]; exact hm.1
        omega
      rw [hk]
      repeat (first | refine AGo.seq ?_ | refine AGo.skip ?_ | refine AGo.block ?_ | refine AGo.inBlock ?_ | refine AGo.scope ?_ | refine AGo.inScope ?_ | refine AGo.label ?_ | refine AGo.reg ?_ | refine AReg.nil ?_ | refine AGo.exit rfl ?_ | refine AReg.move rfl rfl ?_ | refine AReg.assign rfl rfl ?_ | refine AReg.lss rfl rfl rfl ?_ | refine AReg.leq rfl rfl rfl ?_ | refine AReg.gtr rfl rfl rfl ?_ | refine AReg.geq rfl rfl rfl ?_ | refine AReg.eql rfl rfl rfl ?_ | refine AReg.neq rfl rfl rfl ?_ | refine AReg.add rfl rfl rfl (by omega) ?_ | refine AReg.sub rfl rfl rfl (by omega) ?_ | refine AReg.not rfl rfl ?_ | refine AReg.lenS rfl rfl (tf (by rfl)) ?_ | refine AReg.idx rfl rfl rfl (tf (by rfl)) (tf (by rfl)) (by omega) ?_ | refine AReg.extract rfl rfl rfl ?_ | refine AReg.box rfl rfl rfl (tb (by rfl)) ?_ | refine AReg.alloc rfl (tf (by rfl)) rfl ?_ | refine AReg.fieldA rfl rfl (tf (by rfl)) rfl (tf (by rfl)) rfl ?_ | refine AReg.makeFunc rfl rfl rfl ?_)
      refine AReg.go rfl rfl (by kernel_rfl) ?_
      refine (minFunc b k 30 30 cs' (fun i => dataOf (K.getD i 0)) _ (by omega) (by simp only [AHeap.bump_blk]; exact hσ4b) (by simp; omega) hcs7 (by omega) (fun i hi => ?_)).mono ?_
      · rw [hrow i _ (hKi i hi).1]; exact dataOf_ok _ (hKi i hi).2
      rintro _ σ5 ⟨rfl, hg5⟩
      have hml := minI_le (fun i => dataOf (K.getD i 0)) k
      have h45 : σ5.blk (σ.next + 1) = some (.cells z25.cells.toList 25 true) := by rw [hg5.blk]; simp only [AHeap.bump_blk]; rw [hσ4 _ (by omega)]; exact h4
      have hrl : (rowOf cs' (minI (fun i => dataOf (K.getD i 0)) k)).length = 7 := rowOf_len hcs7 (by omega)
      refine AReg.store rfl rfl (astore_to (cs := z25.cells.toList) (e := 25) (by simp only [AHeap.bump_blk]; exact h45) ty25 ?_ (by simp [z25, Value.cells]) rfl) ?_
      · simp only [E, Value.cells]; simpa using hrl
      repeat (first | refine AGo.seq ?_ | refine AGo.skip ?_ | refine AGo.block ?_ | refine AGo.inBlock ?_ | refine AGo.scope ?_ | refine AGo.inScope ?_ | refine AGo.label ?_ | refine AGo.reg ?_ | refine AReg.nil ?_ | refine AGo.exit rfl ?_ | refine AReg.move rfl rfl ?_ | refine AReg.assign rfl rfl ?_ | refine AReg.lss rfl rfl rfl ?_ | refine AReg.leq rfl rfl rfl ?_ | refine AReg.gtr rfl rfl rfl ?_ | refine AReg.geq rfl rfl rfl ?_ | refine AReg.eql rfl rfl rfl ?_ | refine AReg.neq rfl rfl rfl ?_ | refine AReg.add rfl rfl rfl (by omega) ?_ | refine AReg.sub rfl rfl rfl (by omega) ?_ | refine AReg.not rfl rfl ?_ | refine AReg.lenS rfl rfl (tf (by rfl)) ?_ | refine AReg.idx rfl rfl rfl (tf (by rfl)) (tf (by rfl)) (by omega) ?_ | refine AReg.extract rfl rfl rfl ?_ | refine AReg.box rfl rfl rfl (tb (by rfl)) ?_ | refine AReg.alloc rfl (tf (by rfl)) rfl ?_ | refine AReg.fieldA rfl rfl (tf (by rfl)) rfl (tf (by rfl)) rfl ?_ | refine AReg.makeFunc rfl rfl rfl ?_)
      have e1 : setRange z25.cells.toList 0 (E cs' (minI (fun i => dataOf (K.getD i 0)) k)).cells.toList = rowOf cs' (minI (fun i => dataOf (K.getD i 0)) k) := by
        rw [setRange_full (show (E cs' _).cells.toList.length = z25.cells.toList.length from hrl.trans rfl)]
        simp [E, Value.cells]
      simp only [e1]
      refine AGo.ret Try.func12 (ares_cell rfl (load25z (by simp only [AHeap.bump_blk]; exact blk_set _ _ _) hrl) (ares_tmp rfl ares_nil)) ?_
      refine ⟨?_, ⟨_, σ.blk⟩, Gr.ofNext ?_, ?_, rfl⟩
      · have hnn : ¬ (n < 1 ∨ n > 1558) := by omega
        rw [hrow _ _ (hKi _ hml).1]
        simp only [packResults, fitV, fitE, if_neg h, if_neg h2, if_neg hnn, fitRow, ← hKf, hk, Nat.add_sub_cancel]
        rfl
      · have := hg5.next; have := hg4.next; have := hg2.next; simp at *; omega
      · have hs5 : Sub σ σ5 := fun c x hc => by
          have hcl : c < σ.next := by
            rcases Nat.lt_or_ge c σ.next with hlt | hge
            · exact hlt
            · rw [hwf c hge] at hc; cases hc
          rw [hg5.blk]; simp only [AHeap.bump_blk]; rw [hσ4 _ (by omega)]; exact hsub c x hc
        simp only [bump_bump, set_bump]
        exact Sub.set hs5 _ _ (hwf _ (by omega))
end Go.Abs.Lay
