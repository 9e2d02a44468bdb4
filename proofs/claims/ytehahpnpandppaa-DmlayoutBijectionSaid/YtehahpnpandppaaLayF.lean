/- A part of the proof: contracts of functions of the program, shown by walking through their code in an abstract machine. Condition: none. -/
import Derived.Test.YtehahpnpandppaaLayE
import Derived.Test.YtehahpnpandppaaLayK
import Derived.Test.YtehahpnpandppaaAbsGr4
set_option linter.unusedVariables false
set_option linter.unusedSimpArgs false
namespace Go.Abs.Lay
open Go Go.Proofs
-- @TY ty3, ty4, ty22, ty25
set_option maxHeartbeats 1000000

/-- The first of the least among the first n + 1. -/
def minI (d : Nat → Int) : Nat → Nat
  | 0 => 0
  | n + 1 => if d (n + 1) < d (minI d n) then n + 1 else minI d n
theorem minI_le (d : Nat → Int) : ∀ n, minI d n ≤ n
  | 0 => Nat.le_refl _
  | n + 1 => by simp only [minI]; have := minI_le d n; split <;> omega
theorem cmpI_neg (a b : Int) : cmpI a b < 0 ↔ a < b := by unfold cmpI; split <;> (try split) <;> omega

/-- slices.MinFunc over sizes, by Fit's second function -/
theorem minFunc (b n cap m : Nat) (cs : List Value) (d : Nat → Int) (σ : AHeap) (hlen : n + 1 ≤ 9223372036854775806) (hb : σ.blk b = some (.cells cs 25 true)) (hbn : b < σ.next) (hcs : cs.length = m * 7) (hlm : n + 1 ≤ m)
    (hd : ∀ i, i ≤ n → (rowOf cs i)[4]? = some (.int .i64 (d i))) :
    ACalls Try.prog 27 [.slice (some ⟨b, 0, none⟩) (n + 1) cap, .func (.func 28) #[] #[]] σ fun v σ' => v = E cs (minI d n) ∧ Gr σ σ' := by
  refine ACalls.wf fun hwf => ?_
  refine ACalls.drop (Q := fun v => v = E cs (minI d n)) ?_
  refine ACalls.enter Try.func27 rfl (by rw [Try.ntmps27]; simp) ?_
  rw [Try.ntmps27]
  repeat (first | refine AGo.seq ?_ | refine AGo.skip ?_ | refine AGo.block ?_ | refine AGo.inBlock ?_ | refine AGo.scope ?_ | refine AGo.inScope ?_ | refine AGo.label ?_ | refine AGo.reg ?_ | refine AReg.nil ?_ | refine AGo.exit rfl ?_ | refine AReg.move rfl rfl ?_ | refine AReg.assign rfl rfl ?_ | refine AReg.lss rfl rfl rfl ?_ | refine AReg.leq rfl rfl rfl ?_ | refine AReg.gtr rfl rfl rfl ?_ | refine AReg.geq rfl rfl rfl ?_ | refine AReg.eql rfl rfl rfl ?_ | refine AReg.neq rfl rfl rfl ?_ | refine AReg.add rfl rfl rfl (by omega) ?_ | refine AReg.sub rfl rfl rfl (by omega) ?_ | refine AReg.not rfl rfl ?_ | refine AReg.lenS rfl rfl (tf (by rfl)) ?_ | refine AReg.idx rfl rfl rfl (tf (by rfl)) (tf (by rfl)) (by omega) ?_ | refine AReg.extract rfl rfl rfl ?_ | refine AReg.box rfl rfl rfl (tb (by rfl)) ?_ | refine AReg.alloc rfl (tf (by rfl)) rfl ?_ | refine AReg.fieldA rfl rfl (tf (by rfl)) rfl (tf (by rfl)) rfl ?_ | refine AReg.makeFunc rfl rfl rfl ?_)
  refine AGo.condD rfl (fun h => by omega) (fun h => ?_)
  repeat (first | refine AGo.seq ?_ | refine AGo.skip ?_ | refine AGo.block ?_ | refine AGo.inBlock ?_ | refine AGo.scope ?_ | refine AGo.inScope ?_ | refine AGo.label ?_ | refine AGo.reg ?_ | refine AReg.nil ?_ | refine AGo.exit rfl ?_ | refine AReg.move rfl rfl ?_ | refine AReg.assign rfl rfl ?_ | refine AReg.lss rfl rfl rfl ?_ | refine AReg.leq rfl rfl rfl ?_ | refine AReg.gtr rfl rfl rfl ?_ | refine AReg.geq rfl rfl rfl ?_ | refine AReg.eql rfl rfl rfl ?_ | refine AReg.neq rfl rfl rfl ?_ | refine AReg.add rfl rfl rfl (by omega) ?_ | refine AReg.sub rfl rfl rfl (by omega) ?_ | refine AReg.not rfl rfl ?_ | refine AReg.lenS rfl rfl (tf (by rfl)) ?_ | refine AReg.idx rfl rfl rfl (tf (by rfl)) (tf (by rfl)) (by omega) ?_ | refine AReg.extract rfl rfl rfl ?_ | refine AReg.box rfl rfl rfl (tb (by rfl)) ?_ | refine AReg.alloc rfl (tf (by rfl)) rfl ?_ | refine AReg.fieldA rfl rfl (tf (by rfl)) rfl (tf (by rfl)) rfl ?_ | refine AReg.makeFunc rfl rfl rfl ?_)
  refine AReg.idx (j := 0) rfl rfl rfl ty22 ty25 (by omega) ?_
  refine AReg.load rfl rfl (aload_row (rw := true) (by simp only [AHeap.bump_blk]; rw [blk_ne (by omega)]; exact hb) hcs (by omega)) ?_
  repeat (first | refine AGo.seq ?_ | refine AGo.skip ?_ | refine AGo.block ?_ | refine AGo.inBlock ?_ | refine AGo.scope ?_ | refine AGo.inScope ?_ | refine AGo.label ?_ | refine AGo.reg ?_ | refine AReg.nil ?_ | refine AGo.exit rfl ?_ | refine AReg.move rfl rfl ?_ | refine AReg.assign rfl rfl ?_ | refine AReg.lss rfl rfl rfl ?_ | refine AReg.leq rfl rfl rfl ?_ | refine AReg.gtr rfl rfl rfl ?_ | refine AReg.geq rfl rfl rfl ?_ | refine AReg.eql rfl rfl rfl ?_ | refine AReg.neq rfl rfl rfl ?_ | refine AReg.add rfl rfl rfl (by omega) ?_ | refine AReg.sub rfl rfl rfl (by omega) ?_ | refine AReg.not rfl rfl ?_ | refine AReg.lenS rfl rfl (tf (by rfl)) ?_ | refine AReg.idx rfl rfl rfl (tf (by rfl)) (tf (by rfl)) (by omega) ?_ | refine AReg.extract rfl rfl rfl ?_ | refine AReg.box rfl rfl rfl (tb (by rfl)) ?_ | refine AReg.alloc rfl (tf (by rfl)) rfl ?_ | refine AReg.fieldA rfl rfl (tf (by rfl)) rfl (tf (by rfl)) rfl ?_ | refine AReg.makeFunc rfl rfl rfl ?_)
  refine AReg.store rfl rfl (storeNew (by simp [Value.cells]) (rowOf_len hcs (by omega))) ?_
  repeat (first | refine AGo.seq ?_ | refine AGo.skip ?_ | refine AGo.block ?_ | refine AGo.inBlock ?_ | refine AGo.scope ?_ | refine AGo.inScope ?_ | refine AGo.label ?_ | refine AGo.reg ?_ | refine AReg.nil ?_ | refine AGo.exit rfl ?_ | refine AReg.move rfl rfl ?_ | refine AReg.assign rfl rfl ?_ | refine AReg.lss rfl rfl rfl ?_ | refine AReg.leq rfl rfl rfl ?_ | refine AReg.gtr rfl rfl rfl ?_ | refine AReg.geq rfl rfl rfl ?_ | refine AReg.eql rfl rfl rfl ?_ | refine AReg.neq rfl rfl rfl ?_ | refine AReg.add rfl rfl rfl (by omega) ?_ | refine AReg.sub rfl rfl rfl (by omega) ?_ | refine AReg.not rfl rfl ?_ | refine AReg.lenS rfl rfl (tf (by rfl)) ?_ | refine AReg.idx rfl rfl rfl (tf (by rfl)) (tf (by rfl)) (by omega) ?_ | refine AReg.extract rfl rfl rfl ?_ | refine AReg.box rfl rfl rfl (tb (by rfl)) ?_ | refine AReg.alloc rfl (tf (by rfl)) rfl ?_ | refine AReg.fieldA rfl rfl (tf (by rfl)) rfl (tf (by rfl)) rfl ?_ | refine AReg.makeFunc rfl rfl rfl ?_)
  obtain ⟨c5, hc5⟩ : ∃ c5, c5 = ((((((((σ.bump 1).set σ.next (ABlk.cells z25.cells.toList 25 true)).bump 1).bump 1).bump 1).bump 1).bump 1).bump 1).next := ⟨_, rfl⟩
  have hc5n : c5 = σ.next + 7 := by rw [hc5]; simp
  refine AGo.loop ?_
  refine AGo.loopI (ι := Nat) (F := fun i => [(0, .slice (some ⟨b, 0, none⟩) (n + 1) cap), (1, .func (.func 28) #[] #[]), (4, .pointer (some ⟨σ.next, 0, none⟩)), (5, .pointer (some ⟨c5, 0, none⟩)), (6, .int .i64 ((i + 1 : Nat) : Int))])
    (S := fun i τ => i ≤ n ∧ Gr (((σ.bump 8).set σ.next (.cells z25.cells.toList 25 true)).set c5 (.cells (rowOf cs (minI d i)) 25 true)) τ)
    (μ := fun i => n - i) ?_ (x0 := 0) ⟨by omega, ?_⟩ ⟨rfl, rfl, rfl, by rw [hc5]; rfl, rfl, trivial⟩
  · rintro i τ ⟨hin, hgr⟩ next
    have hτb : τ.blk b = some (.cells cs 25 true) := by rw [hgr.blk, blk_ne (by omega), blk_ne (by omega)]; exact hb
    have hτ4 : τ.blk σ.next = some (.cells z25.cells.toList 25 true) := by rw [hgr.blk, blk_ne (by omega)]; exact blk_set _ _ _
    have hτ5 : τ.blk c5 = some (.cells (rowOf cs (minI d i)) 25 true) := by rw [hgr.blk]; exact blk_set _ _ _
    have hml := minI_le d i
    repeat (first | refine AGo.seq ?_ | refine AGo.skip ?_ | refine AGo.block ?_ | refine AGo.inBlock ?_ | refine AGo.scope ?_ | refine AGo.inScope ?_ | refine AGo.label ?_ | refine AGo.reg ?_ | refine AReg.nil ?_ | refine AGo.exit rfl ?_ | refine AReg.move rfl rfl ?_ | refine AReg.assign rfl rfl ?_ | refine AReg.lss rfl rfl rfl ?_ | refine AReg.leq rfl rfl rfl ?_ | refine AReg.gtr rfl rfl rfl ?_ | refine AReg.geq rfl rfl rfl ?_ | refine AReg.eql rfl rfl rfl ?_ | refine AReg.neq rfl rfl rfl ?_ | refine AReg.add rfl rfl rfl (by omega) ?_ | refine AReg.sub rfl rfl rfl (by omega) ?_ | refine AReg.not rfl rfl ?_ | refine AReg.lenS rfl rfl (tf (by rfl)) ?_ | refine AReg.idx rfl rfl rfl (tf (by rfl)) (tf (by rfl)) (by omega) ?_ | refine AReg.extract rfl rfl rfl ?_ | refine AReg.box rfl rfl rfl (tb (by rfl)) ?_ | refine AReg.alloc rfl (tf (by rfl)) rfl ?_ | refine AReg.fieldA rfl rfl (tf (by rfl)) rfl (tf (by rfl)) rfl ?_ | refine AReg.makeFunc rfl rfl rfl ?_)
    refine AGo.condD rfl (fun h => ?_) (fun h => ?_)
    · have h : i + 1 < n + 1 := by simpa using h
      repeat (first | refine AGo.seq ?_ | refine AGo.skip ?_ | refine AGo.block ?_ | refine AGo.inBlock ?_ | refine AGo.scope ?_ | refine AGo.inScope ?_ | refine AGo.label ?_ | refine AGo.reg ?_ | refine AReg.nil ?_ | refine AGo.exit rfl ?_ | refine AReg.move rfl rfl ?_ | refine AReg.assign rfl rfl ?_ | refine AReg.lss rfl rfl rfl ?_ | refine AReg.leq rfl rfl rfl ?_ | refine AReg.gtr rfl rfl rfl ?_ | refine AReg.geq rfl rfl rfl ?_ | refine AReg.eql rfl rfl rfl ?_ | refine AReg.neq rfl rfl rfl ?_ | refine AReg.add rfl rfl rfl (by omega) ?_ | refine AReg.sub rfl rfl rfl (by omega) ?_ | refine AReg.not rfl rfl ?_ | refine AReg.lenS rfl rfl (tf (by rfl)) ?_ | refine AReg.idx rfl rfl rfl (tf (by rfl)) (tf (by rfl)) (by omega) ?_ | refine AReg.extract rfl rfl rfl ?_ | refine AReg.box rfl rfl rfl (tb (by rfl)) ?_ | refine AReg.alloc rfl (tf (by rfl)) rfl ?_ | refine AReg.fieldA rfl rfl (tf (by rfl)) rfl (tf (by rfl)) rfl ?_ | refine AReg.makeFunc rfl rfl rfl ?_)
      refine AGo.draw1 (A := [0, 1, 2, 3, 4, 5]) (Af := [7]) (e := 6) mixed (by kernel_rfl)
        (NR.cons rfl rfl rfl (ae_move rfl) <| NR.cons rfl rfl rfl (ae_move rfl) <| NR.cons rfl rfl rfl (ae_move rfl) <| NR.cons rfl rfl rfl (ae_idx rfl rfl ty22 ty25 h) <|
          NR.cons rfl rfl rfl (ae_load rfl (aload_row (rw := true) (by simp only [AHeap.bump_blk]; exact hτb) hcs (by omega))) <|
          NR.cons rfl rfl rfl (ae_load rfl (aload_agg (by simp only [AHeap.bump_blk]; exact hτ5) ty25 rfl (by simp only; rw [rowOf_len hcs (by omega)]; exact Nat.le_refl _))) <| NR.nil _) rfl rfl rfl (by kernel_rfl) ?_
      refine (fit2 _ _ (d (i + 1)) (d (minI d i)) _ (hd _ (by omega)) ?_).mono ?_
      · simp only [List.drop_zero]
        rw [List.take_of_length_le (by rw [rowOf_len hcs (by omega)]; exact Nat.le_refl _)]
        exact hd _ (by omega)
      rintro _ σ3 ⟨rfl, hg3⟩
      refine ⟨_, _, NR.cons rfl rfl rfl (ae_lss rfl rfl) (NR.nil _), ?_⟩
      replace hg3 : Gr τ σ3 := Gr.trans (by repeat (first | exact Gr.refl _ | assumption | refine Gr.b ?_ _)) hg3
      refine AGo.condD rfl (fun hlt => ?_) (fun hlt => ?_)
      · have hlt := (cmpI_neg _ _).1 hlt
        repeat (first | refine AGo.seq ?_ | refine AGo.skip ?_ | refine AGo.block ?_ | refine AGo.inBlock ?_ | refine AGo.scope ?_ | refine AGo.inScope ?_ | refine AGo.label ?_ | refine AGo.reg ?_ | refine AReg.nil ?_ | refine AGo.exit rfl ?_ | refine AReg.move rfl rfl ?_ | refine AReg.assign rfl rfl ?_ | refine AReg.lss rfl rfl rfl ?_ | refine AReg.leq rfl rfl rfl ?_ | refine AReg.gtr rfl rfl rfl ?_ | refine AReg.geq rfl rfl rfl ?_ | refine AReg.eql rfl rfl rfl ?_ | refine AReg.neq rfl rfl rfl ?_ | refine AReg.add rfl rfl rfl (by omega) ?_ | refine AReg.sub rfl rfl rfl (by omega) ?_ | refine AReg.not rfl rfl ?_ | refine AReg.lenS rfl rfl (tf (by rfl)) ?_ | refine AReg.idx rfl rfl rfl (tf (by rfl)) (tf (by rfl)) (by omega) ?_ | refine AReg.extract rfl rfl rfl ?_ | refine AReg.box rfl rfl rfl (tb (by rfl)) ?_ | refine AReg.alloc rfl (tf (by rfl)) rfl ?_ | refine AReg.fieldA rfl rfl (tf (by rfl)) rfl (tf (by rfl)) rfl ?_ | refine AReg.makeFunc rfl rfl rfl ?_)
        refine AReg.load rfl rfl (aload_row (rw := true) (by simp only [AHeap.bump_blk]; rw [hg3.blk]; exact hτb) hcs (by omega)) ?_
        refine AReg.store rfl rfl (astore_to (cs := rowOf cs (minI d i)) (e := 25) (by simp only [AHeap.bump_blk]; rw [hg3.blk]; exact hτ5) ty25 ?_ ?_ rfl) ?_
        · simp only [E, Value.cells]; simpa using rowOf_len hcs (by omega)
        · simp only; rw [rowOf_len hcs (by omega)]; exact Nat.le_refl _
        repeat (first | refine AGo.seq ?_ | refine AGo.skip ?_ | refine AGo.block ?_ | refine AGo.inBlock ?_ | refine AGo.scope ?_ | refine AGo.inScope ?_ | refine AGo.label ?_ | refine AGo.reg ?_ | refine AReg.nil ?_ | refine AGo.exit rfl ?_ | refine AReg.move rfl rfl ?_ | refine AReg.assign rfl rfl ?_ | refine AReg.lss rfl rfl rfl ?_ | refine AReg.leq rfl rfl rfl ?_ | refine AReg.gtr rfl rfl rfl ?_ | refine AReg.geq rfl rfl rfl ?_ | refine AReg.eql rfl rfl rfl ?_ | refine AReg.neq rfl rfl rfl ?_ | refine AReg.add rfl rfl rfl (by omega) ?_ | refine AReg.sub rfl rfl rfl (by omega) ?_ | refine AReg.not rfl rfl ?_ | refine AReg.lenS rfl rfl (tf (by rfl)) ?_ | refine AReg.idx rfl rfl rfl (tf (by rfl)) (tf (by rfl)) (by omega) ?_ | refine AReg.extract rfl rfl rfl ?_ | refine AReg.box rfl rfl rfl (tb (by rfl)) ?_ | refine AReg.alloc rfl (tf (by rfl)) rfl ?_ | refine AReg.fieldA rfl rfl (tf (by rfl)) rfl (tf (by rfl)) rfl ?_ | refine AReg.makeFunc rfl rfl rfl ?_)
        refine next (i + 1) _ _ (by omega) ⟨by omega, ?_⟩ ⟨rfl, rfl, rfl, rfl, ?_, trivial⟩
        · have e1 : setRange (rowOf cs (minI d i)) 0 (E cs (i + 1)).cells.toList = rowOf cs (minI d (i + 1)) := by
            simp only [minI, if_pos hlt]
            rw [setRange_full (by simp [E, Value.cells]; rw [rowOf_len hcs (by omega), rowOf_len hcs (by omega)])]
            simp [E, Value.cells]
          rw [e1]
          simp only [bump_bump, set_bump]
          exact Gr.put _ ((hgr.trans hg3).b _)
        · show some _ = some _
          simp
      · have hlt : ¬ d (i + 1) < d (minI d i) := fun e => hlt ((cmpI_neg _ _).2 e)
        repeat (first | refine AGo.seq ?_ | refine AGo.skip ?_ | refine AGo.block ?_ | refine AGo.inBlock ?_ | refine AGo.scope ?_ | refine AGo.inScope ?_ | refine AGo.label ?_ | refine AGo.reg ?_ | refine AReg.nil ?_ | refine AGo.exit rfl ?_ | refine AReg.move rfl rfl ?_ | refine AReg.assign rfl rfl ?_ | refine AReg.lss rfl rfl rfl ?_ | refine AReg.leq rfl rfl rfl ?_ | refine AReg.gtr rfl rfl rfl ?_ | refine AReg.geq rfl rfl rfl ?_ | refine AReg.eql rfl rfl rfl ?_ | refine AReg.neq rfl rfl rfl ?_ | refine AReg.add rfl rfl rfl (by omega) ?_ | refine AReg.sub rfl rfl rfl (by omega) ?_ | refine AReg.not rfl rfl ?_ | refine AReg.lenS rfl rfl (tf (by rfl)) ?_ | refine AReg.idx rfl rfl rfl (tf (by rfl)) (tf (by rfl)) (by omega) ?_ | refine AReg.extract rfl rfl rfl ?_ | refine AReg.box rfl rfl rfl (tb (by rfl)) ?_ | refine AReg.alloc rfl (tf (by rfl)) rfl ?_ | refine AReg.fieldA rfl rfl (tf (by rfl)) rfl (tf (by rfl)) rfl ?_ | refine AReg.makeFunc rfl rfl rfl ?_)
        refine next (i + 1) _ _ (by omega) ⟨by omega, ?_⟩ ⟨rfl, rfl, rfl, rfl, ?_, trivial⟩
        · simp only [minI, if_neg hlt]; exact Gr.trans hgr (by repeat (first | exact Gr.refl _ | assumption | refine Gr.b ?_ _))
        · show some _ = some _
          simp
    · have h : i = n := by omega
      subst h
      repeat (first | refine AGo.seq ?_ | refine AGo.skip ?_ | refine AGo.block ?_ | refine AGo.inBlock ?_ | refine AGo.scope ?_ | refine AGo.inScope ?_ | refine AGo.label ?_ | refine AGo.reg ?_ | refine AReg.nil ?_ | refine AGo.exit rfl ?_ | refine AReg.move rfl rfl ?_ | refine AReg.assign rfl rfl ?_ | refine AReg.lss rfl rfl rfl ?_ | refine AReg.leq rfl rfl rfl ?_ | refine AReg.gtr rfl rfl rfl ?_ | refine AReg.geq rfl rfl rfl ?_ | refine AReg.eql rfl rfl rfl ?_ | refine AReg.neq rfl rfl rfl ?_ | refine AReg.add rfl rfl rfl (by omega) ?_ | refine AReg.sub rfl rfl rfl (by omega) ?_ | refine AReg.not rfl rfl ?_ | refine AReg.lenS rfl rfl (tf (by rfl)) ?_ | refine AReg.idx rfl rfl rfl (tf (by rfl)) (tf (by rfl)) (by omega) ?_ | refine AReg.extract rfl rfl rfl ?_ | refine AReg.box rfl rfl rfl (tb (by rfl)) ?_ | refine AReg.alloc rfl (tf (by rfl)) rfl ?_ | refine AReg.fieldA rfl rfl (tf (by rfl)) rfl (tf (by rfl)) rfl ?_ | refine AReg.makeFunc rfl rfl rfl ?_)
      refine AReg.load rfl rfl (aload_agg (by simp only [AHeap.bump_blk]; exact hτ5) ty25 rfl (by simp only; rw [rowOf_len hcs (by omega)]; exact Nat.le_refl _)) ?_
      have hE : Value.agg (((rowOf cs (minI d i)).drop 0).take 7).toArray = E cs (minI d i) := by
        simp only [E, List.drop_zero]
        rw [List.take_of_length_le (by rw [rowOf_len hcs (by omega)]; exact Nat.le_refl _)]
      simp only [hE]
      refine AReg.store rfl rfl (astore_to (cs := z25.cells.toList) (e := 25) (by simp only [AHeap.bump_blk]; exact hτ4) ty25 ?_ ?_ rfl) ?_
      · simp only [E, Value.cells]; simpa using rowOf_len hcs (by omega)
      · simp [z25, Value.cells]
      repeat (first | refine AGo.seq ?_ | refine AGo.skip ?_ | refine AGo.block ?_ | refine AGo.inBlock ?_ | refine AGo.scope ?_ | refine AGo.inScope ?_ | refine AGo.label ?_ | refine AGo.reg ?_ | refine AReg.nil ?_ | refine AGo.exit rfl ?_ | refine AReg.move rfl rfl ?_ | refine AReg.assign rfl rfl ?_ | refine AReg.lss rfl rfl rfl ?_ | refine AReg.leq rfl rfl rfl ?_ | refine AReg.gtr rfl rfl rfl ?_ | refine AReg.geq rfl rfl rfl ?_ | refine AReg.eql rfl rfl rfl ?_ | refine AReg.neq rfl rfl rfl ?_ | refine AReg.add rfl rfl rfl (by omega) ?_ | refine AReg.sub rfl rfl rfl (by omega) ?_ | refine AReg.not rfl rfl ?_ | refine AReg.lenS rfl rfl (tf (by rfl)) ?_ | refine AReg.idx rfl rfl rfl (tf (by rfl)) (tf (by rfl)) (by omega) ?_ | refine AReg.extract rfl rfl rfl ?_ | refine AReg.box rfl rfl rfl (tb (by rfl)) ?_ | refine AReg.alloc rfl (tf (by rfl)) rfl ?_ | refine AReg.fieldA rfl rfl (tf (by rfl)) rfl (tf (by rfl)) rfl ?_ | refine AReg.makeFunc rfl rfl rfl ?_)
      have e1 : setRange z25.cells.toList 0 (E cs (minI d i)).cells.toList = rowOf cs (minI d i) := by
        rw [setRange_full (by simp [E, z25, Value.cells]; rw [rowOf_len hcs (by omega)])]
        simp [E, Value.cells]
      simp only [e1]
      refine AGo.ret Try.func27 (ares_cell rfl (aload_agg (blk_set _ _ _) ty25 rfl (by simp only; rw [rowOf_len hcs (by omega)]; exact Nat.le_refl _)) ares_nil) ?_
      obtain ⟨k, rfl⟩ := hgr
      refine ⟨?_, ⟨_, σ.blk⟩, Gr.ofNext ?_, ?_, rfl⟩
      · simp only [packResults]; exact hE
      · simp; omega
      · simp only [bump_bump, set_bump]
        exact Sub.set (Sub.set (Sub.set (fun _ _ h => h) _ _ (hwf _ (Nat.le_refl _))) _ _ (hwf _ (by omega))) _ _ (hwf _ (Nat.le_refl _))
  · rw [hc5n]; exact ⟨2, rfl⟩
end Go.Abs.Lay
