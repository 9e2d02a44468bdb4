/- A part of the proof: contracts of functions of the program, shown by walking through their code in an abstract machine. Condition: none. -/
import Derived.Test.YtehahpnpandppaaLayD
set_option linter.unusedVariables false
set_option linter.unusedSimpArgs false
namespace Go.Abs.Lay
open Go Go.Proofs
-- @TY ty3, ty4, ty22, ty25
set_option maxHeartbeats 1000000

/-- Fit's second function -/
theorem fit2 (xs ys : List Value) (d e : Int) (σ : AHeap) (hd : xs[4]? = some (.int .i64 d)) (he : ys[4]? = some (.int .i64 e)) :
    ACalls Try.prog 28 [.agg xs.toArray, .agg ys.toArray] σ fun v σ' => v = .int .i64 (cmpI d e) ∧ Gr σ σ' := by
  refine ACalls.wf fun hwf => ?_
  refine ACalls.enter Try.func28 rfl (by rw [Try.ntmps28]; simp) ?_
  rw [Try.ntmps28]
  repeat (first | refine AGo.seq ?_ | refine AGo.skip ?_ | refine AGo.block ?_ | refine AGo.inBlock ?_ | refine AGo.scope ?_ | refine AGo.inScope ?_ | refine AGo.label ?_ | refine AGo.reg ?_ | refine AReg.nil ?_ | refine AGo.exit rfl ?_ | refine AReg.move rfl rfl ?_ | refine AReg.assign rfl rfl ?_ | refine AReg.lss rfl rfl rfl ?_ | refine AReg.leq rfl rfl rfl ?_ | refine AReg.gtr rfl rfl rfl ?_ | refine AReg.geq rfl rfl rfl ?_ | refine AReg.eql rfl rfl rfl ?_ | refine AReg.neq rfl rfl rfl ?_ | refine AReg.add rfl rfl rfl (by omega) ?_ | refine AReg.sub rfl rfl rfl (by omega) ?_ | refine AReg.not rfl rfl ?_ | refine AReg.lenS rfl rfl (tf (by rfl)) ?_ | refine AReg.idx rfl rfl rfl (tf (by rfl)) (tf (by rfl)) (by omega) ?_ | refine AReg.extract rfl rfl rfl ?_ | refine AReg.box rfl rfl rfl (tb (by rfl)) ?_ | refine AReg.alloc rfl (tf (by rfl)) rfl ?_ | refine AReg.fieldA rfl rfl (tf (by rfl)) rfl (tf (by rfl)) rfl ?_ | refine AReg.makeFunc rfl rfl rfl ?_)
  refine AReg.load rfl rfl (aload_cell (v := .int .i64 d) (by simp only [AHeap.bump_blk]; rw [blk_ne (by simp)]; exact blk_set _ _ _) ty3 rfl ?_) ?_
  · simpa [Value.cells] using hd
  repeat (first | refine AGo.seq ?_ | refine AGo.skip ?_ | refine AGo.block ?_ | refine AGo.inBlock ?_ | refine AGo.scope ?_ | refine AGo.inScope ?_ | refine AGo.label ?_ | refine AGo.reg ?_ | refine AReg.nil ?_ | refine AGo.exit rfl ?_ | refine AReg.move rfl rfl ?_ | refine AReg.assign rfl rfl ?_ | refine AReg.lss rfl rfl rfl ?_ | refine AReg.leq rfl rfl rfl ?_ | refine AReg.gtr rfl rfl rfl ?_ | refine AReg.geq rfl rfl rfl ?_ | refine AReg.eql rfl rfl rfl ?_ | refine AReg.neq rfl rfl rfl ?_ | refine AReg.add rfl rfl rfl (by omega) ?_ | refine AReg.sub rfl rfl rfl (by omega) ?_ | refine AReg.not rfl rfl ?_ | refine AReg.lenS rfl rfl (tf (by rfl)) ?_ | refine AReg.idx rfl rfl rfl (tf (by rfl)) (tf (by rfl)) (by omega) ?_ | refine AReg.extract rfl rfl rfl ?_ | refine AReg.box rfl rfl rfl (tb (by rfl)) ?_ | refine AReg.alloc rfl (tf (by rfl)) rfl ?_ | refine AReg.fieldA rfl rfl (tf (by rfl)) rfl (tf (by rfl)) rfl ?_ | refine AReg.makeFunc rfl rfl rfl ?_)
  refine AReg.load rfl rfl (aload_cell (v := .int .i64 e) (by simp only [AHeap.bump_blk]; exact blk_set _ _ _) ty3 rfl ?_) ?_
  · simpa [Value.cells] using he
  refine AReg.go rfl rfl (by kernel_rfl) ?_
  refine (compare _ _ _).mono ?_
  rintro _ σ1 ⟨rfl, n, rfl⟩
  repeat (first | refine AGo.seq ?_ | refine AGo.skip ?_ | refine AGo.block ?_ | refine AGo.inBlock ?_ | refine AGo.scope ?_ | refine AGo.inScope ?_ | refine AGo.label ?_ | refine AGo.reg ?_ | refine AReg.nil ?_ | refine AGo.exit rfl ?_ | refine AReg.move rfl rfl ?_ | refine AReg.assign rfl rfl ?_ | refine AReg.lss rfl rfl rfl ?_ | refine AReg.leq rfl rfl rfl ?_ | refine AReg.gtr rfl rfl rfl ?_ | refine AReg.geq rfl rfl rfl ?_ | refine AReg.eql rfl rfl rfl ?_ | refine AReg.neq rfl rfl rfl ?_ | refine AReg.add rfl rfl rfl (by omega) ?_ | refine AReg.sub rfl rfl rfl (by omega) ?_ | refine AReg.not rfl rfl ?_ | refine AReg.lenS rfl rfl (tf (by rfl)) ?_ | refine AReg.idx rfl rfl rfl (tf (by rfl)) (tf (by rfl)) (by omega) ?_ | refine AReg.extract rfl rfl rfl ?_ | refine AReg.box rfl rfl rfl (tb (by rfl)) ?_ | refine AReg.alloc rfl (tf (by rfl)) rfl ?_ | refine AReg.fieldA rfl rfl (tf (by rfl)) rfl (tf (by rfl)) rfl ?_ | refine AReg.makeFunc rfl rfl rfl ?_)
  simp only [bump_bump, set_bump]
  refine AGo.forget (σ.bump _) (Sub.set (Sub.set (fun _ _ h => h) _ _ (hwf _ (Nat.le_refl _))) _ _ (hwf _ (by simp))) rfl ?_
  refine AGo.ret Try.func28 (by rfl) ?_
  exact ⟨by simp [packResults], ⟨_, rfl⟩⟩
end Go.Abs.Lay
