/- A part of the proof: contracts of functions of the program, shown by walking through their code in an abstract machine. Condition: none. -/
import Derived.Test.YtipgikhblcfpjaaRunC
set_option linter.unusedVariables false
set_option linter.unusedSimpArgs false
namespace Go.Abs.Run
open Go Go.Proofs
set_option maxHeartbeats 4000000
set_option maxRecDepth 8000
-- @SEAT 10
-- @FN 28
/-- slices.Repeat of one bool -/
theorem repeat28 {A N : Nat} {x : Bool} {rw : Bool} (h0 : 1 ≤ N) (h1 : N ≤ 1000000) : SC Try.prog 28 [gv (some A) 0 1 1, .int .i64 (N : Int)] [(some A, .cells [.bool x] 4 rw)] fun v l => ∃ C, v = sv (some C) N ∧ l = [(some C, .cells (List.replicate N (.bool x)) 4 true)] := by
  refine SC.enter Try.func28 rfl (by rw [Try.ntmps28]; simp) fun σ hσ => ?_
  rw [Try.ntmps28]
  -- @EXTRA ex_convert rfl ty3 ty54 (IntWalk.u64_in _ (by omega)) ;; ex_convert rfl ty54 ty3 (IntWalk.i64_in _ (by omega))
  repeat (first | refine SGo.seq ?_ | refine SGo.skip ?_ | refine SGo.inBlock ?_ | refine SGo.block ?_ | refine SGo.scope ?_ | refine SGo.inScope ?_ | refine SGo.label ?_ | refine SGo.exit rfl ?_)
  refine SGo.reg ?_
  refine SReg.as rfl rfl rfl ?_
  refine SReg.nil ?_
  repeat (first | refine SGo.seq ?_ | refine SGo.skip ?_ | refine SGo.inBlock ?_ | refine SGo.block ?_ | refine SGo.scope ?_ | refine SGo.inScope ?_ | refine SGo.label ?_ | refine SGo.exit rfl ?_)
  repeat (first | refine SGo.seq ?_ | refine SGo.skip ?_ | refine SGo.inBlock ?_ | refine SGo.block ?_ | refine SGo.scope ?_ | refine SGo.inScope ?_ | refine SGo.label ?_ | refine SGo.exit rfl ?_)
  refine SGo.reg ?_
  refine SReg.mv rfl rfl rfl ?_
  refine SReg.ex rfl rfl (fun _ _ => by first | exact ex_bool (ex_lss rfl rfl) (by assumption) | exact ex_lss rfl rfl | exact ex_convert rfl ty3 ty54 (IntWalk.u64_in _ (by omega)) | exact ex_convert rfl ty54 ty3 (IntWalk.i64_in _ (by omega))) ?_
  refine SReg.nil ?_
  repeat (first | refine SGo.seq ?_ | refine SGo.skip ?_ | refine SGo.inBlock ?_ | refine SGo.block ?_ | refine SGo.scope ?_ | refine SGo.inScope ?_ | refine SGo.label ?_ | refine SGo.exit rfl ?_)
  refine SGo.condD rfl (fun h => by omega) fun _ => ?_
  repeat (first | refine SGo.seq ?_ | refine SGo.skip ?_ | refine SGo.inBlock ?_ | refine SGo.block ?_ | refine SGo.scope ?_ | refine SGo.inScope ?_ | refine SGo.label ?_ | refine SGo.exit rfl ?_)
  refine SGo.reg ?_
  refine SReg.mv rfl rfl rfl ?_
  refine SReg.valG rfl rfl (sx_lenG rfl (tf (by rfl)) (by first | exact hz_nil (by assumption) | exact map_nil | exact len_nil (by first | assumption | rfl | (simp; done)))) ?_
  refine SReg.ex rfl rfl (fun _ _ => by first | exact ex_convert rfl ty3 ty54 (IntWalk.u64_in _ (by omega)) | exact ex_convert rfl ty54 ty3 (IntWalk.i64_in _ (by omega))) ?_
  refine SReg.mv rfl rfl rfl ?_
  refine SReg.ex rfl rfl (fun _ _ => by first | exact ex_convert rfl ty3 ty54 (IntWalk.u64_in _ (by omega)) | exact ex_convert rfl ty54 ty3 (IntWalk.i64_in _ (by omega))) ?_
  refine SReg.go (mul40 (y := (N : Int)) (by omega)) rfl rfl (by kernel_rfl) ⟨_, .refl _, List.nil_sublist _⟩ ?_
  rintro _ _ ⟨rfl, rfl⟩
  refine SReg.mv rfl rfl rfl ?_
  refine SReg.ex rfl rfl (fun _ _ => ex_extract rfl rfl) ?_
  refine SReg.ex rfl rfl (fun _ _ => ex_extract rfl rfl) ?_
  refine SReg.as rfl rfl rfl ?_
  refine SReg.as rfl rfl rfl ?_
  refine SReg.nil ?_
  repeat (first | refine SGo.seq ?_ | refine SGo.skip ?_ | refine SGo.inBlock ?_ | refine SGo.block ?_ | refine SGo.scope ?_ | refine SGo.inScope ?_ | refine SGo.label ?_ | refine SGo.exit rfl ?_)
  have g1 : decide ((0 : Int) > 0) = false := rfl
  have g2 : decide ((N : Int) > 9223372036854775807) = false := by simp; omega
  repeat (first | refine SGo.seq ?_ | refine SGo.skip ?_ | refine SGo.inBlock ?_ | refine SGo.block ?_ | refine SGo.scope ?_ | refine SGo.inScope ?_ | refine SGo.label ?_ | refine SGo.exit rfl ?_)
  refine SGo.reg ?_
  refine SReg.mv rfl rfl rfl ?_
  refine SReg.ex rfl rfl (fun _ _ => by first | exact ex_bool (ex_gtr rfl rfl) (by assumption) | exact ex_gtr rfl rfl | exact ex_convert rfl ty3 ty54 (IntWalk.u64_in _ (by omega)) | exact ex_convert rfl ty54 ty3 (IntWalk.i64_in _ (by omega))) ?_
  refine SReg.mv rfl rfl rfl ?_
  first | refine SReg.skipG rfl rfl ?_ | (refine SReg.mv rfl rfl rfl ?_)
  first | refine SReg.skipG rfl rfl ?_ | (refine SReg.ex rfl rfl (fun _ _ => by first | exact ex_bool (ex_gtr rfl rfl) (by assumption) | exact ex_gtr rfl rfl | exact ex_convert rfl ty3 ty54 (IntWalk.u64_in _ (by omega)) | exact ex_convert rfl ty54 ty3 (IntWalk.i64_in _ (by omega))) ?_)
  refine SReg.ex rfl rfl (fun _ _ => by first | exact ex_pickT rfl rfl | exact ex_pickF rfl rfl) ?_
  refine SReg.nil ?_
  repeat (first | refine SGo.seq ?_ | refine SGo.skip ?_ | refine SGo.inBlock ?_ | refine SGo.block ?_ | refine SGo.scope ?_ | refine SGo.inScope ?_ | refine SGo.label ?_ | refine SGo.exit rfl ?_)
  refine SGo.condF rfl ?_
  repeat (first | refine SGo.seq ?_ | refine SGo.skip ?_ | refine SGo.inBlock ?_ | refine SGo.block ?_ | refine SGo.scope ?_ | refine SGo.inScope ?_ | refine SGo.label ?_ | refine SGo.exit rfl ?_)
  refine SGo.reg ?_
  refine SReg.mv rfl rfl rfl ?_
  refine SReg.ex rfl rfl (fun _ _ => by first | exact ex_convert rfl ty3 ty54 (IntWalk.u64_in _ (by omega)) | exact ex_convert rfl ty54 ty3 (IntWalk.i64_in _ (by omega))) ?_
  refine SReg.makeSlice rfl rfl rfl (amakeSlice_at ty25 ty4 rfl rfl (Nat.le_refl N) (by omega) (by omega)) fun C => ?_
  rw [zerosL_one rfl]
  refine SReg.as rfl rfl rfl ?_
  refine SReg.nil ?_
  repeat (first | refine SGo.seq ?_ | refine SGo.skip ?_ | refine SGo.inBlock ?_ | refine SGo.block ?_ | refine SGo.scope ?_ | refine SGo.inScope ?_ | refine SGo.label ?_ | refine SGo.exit rfl ?_)
  repeat (first | refine SGo.seq ?_ | refine SGo.skip ?_ | refine SGo.inBlock ?_ | refine SGo.block ?_ | refine SGo.scope ?_ | refine SGo.inScope ?_ | refine SGo.label ?_ | refine SGo.exit rfl ?_)
  refine SGo.reg ?_
  refine SReg.mv rfl rfl rfl ?_
  refine SReg.mv rfl rfl rfl ?_
  refine SReg.copy (n := 1) rfl rfl ty25 ty4 (by simp [Nat.min_def]; omega) (by simp; omega) (by simp) (.new (.head _)) ?_
  have e1 : setRange (List.replicate N (Value.bool false)) 0 (([Value.bool x].drop 0).take (1 * 1)) = List.replicate 1 (.bool x) ++ List.replicate (N - 1) (.bool false) := by
    have h : ([Value.bool x].drop 0).take (1 * 1) = List.replicate 1 (.bool x) := rfl
    cases N with
    | zero => omega
    | succ n => rw [h]; simp [List.replicate_succ, setRange]
  rw [e1]
  refine SReg.as rfl rfl rfl ?_
  refine SReg.nil ?_
  repeat (first | refine SGo.seq ?_ | refine SGo.skip ?_ | refine SGo.inBlock ?_ | refine SGo.block ?_ | refine SGo.scope ?_ | refine SGo.inScope ?_ | refine SGo.label ?_ | refine SGo.exit rfl ?_)
  refine SGo.loopI (ι := Nat) (F := fun k => [(7, sv (some C) N), (8, .int .i64 ((k : Nat) : Int))]) (O := fun _ => [(some A, .cells [.bool x] 4 rw)]) (l0 := fun k => [(some C, .cells (List.replicate k (.bool x) ++ List.replicate (N - k) (.bool false)) 4 true)]) (I := fun k => 1 ≤ k ∧ k ≤ N) (μ := fun k => N - k) ?_ (x0 := 1) ⟨by omega, h0⟩ ⟨rfl, rfl, trivial⟩ rfl rfl
  rintro k ⟨hk1, hkN⟩ next
  have hlen : (List.replicate k (Value.bool x) ++ List.replicate (N - k) (Value.bool false)).length = N := by simp; omega
  repeat (first | refine SGo.seq ?_ | refine SGo.skip ?_ | refine SGo.inBlock ?_ | refine SGo.block ?_ | refine SGo.scope ?_ | refine SGo.inScope ?_ | refine SGo.label ?_ | refine SGo.exit rfl ?_)
  refine SGo.reg ?_
  refine SReg.mv rfl rfl rfl ?_
  refine SReg.mv rfl rfl rfl ?_
  refine SReg.valG rfl rfl (sx_lenG rfl (tf (by rfl)) (by first | exact hz_nil (by assumption) | exact map_nil | exact len_nil (by first | assumption | rfl | (simp; done)))) ?_
  refine SReg.ex rfl rfl (fun _ _ => by first | exact ex_bool (ex_lss rfl rfl) (by assumption) | exact ex_lss rfl rfl | exact ex_convert rfl ty3 ty54 (IntWalk.u64_in _ (by omega)) | exact ex_convert rfl ty54 ty3 (IntWalk.i64_in _ (by omega))) ?_
  refine SReg.nil ?_
  repeat (first | refine SGo.seq ?_ | refine SGo.skip ?_ | refine SGo.inBlock ?_ | refine SGo.block ?_ | refine SGo.scope ?_ | refine SGo.inScope ?_ | refine SGo.label ?_ | refine SGo.exit rfl ?_)
  refine SGo.condD rfl (fun h => ?_) (fun h => ?_)
  · have hlt : k < N := by omega
    repeat (first | refine SGo.seq ?_ | refine SGo.skip ?_ | refine SGo.inBlock ?_ | refine SGo.block ?_ | refine SGo.scope ?_ | refine SGo.inScope ?_ | refine SGo.label ?_ | refine SGo.exit rfl ?_)
    refine SGo.draw [([1, 2, 3, 4, 5, 6], 7, [0]), ([0, 8], 9, [])] [] mixed (by kernel_rfl) ?_
    refine SDW.read rfl rfl rfl rfl (sx_of fun _ _ => ex_move rfl) ?_
    refine SDW.read rfl rfl rfl rfl (sx_of fun _ _ => ex_move rfl) ?_
    refine SDW.read rfl rfl rfl rfl (sx_slice (c := some C) (off := 0) (n := N) (cap := N) (a := k) (b' := N) rfl rfl rfl ty25 ty4 (by simp [tsz, ty4]) (fun h => by rw [h] at hlen; exact hlen.symm) rfl (abound_int rfl hkN) (.inl hlt) (Nat.le_refl _) (Nat.le_refl _)) ?_
    refine SDW.read rfl rfl rfl rfl (sx_of fun _ _ => ex_move rfl) ?_
    refine SDW.read rfl rfl rfl rfl (sx_of fun _ _ => ex_move rfl) ?_
    refine SDW.read rfl rfl rfl rfl (sx_slice (c := some C) (off := 0) (n := N) (cap := N) (a := 0) (b' := k) rfl rfl rfl ty25 ty4 (by simp [tsz, ty4]) (fun h => by rw [h] at hlen; exact hlen.symm) (abound_int rfl hkN) rfl (.inr rfl) hkN (Nat.le_refl _)) ?_
    have hmin : Nat.min k (N - k) ≤ k ∧ Nat.min k (N - k) ≤ N - k ∧ 1 ≤ Nat.min k (N - k) := ⟨Nat.min_le_left _ _, Nat.min_le_right _ _, Nat.le_min.2 ⟨hk1, by omega⟩⟩
    generalize hj : Nat.min k (N - k) = j at hmin
    refine SDW.copyM (n := j) rfl rfl rfl rfl rfl ty25 ty4 (by simpa using hj) (by rw [hlen]; simp only; omega) (by rw [hlen]; simp only; omega) (.new (.head _)) ?_
    have e2 : setRange (List.replicate k (Value.bool x) ++ List.replicate (N - k) (Value.bool false)) (0 + k * 1) (((List.replicate k (Value.bool x) ++ List.replicate (N - k) (Value.bool false)).drop (0 + 0 * 1)).take (j * 1)) = List.replicate (k + j) (Value.bool x) ++ List.replicate (N - (k + j)) (Value.bool false) := by
      rw [Nat.zero_add, Nat.mul_one, Nat.zero_mul, Nat.add_zero, List.drop_zero, Nat.mul_one, List.take_append_of_le_length (by simp; omega), List.take_replicate, Nat.min_eq_left hmin.1, setRange_mid _ _ _ _ (by simp; omega), List.drop_replicate]
      congr 2; omega
    rw [e2]
    refine SDW.read rfl rfl rfl rfl (sx_of fun _ _ => ex_move rfl) ?_
    refine SDW.read rfl rfl rfl rfl (sx_of (fun _ _ => by first | exact ex_add rfl rfl (by first | assumption | omega | decide) | exact ex_convert rfl ty3 ty54 (IntWalk.u64_in _ (by omega)) | exact ex_convert rfl ty54 ty3 (IntWalk.i64_in _ (by omega)))) ?_
    refine SDW.eff rfl rfl rfl (sx_of fun _ _ => ex_assign rfl) ?_
    refine SDW.done ?_
    repeat (first | refine SGo.seq ?_ | refine SGo.skip ?_ | refine SGo.inBlock ?_ | refine SGo.block ?_ | refine SGo.scope ?_ | refine SGo.inScope ?_ | refine SGo.label ?_ | refine SGo.exit rfl ?_)
    exact next (k + j) _ (by omega) ⟨by omega, by omega⟩ ⟨rfl, rfl, trivial⟩
  · have hkN' : k = N := by omega
    subst hkN'
    repeat (first | refine SGo.seq ?_ | refine SGo.skip ?_ | refine SGo.inBlock ?_ | refine SGo.block ?_ | refine SGo.scope ?_ | refine SGo.inScope ?_ | refine SGo.label ?_ | refine SGo.exit rfl ?_)
    repeat (first | refine SGo.seq ?_ | refine SGo.skip ?_ | refine SGo.inBlock ?_ | refine SGo.block ?_ | refine SGo.scope ?_ | refine SGo.inScope ?_ | refine SGo.label ?_ | refine SGo.exit rfl ?_)
    refine SGo.reg ?_
    refine SReg.mv rfl rfl rfl ?_
    refine SReg.as rfl rfl rfl ?_
    refine SReg.nil ?_
    repeat (first | refine SGo.seq ?_ | refine SGo.skip ?_ | refine SGo.inBlock ?_ | refine SGo.block ?_ | refine SGo.scope ?_ | refine SGo.inScope ?_ | refine SGo.label ?_ | refine SGo.exit rfl ?_)
    refine SGo.ret Try.func28 (fun τ hτ => ares_tmp rfl ares_nil) fun τ hτ => ⟨_, hτ, C, rfl, by simp⟩
end Go.Abs.Run
