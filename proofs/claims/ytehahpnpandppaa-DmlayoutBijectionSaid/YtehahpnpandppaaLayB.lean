/- A part of the proof: contracts of functions of the program, shown by walking through their code in an abstract machine. Condition: none. -/
import Derived.Test.YtehahpnpandppaaProg
import Derived.Test.YtehahpnpandppaaAbsGr4
set_option linter.unusedVariables false
set_option linter.unusedSimpArgs false
namespace Go.Abs.Lay
open Go Go.Proofs
-- @TY ty3, ty4, ty22, ty25
theorem ty3 : ty Try.prog 3 = some ⟨.int .i64, 1, 8, some (.int .i64 0)⟩ := by kernel_rfl
theorem ty4 : ty Try.prog 4 = some ⟨.bool, 1, 1, some (.bool false)⟩ := by kernel_rfl
theorem ty25 : ty Try.prog 25 = some ⟨.struct [(0, 3), (1, 3), (2, 3), (3, 3), (4, 3), (5, 3), (6, 3)], 7, 56, some (.agg #[.int .i64 0, .int .i64 0, .int .i64 0, .int .i64 0, .int .i64 0, .int .i64 0, .int .i64 0])⟩ := by kernel_rfl
theorem ty22 : ty Try.prog 22 = some ⟨.slice 25, 1, 24, some (.slice none 0 0)⟩ := by kernel_rfl
theorem ty5 : ty Try.prog 5 = some ⟨.int .u8, 1, 1, some (.int .u8 0)⟩ := by kernel_rfl
theorem ty26 : ty Try.prog 26 = some ⟨.int .i64, 1, 8, some (.int .i64 0)⟩ := by kernel_rfl
theorem ty31 : ty Try.prog 31 = some ⟨.slice 3, 1, 24, some (.slice none 0 0)⟩ := by kernel_rfl
theorem ty36 : ty Try.prog 36 = some ⟨.slice 4, 1, 24, some (.slice none 0 0)⟩ := by kernel_rfl
theorem ty38 : ty Try.prog 38 = some ⟨.struct [(0, 3), (1, 3), (2, 36)], 3, 40, some (.agg #[.int .i64 0, .int .i64 0, .slice none 0 0])⟩ := by kernel_rfl
theorem ty66 : ty Try.prog 66 = some ⟨.int .u64, 1, 8, some (.int .u64 0)⟩ := by kernel_rfl
theorem ty71 : ty Try.prog 71 = some ⟨.struct [(0, 3), (1, 3), (2, 31), (3, 3)], 4, 48, some (.agg #[.int .i64 0, .int .i64 0, .slice none 0 0, .int .i64 0])⟩ := by kernel_rfl
theorem ty74 : ty Try.prog 74 = some ⟨.struct [(0, 3), (1, 3), (2, 3), (3, 31)], 4, 48, some (.agg #[.int .i64 0, .int .i64 0, .int .i64 0, .slice none 0 0])⟩ := by kernel_rfl
theorem ty81 : ty Try.prog 81 = some ⟨.array 16 3, 16, 128, some (.agg #[.int .i64 0, .int .i64 0, .int .i64 0, .int .i64 0, .int .i64 0, .int .i64 0, .int .i64 0, .int .i64 0, .int .i64 0, .int .i64 0, .int .i64 0, .int .i64 0, .int .i64 0, .int .i64 0, .int .i64 0, .int .i64 0])⟩ := by kernel_rfl
theorem ty89 : ty Try.prog 89 = some ⟨.array 2 3, 2, 16, some (.agg #[.int .i64 0, .int .i64 0])⟩ := by kernel_rfl
theorem ty90 : ty Try.prog 90 = some ⟨.slice 89, 1, 24, some (.slice none 0 0)⟩ := by kernel_rfl
/-- The types that are met, and what is known of them. -/
def tyTab : Nat → Option ATy
  | 3 => some ⟨.int .i64, 1, 8, some (.int .i64 0)⟩
  | 4 => some ⟨.bool, 1, 1, some (.bool false)⟩
  | 5 => some ⟨.int .u8, 1, 1, some (.int .u8 0)⟩
  | 22 => some ⟨.slice 25, 1, 24, some (.slice none 0 0)⟩
  | 25 => some ⟨.struct [(0, 3), (1, 3), (2, 3), (3, 3), (4, 3), (5, 3), (6, 3)], 7, 56, some (.agg #[.int .i64 0, .int .i64 0, .int .i64 0, .int .i64 0, .int .i64 0, .int .i64 0, .int .i64 0])⟩
  | 26 => some ⟨.int .i64, 1, 8, some (.int .i64 0)⟩
  | 31 => some ⟨.slice 3, 1, 24, some (.slice none 0 0)⟩
  | 36 => some ⟨.slice 4, 1, 24, some (.slice none 0 0)⟩
  | 38 => some ⟨.struct [(0, 3), (1, 3), (2, 36)], 3, 40, some (.agg #[.int .i64 0, .int .i64 0, .slice none 0 0])⟩
  | 66 => some ⟨.int .u64, 1, 8, some (.int .u64 0)⟩
  | 71 => some ⟨.struct [(0, 3), (1, 3), (2, 31), (3, 3)], 4, 48, some (.agg #[.int .i64 0, .int .i64 0, .slice none 0 0, .int .i64 0])⟩
  | 74 => some ⟨.struct [(0, 3), (1, 3), (2, 3), (3, 31)], 4, 48, some (.agg #[.int .i64 0, .int .i64 0, .int .i64 0, .slice none 0 0])⟩
  | 81 => some ⟨.array 16 3, 16, 128, some (.agg #[.int .i64 0, .int .i64 0, .int .i64 0, .int .i64 0, .int .i64 0, .int .i64 0, .int .i64 0, .int .i64 0, .int .i64 0, .int .i64 0, .int .i64 0, .int .i64 0, .int .i64 0, .int .i64 0, .int .i64 0, .int .i64 0])⟩
  | 89 => some ⟨.array 2 3, 2, 16, some (.agg #[.int .i64 0, .int .i64 0])⟩
  | 90 => some ⟨.slice 89, 1, 24, some (.slice none 0 0)⟩
  | _ => none
theorem tf {t : Nat} {T : ATy} (h : tyTab t = some T) : ty Try.prog t = some T := by
  unfold tyTab at h
  split at h
  · rw [← h]; exact ty3
  · rw [← h]; exact ty4
  · rw [← h]; exact ty5
  · rw [← h]; exact ty22
  · rw [← h]; exact ty25
  · rw [← h]; exact ty26
  · rw [← h]; exact ty31
  · rw [← h]; exact ty36
  · rw [← h]; exact ty38
  · rw [← h]; exact ty66
  · rw [← h]; exact ty71
  · rw [← h]; exact ty74
  · rw [← h]; exact ty81
  · rw [← h]; exact ty89
  · rw [← h]; exact ty90
  · cases h
theorem tb {t : Nat} (h : (tyTab t).isSome = true) : (ty Try.prog t).isSome = true := by
  cases e : tyTab t with
  | none => rw [e] at h; cases h
  | some T => rw [tf e]; rfl

def findI (p : Nat → Bool) (len : Nat) : Int := match (List.range len).find? p with
  | some i => i
  | none => -1
theorem findI_hit {p : Nat → Bool} {len i : Nat} (h : i < len) (hp : p i = true) (hl : ∀ j, j < i → p j = false) : findI p len = i := by
  unfold findI
  have : (List.range len).find? p = some i := by
    rw [List.find?_range_eq_some]
    exact ⟨hp, by simpa using h, fun j hj => by simp [hl j hj]⟩
  rw [this]
theorem findI_none {p : Nat → Bool} {len : Nat} (hl : ∀ j, j < len → p j = false) : findI p len = -1 := by
  unfold findI
  have : (List.range len).find? p = none := by
    rw [List.find?_eq_none]
    intro j hj
    simp [hl j (by simpa using hj)]
  rw [this]

set_option maxHeartbeats 1000000 in
/-- slices.IndexFunc over sizes -/
theorem indexFunc (b off len cap : Nat) (E : Nat → Value) (g : FuncId) (xs ys : Array Value) (p : Nat → Bool) (σ : AHeap) (hlen : len ≤ 9223372036854775807)
    (hE : ∀ i, i < len → aload Try.prog σ 25 (.pointer (some ⟨b, off + i * 7, none⟩)) = some (E i)) (hg : hasBody Try.prog g = true)
    (hf : ∀ i τ, i < len → Gr σ τ → ACalls Try.prog g (xs.toList ++ [E i] ++ ys.toList) τ fun v σ' => v = .bool (p i) ∧ Gr τ σ') :
    ACalls Try.prog 45 [.slice (some ⟨b, off, none⟩) len cap, .func (.func g) xs ys] σ fun v σ' => v = .int .i64 (findI p len) ∧ Gr σ σ' := by
  refine ACalls.enter Try.func45 rfl (by rw [Try.ntmps45]; simp) ?_
  rw [Try.ntmps45]
  repeat (first | refine AGo.seq ?_ | refine AGo.skip ?_ | refine AGo.block ?_ | refine AGo.inBlock ?_ | refine AGo.scope ?_ | refine AGo.inScope ?_ | refine AGo.label ?_ | refine AGo.reg ?_ | refine AReg.nil ?_ | refine AGo.exit rfl ?_ | refine AReg.move rfl rfl ?_ | refine AReg.assign rfl rfl ?_ | refine AReg.lss rfl rfl rfl ?_ | refine AReg.leq rfl rfl rfl ?_ | refine AReg.gtr rfl rfl rfl ?_ | refine AReg.geq rfl rfl rfl ?_ | refine AReg.eql rfl rfl rfl ?_ | refine AReg.neq rfl rfl rfl ?_ | refine AReg.add rfl rfl rfl (by omega) ?_ | refine AReg.sub rfl rfl rfl (by omega) ?_ | refine AReg.not rfl rfl ?_ | refine AReg.lenS rfl rfl (tf (by rfl)) ?_ | refine AReg.idx rfl rfl rfl (tf (by rfl)) (tf (by rfl)) (by omega) ?_ | refine AReg.extract rfl rfl rfl ?_ | refine AReg.box rfl rfl rfl (tb (by rfl)) ?_ | refine AReg.alloc rfl (tf (by rfl)) rfl ?_ | refine AReg.fieldA rfl rfl (tf (by rfl)) rfl (tf (by rfl)) rfl ?_ | refine AReg.makeFunc rfl rfl rfl ?_)
  refine AGo.loop ?_
  refine AGo.loopI (ι := Nat) (F := fun i => [(0, .slice (some ⟨b, off, none⟩) len cap), (1, .func (.func g) xs ys), (7, .int .i64 len), (8, .int .i64 i)])
    (S := fun i τ => i ≤ len ∧ (∀ j, j < i → p j = false) ∧ Gr σ τ) (μ := fun i => len - i) ?_ (x0 := 0) ⟨by omega, fun j hj => by omega, (by repeat (first | exact Gr.refl _ | assumption | refine Gr.b ?_ _))⟩ ⟨rfl, rfl, rfl, rfl, trivial⟩
  rintro i τ ⟨hi, hp, hgr⟩ next
  repeat (first | refine AGo.seq ?_ | refine AGo.skip ?_ | refine AGo.block ?_ | refine AGo.inBlock ?_ | refine AGo.scope ?_ | refine AGo.inScope ?_ | refine AGo.label ?_ | refine AGo.reg ?_ | refine AReg.nil ?_ | refine AGo.exit rfl ?_ | refine AReg.move rfl rfl ?_ | refine AReg.assign rfl rfl ?_ | refine AReg.lss rfl rfl rfl ?_ | refine AReg.leq rfl rfl rfl ?_ | refine AReg.gtr rfl rfl rfl ?_ | refine AReg.geq rfl rfl rfl ?_ | refine AReg.eql rfl rfl rfl ?_ | refine AReg.neq rfl rfl rfl ?_ | refine AReg.add rfl rfl rfl (by omega) ?_ | refine AReg.sub rfl rfl rfl (by omega) ?_ | refine AReg.not rfl rfl ?_ | refine AReg.lenS rfl rfl (tf (by rfl)) ?_ | refine AReg.idx rfl rfl rfl (tf (by rfl)) (tf (by rfl)) (by omega) ?_ | refine AReg.extract rfl rfl rfl ?_ | refine AReg.box rfl rfl rfl (tb (by rfl)) ?_ | refine AReg.alloc rfl (tf (by rfl)) rfl ?_ | refine AReg.fieldA rfl rfl (tf (by rfl)) rfl (tf (by rfl)) rfl ?_ | refine AReg.makeFunc rfl rfl rfl ?_)
  refine AGo.condD rfl (fun h => ?_) (fun h => ?_)
  · have h : i < len := by omega
    repeat (first | refine AGo.seq ?_ | refine AGo.skip ?_ | refine AGo.block ?_ | refine AGo.inBlock ?_ | refine AGo.scope ?_ | refine AGo.inScope ?_ | refine AGo.label ?_ | refine AGo.reg ?_ | refine AReg.nil ?_ | refine AGo.exit rfl ?_ | refine AReg.move rfl rfl ?_ | refine AReg.assign rfl rfl ?_ | refine AReg.lss rfl rfl rfl ?_ | refine AReg.leq rfl rfl rfl ?_ | refine AReg.gtr rfl rfl rfl ?_ | refine AReg.geq rfl rfl rfl ?_ | refine AReg.eql rfl rfl rfl ?_ | refine AReg.neq rfl rfl rfl ?_ | refine AReg.add rfl rfl rfl (by omega) ?_ | refine AReg.sub rfl rfl rfl (by omega) ?_ | refine AReg.not rfl rfl ?_ | refine AReg.lenS rfl rfl (tf (by rfl)) ?_ | refine AReg.idx rfl rfl rfl (tf (by rfl)) (tf (by rfl)) (by omega) ?_ | refine AReg.extract rfl rfl rfl ?_ | refine AReg.box rfl rfl rfl (tb (by rfl)) ?_ | refine AReg.alloc rfl (tf (by rfl)) rfl ?_ | refine AReg.fieldA rfl rfl (tf (by rfl)) rfl (tf (by rfl)) rfl ?_ | refine AReg.makeFunc rfl rfl rfl ?_)
    refine AReg.load rfl rfl (Gr.ld (by repeat (first | exact Gr.refl _ | assumption | refine Gr.b ?_ _)) (hE i h)) ?_
    refine AReg.go rfl rfl hg ?_
    refine (hf i _ h (by repeat (first | exact Gr.refl _ | assumption | refine Gr.b ?_ _))).mono ?_
    rintro _ σ2 ⟨rfl, hg2⟩
    replace hg2 : Gr σ σ2 := Gr.trans (by repeat (first | exact Gr.refl _ | assumption | refine Gr.b ?_ _)) hg2
    repeat (first | refine AGo.seq ?_ | refine AGo.skip ?_ | refine AGo.block ?_ | refine AGo.inBlock ?_ | refine AGo.scope ?_ | refine AGo.inScope ?_ | refine AGo.label ?_ | refine AGo.reg ?_ | refine AReg.nil ?_ | refine AGo.exit rfl ?_ | refine AReg.move rfl rfl ?_ | refine AReg.assign rfl rfl ?_ | refine AReg.lss rfl rfl rfl ?_ | refine AReg.leq rfl rfl rfl ?_ | refine AReg.gtr rfl rfl rfl ?_ | refine AReg.geq rfl rfl rfl ?_ | refine AReg.eql rfl rfl rfl ?_ | refine AReg.neq rfl rfl rfl ?_ | refine AReg.add rfl rfl rfl (by omega) ?_ | refine AReg.sub rfl rfl rfl (by omega) ?_ | refine AReg.not rfl rfl ?_ | refine AReg.lenS rfl rfl (tf (by rfl)) ?_ | refine AReg.idx rfl rfl rfl (tf (by rfl)) (tf (by rfl)) (by omega) ?_ | refine AReg.extract rfl rfl rfl ?_ | refine AReg.box rfl rfl rfl (tb (by rfl)) ?_ | refine AReg.alloc rfl (tf (by rfl)) rfl ?_ | refine AReg.fieldA rfl rfl (tf (by rfl)) rfl (tf (by rfl)) rfl ?_ | refine AReg.makeFunc rfl rfl rfl ?_)
    refine AGo.condB rfl (fun hb => ?_) (fun hb => ?_)
    · repeat (first | refine AGo.seq ?_ | refine AGo.skip ?_ | refine AGo.block ?_ | refine AGo.inBlock ?_ | refine AGo.scope ?_ | refine AGo.inScope ?_ | refine AGo.label ?_ | refine AGo.reg ?_ | refine AReg.nil ?_ | refine AGo.exit rfl ?_ | refine AReg.move rfl rfl ?_ | refine AReg.assign rfl rfl ?_ | refine AReg.lss rfl rfl rfl ?_ | refine AReg.leq rfl rfl rfl ?_ | refine AReg.gtr rfl rfl rfl ?_ | refine AReg.geq rfl rfl rfl ?_ | refine AReg.eql rfl rfl rfl ?_ | refine AReg.neq rfl rfl rfl ?_ | refine AReg.add rfl rfl rfl (by omega) ?_ | refine AReg.sub rfl rfl rfl (by omega) ?_ | refine AReg.not rfl rfl ?_ | refine AReg.lenS rfl rfl (tf (by rfl)) ?_ | refine AReg.idx rfl rfl rfl (tf (by rfl)) (tf (by rfl)) (by omega) ?_ | refine AReg.extract rfl rfl rfl ?_ | refine AReg.box rfl rfl rfl (tb (by rfl)) ?_ | refine AReg.alloc rfl (tf (by rfl)) rfl ?_ | refine AReg.fieldA rfl rfl (tf (by rfl)) rfl (tf (by rfl)) rfl ?_ | refine AReg.makeFunc rfl rfl rfl ?_)
      refine AGo.ret Try.func45 (by rfl) ?_
      refine ⟨?_, (by repeat (first | exact Gr.refl _ | assumption | refine Gr.b ?_ _))⟩
      rw [findI_hit h hb hp]; rfl
    · repeat (first | refine AGo.seq ?_ | refine AGo.skip ?_ | refine AGo.block ?_ | refine AGo.inBlock ?_ | refine AGo.scope ?_ | refine AGo.inScope ?_ | refine AGo.label ?_ | refine AGo.reg ?_ | refine AReg.nil ?_ | refine AGo.exit rfl ?_ | refine AReg.move rfl rfl ?_ | refine AReg.assign rfl rfl ?_ | refine AReg.lss rfl rfl rfl ?_ | refine AReg.leq rfl rfl rfl ?_ | refine AReg.gtr rfl rfl rfl ?_ | refine AReg.geq rfl rfl rfl ?_ | refine AReg.eql rfl rfl rfl ?_ | refine AReg.neq rfl rfl rfl ?_ | refine AReg.add rfl rfl rfl (by omega) ?_ | refine AReg.sub rfl rfl rfl (by omega) ?_ | refine AReg.not rfl rfl ?_ | refine AReg.lenS rfl rfl (tf (by rfl)) ?_ | refine AReg.idx rfl rfl rfl (tf (by rfl)) (tf (by rfl)) (by omega) ?_ | refine AReg.extract rfl rfl rfl ?_ | refine AReg.box rfl rfl rfl (tb (by rfl)) ?_ | refine AReg.alloc rfl (tf (by rfl)) rfl ?_ | refine AReg.fieldA rfl rfl (tf (by rfl)) rfl (tf (by rfl)) rfl ?_ | refine AReg.makeFunc rfl rfl rfl ?_)
      refine next (i + 1) _ _ (by omega) ⟨by omega, fun j hj => ?_, (by repeat (first | exact Gr.refl _ | assumption | refine Gr.b ?_ _))⟩ ⟨rfl, rfl, rfl, ?_, trivial⟩
      · rcases Nat.lt_succ_iff_lt_or_eq.1 hj with h' | rfl
        · exact hp j h'
        · exact hb
      · show some _ = some _
        simp
  · repeat (first | refine AGo.seq ?_ | refine AGo.skip ?_ | refine AGo.block ?_ | refine AGo.inBlock ?_ | refine AGo.scope ?_ | refine AGo.inScope ?_ | refine AGo.label ?_ | refine AGo.reg ?_ | refine AReg.nil ?_ | refine AGo.exit rfl ?_ | refine AReg.move rfl rfl ?_ | refine AReg.assign rfl rfl ?_ | refine AReg.lss rfl rfl rfl ?_ | refine AReg.leq rfl rfl rfl ?_ | refine AReg.gtr rfl rfl rfl ?_ | refine AReg.geq rfl rfl rfl ?_ | refine AReg.eql rfl rfl rfl ?_ | refine AReg.neq rfl rfl rfl ?_ | refine AReg.add rfl rfl rfl (by omega) ?_ | refine AReg.sub rfl rfl rfl (by omega) ?_ | refine AReg.not rfl rfl ?_ | refine AReg.lenS rfl rfl (tf (by rfl)) ?_ | refine AReg.idx rfl rfl rfl (tf (by rfl)) (tf (by rfl)) (by omega) ?_ | refine AReg.extract rfl rfl rfl ?_ | refine AReg.box rfl rfl rfl (tb (by rfl)) ?_ | refine AReg.alloc rfl (tf (by rfl)) rfl ?_ | refine AReg.fieldA rfl rfl (tf (by rfl)) rfl (tf (by rfl)) rfl ?_ | refine AReg.makeFunc rfl rfl rfl ?_)
    refine AGo.ret Try.func45 (by rfl) ?_
    refine ⟨?_, (by repeat (first | exact Gr.refl _ | assumption | refine Gr.b ?_ _))⟩
    rw [findI_none fun j hj => hp j (by omega)]; rfl
end Go.Abs.Lay
