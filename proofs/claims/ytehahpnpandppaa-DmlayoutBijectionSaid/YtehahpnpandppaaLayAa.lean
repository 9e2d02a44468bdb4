/- A part of the proof: contracts of functions of the program, shown by walking through their code in an abstract machine. Condition: none. -/
import Derived.Test.YtehahpnpandppaaLayV
import Derived.Test.YtehahpnpandppaaLayW
set_option linter.unusedVariables false
set_option linter.unusedSimpArgs false
namespace Go.Abs.Lay
open Go Go.Proofs
-- @TY ty3, ty4, ty22, ty25, ty26, ty31, ty71
-- @AE ae_quo rfl rfl (by assumption) (by assumption)
-- @AE ae_mul rfl rfl (by assumption)
set_option maxHeartbeats 8000000
set_option maxRecDepth 8000

/-- Rows and columns of the mapping matrix of a row of the table. -/
def mr (i : Nat) : Int := (col 0 i).tdiv (col 2 i + 2) * col 2 i
def mc (i : Nat) : Int := (col 1 i).tdiv (col 3 i + 2) * col 3 i
def small (x : Int) : Bool := decide (0 ≤ x) && decide (x ≤ 10000)
theorem small_ok {x : Int} (h : small x = true) : 0 ≤ x ∧ x ≤ 10000 := by simpa [small] using h
theorem tab_small : ∀ i, i < 30 → (0 ≤ col 0 i ∧ col 0 i ≤ 10000) ∧ (0 ≤ col 1 i ∧ col 1 i ≤ 10000) ∧ (0 ≤ col 2 i ∧ col 2 i ≤ 10000) ∧ (0 ≤ col 3 i ∧ col 3 i ≤ 10000) ∧ (0 ≤ (col 0 i).tdiv (col 2 i + 2) ∧ (col 0 i).tdiv (col 2 i + 2) ≤ 10000) ∧ (0 ≤ (col 1 i).tdiv (col 3 i + 2) ∧ (col 1 i).tdiv (col 3 i + 2) ≤ 10000) ∧ (0 ≤ mr i ∧ mr i ≤ 10000) ∧ (0 ≤ mc i ∧ mc i ≤ 10000) := by
  have h : (List.range 30).all (fun i => small (col 0 i) && (small (col 1 i) && (small (col 2 i) && (small (col 3 i) && (small ((col 0 i).tdiv (col 2 i + 2)) && (small ((col 1 i).tdiv (col 3 i + 2)) && (small (mr i) && small (mc i)))))))) = true := by kernel_rfl
  intro i hi
  simp only [List.all_eq_true, List.mem_range, Bool.and_eq_true] at h
  obtain ⟨h1, h2, h3, h4, h5, h6, h7, h8⟩ := h i hi
  exact ⟨small_ok h1, small_ok h2, small_ok h3, small_ok h4, small_ok h5, small_ok h6, small_ok h7, small_ok h8⟩
/-- 'wide' of small -/
theorem wide {x : Int} (h : 0 ≤ x ∧ x ≤ 10000) : -9223372036854775808 ≤ x ∧ x ≤ 9223372036854775807 := by omega

/-- the mapping matrix' rows and columns -/
theorem mapping32 {i : Nat} (hi : i < 30) (σ : AHeap) : ACalls Try.prog 32 [E sizeCells i] σ fun v σ' => v = .tuple #[.int .i64 (mr i), .int .i64 (mc i)] ∧ Gr σ σ' := by
  obtain ⟨h0, h1, h2, h3, h4, h5, h6, h7⟩ := tab_small i hi
  have w4 := wide h4
  have w5 := wide h5
  have w6 := wide h6
  have w7 := wide h7
  unfold mr at w6 ⊢
  unfold mc at w7 ⊢
  have e0 := col_ok 0 (by omega) i hi
  have e1 := col_ok 1 (by omega) i hi
  have e2 := col_ok 2 (by omega) i hi
  have e3 := col_ok 3 (by omega) i hi
  have n2 : col 2 i + 2 ≠ 0 := by omega
  have n3 : col 3 i + 2 ≠ 0 := by omega
  have hE : E sizeCells i = .agg (rowOf sizeCells i).toArray := rfl
  rw [hE]
  clear h4 h5 h6 h7
  generalize rowOf sizeCells i = row at *
  generalize col 0 i = r0 at *
  generalize col 1 i = r1 at *
  generalize col 2 i = r2 at *
  generalize col 3 i = r3 at *
  refine ACalls.wf fun hwf => ?_
  refine ACalls.drop (Q := fun v => v = .tuple #[.int .i64 (r0.tdiv (r2 + 2) * r2), .int .i64 (r1.tdiv (r3 + 2) * r3)]) ?_
  refine ACalls.enter Try.func32 rfl (by rw [Try.ntmps32]; simp) ?_
  rw [Try.ntmps32]
  refine AGo.seq (AGo.reg (AReg.boxO rfl rfl rfl (by rw [ty25]; rfl) fun C τ hC1 hC2 hC3 hC4 => ?_))
  have hC3 : τ.blk C = some (.cells row 25 true) := by rw [hC3]; simp [Value.cells]
  have hs : Sub σ τ := fun c x hc => by
    have hcl : c < σ.next := by
      rcases Nat.lt_or_ge c σ.next with hlt | hge
      · exact hlt
      · rw [hwf c hge] at hc; cases hc
    rw [hC4.blk c hcl]; exact hc
  repeat (first | refine AGo.seq ?_ | refine AGo.skip ?_ | refine AGo.block ?_ | refine AGo.inBlock ?_ | refine AGo.scope ?_ | refine AGo.inScope ?_ | refine AGo.label ?_ | refine AGo.reg ?_ | refine AReg.nil ?_ | refine AGo.exit rfl ?_ | refine AReg.skipG rfl rfl ?_ | refine AReg.valGE rfl rfl (by first | exact ex_move rfl | exact ex_assign rfl | exact ex_load rfl (aload_cell (by first | assumption | exact blk_set _ _ _ | (simp only [AHeap.bump_blk]; first | assumption | exact blk_set _ _ _)) (tf (by rfl)) (by rfl) (by first | assumption | rfl)) | exact ex_fieldA rfl (tf (by rfl)) (by rfl) (tf (by rfl)) (by rfl) | exact ex_idx rfl rfl (tf (by rfl)) (tf (by rfl)) (by omega) | exact ex_idxA rfl rfl (tf (by rfl)) (tf (by rfl)) (by omega) | exact ex_idxA (j := 0) rfl rfl (tf (by rfl)) (tf (by rfl)) (by omega) | exact ex_idxA (j := 1) rfl rfl (tf (by rfl)) (tf (by rfl)) (by omega) | exact ex_idxI rfl rfl (tf (by rfl)) (tf (by rfl)) (by assumption) (by first | assumption | omega) | exact ex_len rfl (tf (by rfl)) | exact ex_add rfl rfl (by omega) | exact ex_sub rfl rfl (by omega) | exact ex_mul rfl rfl (by omega) | exact ex_bool (ex_lss rfl rfl) (by assumption) | exact ex_bool (ex_leq rfl rfl) (by assumption) | exact ex_bool (ex_gtr rfl rfl) (by assumption) | exact ex_bool (ex_geq rfl rfl) (by assumption) | exact ex_bool (ex_eql rfl rfl) (by assumption) | exact ex_bool (ex_neq rfl rfl) (by assumption) | exact ex_lss rfl rfl | exact ex_leq rfl rfl | exact ex_gtr rfl rfl | exact ex_geq rfl rfl | exact ex_eql rfl rfl | exact ex_neq rfl rfl | exact ex_not rfl | exact ex_pickT rfl rfl | exact ex_pickF rfl rfl | exact ex_extract rfl rfl | exact ex_nilCheck rfl | exact ex_makeFunc rfl rfl | exact ex_rem rfl rfl (by omega) | exact ex_quo rfl rfl (by assumption) (by assumption) | exact ex_mul rfl rfl (by assumption)) ?_ | refine AReg.box rfl rfl rfl (tb (by rfl)) ?_ | refine AReg.alloc rfl (tf (by rfl)) (by rfl) ?_)
  refine AGo.drawW [([0, 1, 2, 3, 4, 5, 6, 7, 8], 18, [9, 10, 11, 12, 13, 14, 15, 16, 17]), ([9, 10, 11, 12, 13, 14, 15, 16, 17], 19, [])] [] mixed (by kernel_rfl) ?_
  (repeat (first | refine DW.skipE rfl rfl rfl ?_ | refine DW.skipL rfl rfl rfl ?_ | refine DW.readE rfl rfl rfl rfl (by first | exact ex_move rfl | exact ex_assign rfl | exact ex_load rfl (aload_cell (by first | assumption | exact blk_set _ _ _ | (simp only [AHeap.bump_blk]; first | assumption | exact blk_set _ _ _)) (tf (by rfl)) (by rfl) (by first | assumption | rfl)) | exact ex_fieldA rfl (tf (by rfl)) (by rfl) (tf (by rfl)) (by rfl) | exact ex_idx rfl rfl (tf (by rfl)) (tf (by rfl)) (by omega) | exact ex_idxA rfl rfl (tf (by rfl)) (tf (by rfl)) (by omega) | exact ex_idxA (j := 0) rfl rfl (tf (by rfl)) (tf (by rfl)) (by omega) | exact ex_idxA (j := 1) rfl rfl (tf (by rfl)) (tf (by rfl)) (by omega) | exact ex_idxI rfl rfl (tf (by rfl)) (tf (by rfl)) (by assumption) (by first | assumption | omega) | exact ex_len rfl (tf (by rfl)) | exact ex_add rfl rfl (by omega) | exact ex_sub rfl rfl (by omega) | exact ex_mul rfl rfl (by omega) | exact ex_bool (ex_lss rfl rfl) (by assumption) | exact ex_bool (ex_leq rfl rfl) (by assumption) | exact ex_bool (ex_gtr rfl rfl) (by assumption) | exact ex_bool (ex_geq rfl rfl) (by assumption) | exact ex_bool (ex_eql rfl rfl) (by assumption) | exact ex_bool (ex_neq rfl rfl) (by assumption) | exact ex_lss rfl rfl | exact ex_leq rfl rfl | exact ex_gtr rfl rfl | exact ex_geq rfl rfl | exact ex_eql rfl rfl | exact ex_neq rfl rfl | exact ex_not rfl | exact ex_pickT rfl rfl | exact ex_pickF rfl rfl | exact ex_extract rfl rfl | exact ex_nilCheck rfl | exact ex_makeFunc rfl rfl | exact ex_rem rfl rfl (by omega) | exact ex_quo rfl rfl (by assumption) (by assumption) | exact ex_mul rfl rfl (by assumption)) ?_ | refine DW.readLE rfl rfl rfl rfl (by first | exact ex_move rfl | exact ex_assign rfl | exact ex_load rfl (aload_cell (by first | assumption | exact blk_set _ _ _ | (simp only [AHeap.bump_blk]; first | assumption | exact blk_set _ _ _)) (tf (by rfl)) (by rfl) (by first | assumption | rfl)) | exact ex_fieldA rfl (tf (by rfl)) (by rfl) (tf (by rfl)) (by rfl) | exact ex_idx rfl rfl (tf (by rfl)) (tf (by rfl)) (by omega) | exact ex_idxA rfl rfl (tf (by rfl)) (tf (by rfl)) (by omega) | exact ex_idxA (j := 0) rfl rfl (tf (by rfl)) (tf (by rfl)) (by omega) | exact ex_idxA (j := 1) rfl rfl (tf (by rfl)) (tf (by rfl)) (by omega) | exact ex_idxI rfl rfl (tf (by rfl)) (tf (by rfl)) (by assumption) (by first | assumption | omega) | exact ex_len rfl (tf (by rfl)) | exact ex_add rfl rfl (by omega) | exact ex_sub rfl rfl (by omega) | exact ex_mul rfl rfl (by omega) | exact ex_bool (ex_lss rfl rfl) (by assumption) | exact ex_bool (ex_leq rfl rfl) (by assumption) | exact ex_bool (ex_gtr rfl rfl) (by assumption) | exact ex_bool (ex_geq rfl rfl) (by assumption) | exact ex_bool (ex_eql rfl rfl) (by assumption) | exact ex_bool (ex_neq rfl rfl) (by assumption) | exact ex_lss rfl rfl | exact ex_leq rfl rfl | exact ex_gtr rfl rfl | exact ex_geq rfl rfl | exact ex_eql rfl rfl | exact ex_neq rfl rfl | exact ex_not rfl | exact ex_pickT rfl rfl | exact ex_pickF rfl rfl | exact ex_extract rfl rfl | exact ex_nilCheck rfl | exact ex_makeFunc rfl rfl | exact ex_rem rfl rfl (by omega) | exact ex_quo rfl rfl (by assumption) (by assumption) | exact ex_mul rfl rfl (by assumption)) ?_ | refine DW.effE rfl rfl rfl (ex_assign rfl) ?_ | refine DW.assignM rfl rfl rfl rfl ?_ | refine DW.assignML rfl rfl rfl rfl ?_ | refine DW.done ?_))
  refine AGo.ret Try.func32 (ares_tmp rfl (ares_tmp rfl ares_nil)) ⟨rfl, ⟨_, σ.blk⟩, Gr.ofNext ?_, ?_, rfl⟩
  · have := hC4.next; simp; omega
  · exact hs

/-- the mapping matrix' rows and columns -/
theorem mapping34 {i : Nat} (hi : i < 30) (σ : AHeap) : ACalls Try.prog 34 [E sizeCells i] σ fun v σ' => v = .tuple #[.int .i64 (mr i), .int .i64 (mc i)] ∧ Gr σ σ' := by
  obtain ⟨h0, h1, h2, h3, h4, h5, h6, h7⟩ := tab_small i hi
  have w4 := wide h4
  have w5 := wide h5
  have w6 := wide h6
  have w7 := wide h7
  unfold mr at w6 ⊢
  unfold mc at w7 ⊢
  have e0 := col_ok 0 (by omega) i hi
  have e1 := col_ok 1 (by omega) i hi
  have e2 := col_ok 2 (by omega) i hi
  have e3 := col_ok 3 (by omega) i hi
  have n2 : col 2 i + 2 ≠ 0 := by omega
  have n3 : col 3 i + 2 ≠ 0 := by omega
  have hE : E sizeCells i = .agg (rowOf sizeCells i).toArray := rfl
  rw [hE]
  clear h4 h5 h6 h7
  generalize rowOf sizeCells i = row at *
  generalize col 0 i = r0 at *
  generalize col 1 i = r1 at *
  generalize col 2 i = r2 at *
  generalize col 3 i = r3 at *
  refine ACalls.wf fun hwf => ?_
  refine ACalls.drop (Q := fun v => v = .tuple #[.int .i64 (r0.tdiv (r2 + 2) * r2), .int .i64 (r1.tdiv (r3 + 2) * r3)]) ?_
  refine ACalls.enter Try.func34 rfl (by rw [Try.ntmps34]; simp) ?_
  rw [Try.ntmps34]
  refine AGo.seq (AGo.reg (AReg.boxO rfl rfl rfl (by rw [ty25]; rfl) fun C τ hC1 hC2 hC3 hC4 => ?_))
  have hC3 : τ.blk C = some (.cells row 25 true) := by rw [hC3]; simp [Value.cells]
  have hs : Sub σ τ := fun c x hc => by
    have hcl : c < σ.next := by
      rcases Nat.lt_or_ge c σ.next with hlt | hge
      · exact hlt
      · rw [hwf c hge] at hc; cases hc
    rw [hC4.blk c hcl]; exact hc
  repeat (first | refine AGo.seq ?_ | refine AGo.skip ?_ | refine AGo.block ?_ | refine AGo.inBlock ?_ | refine AGo.scope ?_ | refine AGo.inScope ?_ | refine AGo.label ?_ | refine AGo.reg ?_ | refine AReg.nil ?_ | refine AGo.exit rfl ?_ | refine AReg.skipG rfl rfl ?_ | refine AReg.valGE rfl rfl (by first | exact ex_move rfl | exact ex_assign rfl | exact ex_load rfl (aload_cell (by first | assumption | exact blk_set _ _ _ | (simp only [AHeap.bump_blk]; first | assumption | exact blk_set _ _ _)) (tf (by rfl)) (by rfl) (by first | assumption | rfl)) | exact ex_fieldA rfl (tf (by rfl)) (by rfl) (tf (by rfl)) (by rfl) | exact ex_idx rfl rfl (tf (by rfl)) (tf (by rfl)) (by omega) | exact ex_idxA rfl rfl (tf (by rfl)) (tf (by rfl)) (by omega) | exact ex_idxA (j := 0) rfl rfl (tf (by rfl)) (tf (by rfl)) (by omega) | exact ex_idxA (j := 1) rfl rfl (tf (by rfl)) (tf (by rfl)) (by omega) | exact ex_idxI rfl rfl (tf (by rfl)) (tf (by rfl)) (by assumption) (by first | assumption | omega) | exact ex_len rfl (tf (by rfl)) | exact ex_add rfl rfl (by omega) | exact ex_sub rfl rfl (by omega) | exact ex_mul rfl rfl (by omega) | exact ex_bool (ex_lss rfl rfl) (by assumption) | exact ex_bool (ex_leq rfl rfl) (by assumption) | exact ex_bool (ex_gtr rfl rfl) (by assumption) | exact ex_bool (ex_geq rfl rfl) (by assumption) | exact ex_bool (ex_eql rfl rfl) (by assumption) | exact ex_bool (ex_neq rfl rfl) (by assumption) | exact ex_lss rfl rfl | exact ex_leq rfl rfl | exact ex_gtr rfl rfl | exact ex_geq rfl rfl | exact ex_eql rfl rfl | exact ex_neq rfl rfl | exact ex_not rfl | exact ex_pickT rfl rfl | exact ex_pickF rfl rfl | exact ex_extract rfl rfl | exact ex_nilCheck rfl | exact ex_makeFunc rfl rfl | exact ex_rem rfl rfl (by omega) | exact ex_quo rfl rfl (by assumption) (by assumption) | exact ex_mul rfl rfl (by assumption)) ?_ | refine AReg.box rfl rfl rfl (tb (by rfl)) ?_ | refine AReg.alloc rfl (tf (by rfl)) (by rfl) ?_)
  refine AGo.drawW [([0, 1, 2, 3, 4, 5, 6, 7, 8], 18, [9, 10, 11, 12, 13, 14, 15, 16, 17]), ([9, 10, 11, 12, 13, 14, 15, 16, 17], 19, [])] [] mixed (by kernel_rfl) ?_
  (repeat (first | refine DW.skipE rfl rfl rfl ?_ | refine DW.skipL rfl rfl rfl ?_ | refine DW.readE rfl rfl rfl rfl (by first | exact ex_move rfl | exact ex_assign rfl | exact ex_load rfl (aload_cell (by first | assumption | exact blk_set _ _ _ | (simp only [AHeap.bump_blk]; first | assumption | exact blk_set _ _ _)) (tf (by rfl)) (by rfl) (by first | assumption | rfl)) | exact ex_fieldA rfl (tf (by rfl)) (by rfl) (tf (by rfl)) (by rfl) | exact ex_idx rfl rfl (tf (by rfl)) (tf (by rfl)) (by omega) | exact ex_idxA rfl rfl (tf (by rfl)) (tf (by rfl)) (by omega) | exact ex_idxA (j := 0) rfl rfl (tf (by rfl)) (tf (by rfl)) (by omega) | exact ex_idxA (j := 1) rfl rfl (tf (by rfl)) (tf (by rfl)) (by omega) | exact ex_idxI rfl rfl (tf (by rfl)) (tf (by rfl)) (by assumption) (by first | assumption | omega) | exact ex_len rfl (tf (by rfl)) | exact ex_add rfl rfl (by omega) | exact ex_sub rfl rfl (by omega) | exact ex_mul rfl rfl (by omega) | exact ex_bool (ex_lss rfl rfl) (by assumption) | exact ex_bool (ex_leq rfl rfl) (by assumption) | exact ex_bool (ex_gtr rfl rfl) (by assumption) | exact ex_bool (ex_geq rfl rfl) (by assumption) | exact ex_bool (ex_eql rfl rfl) (by assumption) | exact ex_bool (ex_neq rfl rfl) (by assumption) | exact ex_lss rfl rfl | exact ex_leq rfl rfl | exact ex_gtr rfl rfl | exact ex_geq rfl rfl | exact ex_eql rfl rfl | exact ex_neq rfl rfl | exact ex_not rfl | exact ex_pickT rfl rfl | exact ex_pickF rfl rfl | exact ex_extract rfl rfl | exact ex_nilCheck rfl | exact ex_makeFunc rfl rfl | exact ex_rem rfl rfl (by omega) | exact ex_quo rfl rfl (by assumption) (by assumption) | exact ex_mul rfl rfl (by assumption)) ?_ | refine DW.readLE rfl rfl rfl rfl (by first | exact ex_move rfl | exact ex_assign rfl | exact ex_load rfl (aload_cell (by first | assumption | exact blk_set _ _ _ | (simp only [AHeap.bump_blk]; first | assumption | exact blk_set _ _ _)) (tf (by rfl)) (by rfl) (by first | assumption | rfl)) | exact ex_fieldA rfl (tf (by rfl)) (by rfl) (tf (by rfl)) (by rfl) | exact ex_idx rfl rfl (tf (by rfl)) (tf (by rfl)) (by omega) | exact ex_idxA rfl rfl (tf (by rfl)) (tf (by rfl)) (by omega) | exact ex_idxA (j := 0) rfl rfl (tf (by rfl)) (tf (by rfl)) (by omega) | exact ex_idxA (j := 1) rfl rfl (tf (by rfl)) (tf (by rfl)) (by omega) | exact ex_idxI rfl rfl (tf (by rfl)) (tf (by rfl)) (by assumption) (by first | assumption | omega) | exact ex_len rfl (tf (by rfl)) | exact ex_add rfl rfl (by omega) | exact ex_sub rfl rfl (by omega) | exact ex_mul rfl rfl (by omega) | exact ex_bool (ex_lss rfl rfl) (by assumption) | exact ex_bool (ex_leq rfl rfl) (by assumption) | exact ex_bool (ex_gtr rfl rfl) (by assumption) | exact ex_bool (ex_geq rfl rfl) (by assumption) | exact ex_bool (ex_eql rfl rfl) (by assumption) | exact ex_bool (ex_neq rfl rfl) (by assumption) | exact ex_lss rfl rfl | exact ex_leq rfl rfl | exact ex_gtr rfl rfl | exact ex_geq rfl rfl | exact ex_eql rfl rfl | exact ex_neq rfl rfl | exact ex_not rfl | exact ex_pickT rfl rfl | exact ex_pickF rfl rfl | exact ex_extract rfl rfl | exact ex_nilCheck rfl | exact ex_makeFunc rfl rfl | exact ex_rem rfl rfl (by omega) | exact ex_quo rfl rfl (by assumption) (by assumption) | exact ex_mul rfl rfl (by assumption)) ?_ | refine DW.effE rfl rfl rfl (ex_assign rfl) ?_ | refine DW.assignM rfl rfl rfl rfl ?_ | refine DW.assignML rfl rfl rfl rfl ?_ | refine DW.done ?_))
  refine AGo.ret Try.func34 (ares_tmp rfl (ares_tmp rfl ares_nil)) ⟨rfl, ⟨_, σ.blk⟩, Gr.ofNext ?_, ?_, rfl⟩
  · have := hC4.next; simp; omega
  · exact hs

end Go.Abs.Lay
