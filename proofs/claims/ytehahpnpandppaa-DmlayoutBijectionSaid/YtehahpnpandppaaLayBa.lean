/- A part of the proof: contracts of functions of the program, shown by walking through their code in an abstract machine. Condition: none. -/
import Derived.Test.YtehahpnpandppaaLayAc
set_option linter.unusedVariables false
set_option linter.unusedSimpArgs false
namespace Go.Abs.Lay
open Go Go.Proofs
-- @TY ty3, ty4, ty5, ty22, ty25, ty26, ty31, ty36
-- @AE ae_quo rfl rfl (by assumption) (by assumption)
-- @AE ae_mul rfl rfl (by assumption)
-- @AE ae_convert rfl (tf rfl) (tf rfl) (IntWalk.i64_in _ (by omega))
set_option maxHeartbeats 8000000
set_option maxRecDepth 8000

/-! What is known of the modules of an order -/
def isNegV : Value → Bool
  | .int _ x => decide (x = -1)
  | _ => false
theorem chkPs_ok {N : Nat} : ∀ {l : List Nat} {mask : Nat}, chkPs N mask l = true → l.Nodup ∧ ∀ p ∈ l, p < N ∧ mask.testBit p = false
  | [], _, _ => ⟨List.nodup_nil, fun p hp => by cases hp⟩
  | p :: l, mask, h => by
    simp only [chkPs, Bool.and_eq_true, Bool.not_eq_true'] at h
    obtain ⟨⟨h1, h2⟩, h3⟩ := h
    obtain ⟨i1, i2⟩ := chkPs_ok h3
    have hm : ∀ q, (Nat.lor mask (Nat.shiftLeft 1 p)).testBit q = (mask.testBit q || decide (p = q)) := fun q => by
      show (mask ||| (1 <<< p)).testBit q = _
      rw [Nat.testBit_or, Nat.one_shiftLeft, Nat.testBit_two_pow]
    refine ⟨List.nodup_cons.2 ⟨fun hp => ?_, i1⟩, fun q hq => ?_⟩
    · have := (i2 p hp).2; rw [hm] at this; simp at this
    · rcases List.mem_cons.1 hq with rfl | hq
      · exact ⟨Nat.le_of_ble_eq_true h1, h2⟩
      · have := i2 q hq; rw [hm] at this
        refine ⟨this.1, ?_⟩
        have h4 := this.2
        simp only [Bool.or_eq_false_iff] at h4; exact h4.1
theorem bits_neg {N : Nat} : ∀ {ps : List Nat} {j : Nat}, j < N → j ∉ ps → (bitsOf N ps)[j]? = some (.int .i64 (-1))
  | [], j, hj, _ => by simp [bitsOf, hj]
  | p :: ps, j, hj, h => by
    simp only [List.mem_cons, not_or] at h
    rw [bitsOf, List.getElem?_set_ne (fun e => h.1 e.symm)]
    exact bits_neg hj h.2
theorem bits_at {N : Nat} : ∀ {ps : List Nat} {j : Nat} {v : Int}, j < N → (bitsOf N ps)[j]? = some (.int .i64 v) → v ≠ -1 → ∃ x : Nat, v = (x : Int) ∧ x < ps.length ∧ ps.reverse[x]? = some j
  | [], j, v, hj, h, hv => by simp [bitsOf, hj] at h; exact absurd h.symm hv
  | p :: ps, j, v, hj, h, hv => by
    by_cases hp : p = j
    · subst hp
      simp only [bitsOf] at h
      rw [List.getElem?_set_self (by rw [bitsOf_len]; exact hj)] at h
      cases h
      exact ⟨ps.length, rfl, by simp, by simp⟩
    · rw [bitsOf, List.getElem?_set_ne hp] at h
      obtain ⟨x, h1, h2, h3⟩ := bits_at hj h hv
      refine ⟨x, h1, by simp; omega, ?_⟩
      rw [List.reverse_cons, List.getElem?_append_left (by simpa using h2)]; exact h3
theorem bits_count {N : Nat} : ∀ {ps : List Nat}, ps.Nodup → (∀ p ∈ ps, p < N) → (bitsOf N ps).countP isNegV + ps.length = N
  | [], _, _ => by
    have : (List.replicate N (Value.int .i64 (-1))).countP isNegV = N := by
      rw [List.countP_eq_length.2 (fun a ha => by rw [List.eq_of_mem_replicate ha]; rfl)]; simp
    simpa [bitsOf] using this
  | p :: ps, hn, hb => by
    obtain ⟨h1, h2⟩ := List.nodup_cons.1 hn
    have ih := bits_count h2 fun q hq => hb q (List.mem_cons_of_mem _ hq)
    have hp := hb p (List.mem_cons_self ..)
    have hl : p < (bitsOf N ps).length := by rw [bitsOf_len]; exact hp
    have hv := bits_neg hp h1
    rw [List.getElem?_eq_getElem hl] at hv
    have hv' : (bitsOf N ps)[p] = .int .i64 (-1) := by injection hv
    rw [bitsOf, List.countP_set hl, hv']
    have e1 : isNegV (.int .i64 (-1)) = true := rfl
    have e2 : isNegV (.int .i64 ((ps.length : Nat) : Int)) = false := by simp [isNegV]
    rw [e1, e2]
    have hpos : 0 < (bitsOf N ps).countP isNegV := by
      rw [List.countP_pos_iff]; exact ⟨_, List.getElem_mem hl, by rw [hv']; rfl⟩
    simp
    omega

theorem tab_reg : ∀ i, i < 30 → (1 ≤ col 2 i ∧ col 2 i ≤ 200) ∧ (1 ≤ col 3 i ∧ col 3 i ≤ 200) ∧ (0 ≤ col 0 i ∧ col 0 i ≤ 200) ∧ (0 ≤ col 1 i ∧ col 1 i ≤ 200) ∧ (((NOf i : Nat) : Int) - 8 * (col 4 i + col 5 i) = 0 ∨ ((NOf i : Nat) : Int) - 8 * (col 4 i + col 5 i) = 4) ∧ (0 ≤ col 4 i ∧ col 4 i ≤ 10000) ∧ (0 ≤ col 5 i ∧ col 5 i ≤ 10000) := by
  have h : (List.range 30).all (fun i => (decide (1 ≤ col 2 i) && decide (col 2 i ≤ 200)) && ((decide (1 ≤ col 3 i) && decide (col 3 i ≤ 200)) && ((decide (0 ≤ col 0 i) && decide (col 0 i ≤ 200)) && ((decide (0 ≤ col 1 i) && decide (col 1 i ≤ 200)) && ((decide (((NOf i : Nat) : Int) - 8 * (col 4 i + col 5 i) = 0) || decide (((NOf i : Nat) : Int) - 8 * (col 4 i + col 5 i) = 4)) && ((decide (0 ≤ col 4 i) && decide (col 4 i ≤ 10000)) && (decide (0 ≤ col 5 i) && decide (col 5 i ≤ 10000)))))))) = true := by kernel_rfl
  intro i hi
  simp only [List.all_eq_true, List.mem_range, Bool.and_eq_true, Bool.or_eq_true, decide_eq_true_eq] at h
  exact h i hi

/-- the law's mapping -/
theorem mapping21 {i : Nat} (hi : i < 30) (σ : AHeap) : ACalls Try.prog 21 [E sizeCells i] σ fun v σ' => v = .tuple #[.int .i64 (mr i), .int .i64 (mc i)] ∧ Gr σ σ' := by
  obtain ⟨h0, h1, h2, h3, h4, h5, h6, h7⟩ := tab_small i hi
  obtain ⟨⟨a1, a2⟩, ⟨a3, a4⟩, ⟨a5, a6⟩, ⟨a7, a8⟩, _⟩ := tab_reg i hi
  have w4 := wide h4
  have w5 := wide h5
  have w6 := wide h6
  have w7 := wide h7
  unfold mr at w6 ⊢
  unfold mc at w7 ⊢
  have e0 := col_ok 0 (by omega) i hi
  have e1 := col_ok 1 (by omega) i hi
  have e2 := col_ok 2 (by omega) i hi
  have e3 := col_ok 3 (by omega) i hi
  have n2 : col 2 i + 2 ≠ 0 := by omega
  have n3 : col 3 i + 2 ≠ 0 := by omega
  have hE : E sizeCells i = .agg (rowOf sizeCells i).toArray := rfl
  rw [hE]
  clear h4 h5 h6 h7
  generalize rowOf sizeCells i = row at *
  generalize col 0 i = r0 at *
  generalize col 1 i = r1 at *
  generalize col 2 i = r2 at *
  generalize col 3 i = r3 at *
  have g1 : decide (r2 < 1) = false := by simp; omega
  have g2 : decide (r2 > 200) = false := by simp; omega
  have g3 : decide (r3 < 1) = false := by simp; omega
  have g4 : decide (r3 > 200) = false := by simp; omega
  have g5 : decide (r0 < 0) = false := by simp; omega
  have g6 : decide (r0 > 200) = false := by simp; omega
  have g7 : decide (r1 < 0) = false := by simp; omega
  have g8 : decide (r1 > 200) = false := by simp; omega
  refine ACalls.wf fun hwf => ?_
  refine ACalls.drop (Q := fun v => v = .tuple #[.int .i64 (r0.tdiv (r2 + 2) * r2), .int .i64 (r1.tdiv (r3 + 2) * r3)]) ?_
  refine ACalls.enter Try.func21 rfl (by rw [Try.ntmps21]; simp) ?_
  rw [Try.ntmps21]
  refine AGo.seq (AGo.reg (AReg.boxO rfl rfl rfl (tb rfl) fun C τ hC1 hC2 hC3 hC4 => ?_))
  have hC3 : τ.blk C = some (.cells row 25 true) := by rw [hC3]; simp [Value.cells]
  have hs : Sub σ τ := fun c x hc => by
    have hcl : c < σ.next := by
      rcases Nat.lt_or_ge c σ.next with hlt | hge
      · exact hlt
      · rw [hwf c hge] at hc; cases hc
    rw [hC4.blk c hcl]; exact hc
  repeat (first | refine AGo.seq ?_ | refine AGo.skip ?_ | refine AGo.block ?_ | refine AGo.inBlock ?_ | refine AGo.scope ?_ | refine AGo.inScope ?_ | refine AGo.label ?_ | refine AGo.reg ?_ | refine AReg.nil ?_ | refine AGo.exit rfl ?_ | refine AReg.skipG rfl rfl ?_ | refine AReg.valGE rfl rfl (by first | exact ex_move rfl | exact ex_assign rfl | exact ex_load rfl (aload_cell (by first | assumption | exact blk_set _ _ _ | (simp only [AHeap.bump_blk]; first | assumption | exact blk_set _ _ _)) (tf (by rfl)) (by rfl) (by first | assumption | rfl)) | exact ex_fieldA rfl (tf (by rfl)) (by rfl) (tf (by rfl)) (by rfl) | exact ex_idx rfl rfl (tf (by rfl)) (tf (by rfl)) (by omega) | exact ex_idxA rfl rfl (tf (by rfl)) (tf (by rfl)) (by omega) | exact ex_idxA (j := 0) rfl rfl (tf (by rfl)) (tf (by rfl)) (by omega) | exact ex_idxA (j := 1) rfl rfl (tf (by rfl)) (tf (by rfl)) (by omega) | exact ex_idxI rfl rfl (tf (by rfl)) (tf (by rfl)) (by assumption) (by first | assumption | omega) | exact ex_len rfl (tf (by rfl)) | exact ex_add rfl rfl (by omega) | exact ex_sub rfl rfl (by omega) | exact ex_mul rfl rfl (by omega) | exact ex_bool (ex_lss rfl rfl) (by assumption) | exact ex_bool (ex_leq rfl rfl) (by assumption) | exact ex_bool (ex_gtr rfl rfl) (by assumption) | exact ex_bool (ex_geq rfl rfl) (by assumption) | exact ex_bool (ex_eql rfl rfl) (by assumption) | exact ex_bool (ex_neq rfl rfl) (by assumption) | exact ex_lss rfl rfl | exact ex_leq rfl rfl | exact ex_gtr rfl rfl | exact ex_geq rfl rfl | exact ex_eql rfl rfl | exact ex_neq rfl rfl | exact ex_not rfl | exact ex_pickT rfl rfl | exact ex_pickF rfl rfl | exact ex_extract rfl rfl | exact ex_nilCheck rfl | exact ex_makeFunc rfl rfl | exact ex_rem rfl rfl (by omega) | exact ex_quo rfl rfl (by assumption) (by assumption) | exact ex_mul rfl rfl (by assumption) | exact ex_convert rfl (tf rfl) (tf rfl) (IntWalk.i64_in _ (by omega))) ?_ | refine AReg.box rfl rfl rfl (tb (by rfl)) ?_ | refine AReg.alloc rfl (tf (by rfl)) (by rfl) ?_)
  refine AGo.condF rfl ?_
  repeat (first | refine AGo.seq ?_ | refine AGo.skip ?_ | refine AGo.block ?_ | refine AGo.inBlock ?_ | refine AGo.scope ?_ | refine AGo.inScope ?_ | refine AGo.label ?_ | refine AGo.reg ?_ | refine AReg.nil ?_ | refine AGo.exit rfl ?_ | refine AReg.skipG rfl rfl ?_ | refine AReg.valGE rfl rfl (by first | exact ex_move rfl | exact ex_assign rfl | exact ex_load rfl (aload_cell (by first | assumption | exact blk_set _ _ _ | (simp only [AHeap.bump_blk]; first | assumption | exact blk_set _ _ _)) (tf (by rfl)) (by rfl) (by first | assumption | rfl)) | exact ex_fieldA rfl (tf (by rfl)) (by rfl) (tf (by rfl)) (by rfl) | exact ex_idx rfl rfl (tf (by rfl)) (tf (by rfl)) (by omega) | exact ex_idxA rfl rfl (tf (by rfl)) (tf (by rfl)) (by omega) | exact ex_idxA (j := 0) rfl rfl (tf (by rfl)) (tf (by rfl)) (by omega) | exact ex_idxA (j := 1) rfl rfl (tf (by rfl)) (tf (by rfl)) (by omega) | exact ex_idxI rfl rfl (tf (by rfl)) (tf (by rfl)) (by assumption) (by first | assumption | omega) | exact ex_len rfl (tf (by rfl)) | exact ex_add rfl rfl (by omega) | exact ex_sub rfl rfl (by omega) | exact ex_mul rfl rfl (by omega) | exact ex_bool (ex_lss rfl rfl) (by assumption) | exact ex_bool (ex_leq rfl rfl) (by assumption) | exact ex_bool (ex_gtr rfl rfl) (by assumption) | exact ex_bool (ex_geq rfl rfl) (by assumption) | exact ex_bool (ex_eql rfl rfl) (by assumption) | exact ex_bool (ex_neq rfl rfl) (by assumption) | exact ex_lss rfl rfl | exact ex_leq rfl rfl | exact ex_gtr rfl rfl | exact ex_geq rfl rfl | exact ex_eql rfl rfl | exact ex_neq rfl rfl | exact ex_not rfl | exact ex_pickT rfl rfl | exact ex_pickF rfl rfl | exact ex_extract rfl rfl | exact ex_nilCheck rfl | exact ex_makeFunc rfl rfl | exact ex_rem rfl rfl (by omega) | exact ex_quo rfl rfl (by assumption) (by assumption) | exact ex_mul rfl rfl (by assumption) | exact ex_convert rfl (tf rfl) (tf rfl) (IntWalk.i64_in _ (by omega))) ?_ | refine AReg.box rfl rfl rfl (tb (by rfl)) ?_ | refine AReg.alloc rfl (tf (by rfl)) (by rfl) ?_)
  refine AGo.drawW [([0, 1, 2, 3, 4, 5, 6, 7, 8], 18, [9, 10, 11, 12, 13, 14, 15, 16, 17]), ([9, 10, 11, 12, 13, 14, 15, 16, 17], 19, [])] [] mixed (by kernel_rfl) ?_
  (repeat (first | refine DW.skipE rfl rfl rfl ?_ | refine DW.skipL rfl rfl rfl ?_ | refine DW.readE rfl rfl rfl rfl (by first | exact ex_move rfl | exact ex_assign rfl | exact ex_load rfl (aload_cell (by first | assumption | exact blk_set _ _ _ | (simp only [AHeap.bump_blk]; first | assumption | exact blk_set _ _ _)) (tf (by rfl)) (by rfl) (by first | assumption | rfl)) | exact ex_fieldA rfl (tf (by rfl)) (by rfl) (tf (by rfl)) (by rfl) | exact ex_idx rfl rfl (tf (by rfl)) (tf (by rfl)) (by omega) | exact ex_idxA rfl rfl (tf (by rfl)) (tf (by rfl)) (by omega) | exact ex_idxA (j := 0) rfl rfl (tf (by rfl)) (tf (by rfl)) (by omega) | exact ex_idxA (j := 1) rfl rfl (tf (by rfl)) (tf (by rfl)) (by omega) | exact ex_idxI rfl rfl (tf (by rfl)) (tf (by rfl)) (by assumption) (by first | assumption | omega) | exact ex_len rfl (tf (by rfl)) | exact ex_add rfl rfl (by omega) | exact ex_sub rfl rfl (by omega) | exact ex_mul rfl rfl (by omega) | exact ex_bool (ex_lss rfl rfl) (by assumption) | exact ex_bool (ex_leq rfl rfl) (by assumption) | exact ex_bool (ex_gtr rfl rfl) (by assumption) | exact ex_bool (ex_geq rfl rfl) (by assumption) | exact ex_bool (ex_eql rfl rfl) (by assumption) | exact ex_bool (ex_neq rfl rfl) (by assumption) | exact ex_lss rfl rfl | exact ex_leq rfl rfl | exact ex_gtr rfl rfl | exact ex_geq rfl rfl | exact ex_eql rfl rfl | exact ex_neq rfl rfl | exact ex_not rfl | exact ex_pickT rfl rfl | exact ex_pickF rfl rfl | exact ex_extract rfl rfl | exact ex_nilCheck rfl | exact ex_makeFunc rfl rfl | exact ex_rem rfl rfl (by omega) | exact ex_quo rfl rfl (by assumption) (by assumption) | exact ex_mul rfl rfl (by assumption) | exact ex_convert rfl (tf rfl) (tf rfl) (IntWalk.i64_in _ (by omega))) ?_ | refine DW.readLE rfl rfl rfl rfl (by first | exact ex_move rfl | exact ex_assign rfl | exact ex_load rfl (aload_cell (by first | assumption | exact blk_set _ _ _ | (simp only [AHeap.bump_blk]; first | assumption | exact blk_set _ _ _)) (tf (by rfl)) (by rfl) (by first | assumption | rfl)) | exact ex_fieldA rfl (tf (by rfl)) (by rfl) (tf (by rfl)) (by rfl) | exact ex_idx rfl rfl (tf (by rfl)) (tf (by rfl)) (by omega) | exact ex_idxA rfl rfl (tf (by rfl)) (tf (by rfl)) (by omega) | exact ex_idxA (j := 0) rfl rfl (tf (by rfl)) (tf (by rfl)) (by omega) | exact ex_idxA (j := 1) rfl rfl (tf (by rfl)) (tf (by rfl)) (by omega) | exact ex_idxI rfl rfl (tf (by rfl)) (tf (by rfl)) (by assumption) (by first | assumption | omega) | exact ex_len rfl (tf (by rfl)) | exact ex_add rfl rfl (by omega) | exact ex_sub rfl rfl (by omega) | exact ex_mul rfl rfl (by omega) | exact ex_bool (ex_lss rfl rfl) (by assumption) | exact ex_bool (ex_leq rfl rfl) (by assumption) | exact ex_bool (ex_gtr rfl rfl) (by assumption) | exact ex_bool (ex_geq rfl rfl) (by assumption) | exact ex_bool (ex_eql rfl rfl) (by assumption) | exact ex_bool (ex_neq rfl rfl) (by assumption) | exact ex_lss rfl rfl | exact ex_leq rfl rfl | exact ex_gtr rfl rfl | exact ex_geq rfl rfl | exact ex_eql rfl rfl | exact ex_neq rfl rfl | exact ex_not rfl | exact ex_pickT rfl rfl | exact ex_pickF rfl rfl | exact ex_extract rfl rfl | exact ex_nilCheck rfl | exact ex_makeFunc rfl rfl | exact ex_rem rfl rfl (by omega) | exact ex_quo rfl rfl (by assumption) (by assumption) | exact ex_mul rfl rfl (by assumption) | exact ex_convert rfl (tf rfl) (tf rfl) (IntWalk.i64_in _ (by omega))) ?_ | refine DW.effE rfl rfl rfl (ex_assign rfl) ?_ | refine DW.assignM rfl rfl rfl rfl ?_ | refine DW.assignML rfl rfl rfl rfl ?_ | refine DW.done ?_))
  refine AGo.ret Try.func21 (ares_tmp rfl (ares_tmp rfl ares_nil)) ⟨rfl, ⟨_, σ.blk⟩, Gr.ofNext ?_, ?_, rfl⟩
  · have := hC4.next; simp; omega
  · exact hs
end Go.Abs.Lay
