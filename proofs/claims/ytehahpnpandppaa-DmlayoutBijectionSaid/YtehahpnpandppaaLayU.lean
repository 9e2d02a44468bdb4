/- A part of the proof: contracts of functions of the program, shown by walking through their code in an abstract machine. Condition: none. -/
import Derived.Test.YtehahpnpandppaaLayT
set_option linter.unusedVariables false
set_option linter.unusedSimpArgs false
namespace Go.Abs.Lay
open Go Go.Proofs
-- @TY ty3, ty31, ty71, ty89, ty90
-- @AE ae_build rfl (ab89 _ _)
set_option maxHeartbeats 8000000

def cond1 (m n : Nat) (r c : Int) : Bool := decide (r = (m : Int)) && decide (c = 0)
def crn1 (m n : Nat) : List (Int × Int) := [((m : Int) - 1, 0), ((m : Int) - 1, 1), ((m : Int) - 1, 2), (0, (n : Int) - 2), (0, (n : Int) - 1), (1, (n : Int) - 1), (2, (n : Int) - 1), (3, (n : Int) - 1)]
theorem crn1_bnd {m n : Nat} (hm : m ≤ 200) (hn : n ≤ 200) : ∀ x ∈ crn1 m n, (-100000 ≤ x.1 ∧ x.1 ≤ 100000) ∧ (-100000 ≤ x.2 ∧ x.2 ≤ 100000) := by
  intro x hx; simp only [crn1, List.mem_cons, List.not_mem_nil, or_false] at hx
  rcases hx with rfl | rfl | rfl | rfl | rfl | rfl | rfl | rfl <;> exact ⟨by simp only; omega, by simp only; omega⟩
def cond2 (m n : Nat) (r c : Int) : Bool := (decide (r = (m : Int) - 2) && decide (c = 0)) && decide ((n : Int).tmod 4 ≠ 0)
def crn2 (m n : Nat) : List (Int × Int) := [((m : Int) - 3, 0), ((m : Int) - 2, 0), ((m : Int) - 1, 0), (0, (n : Int) - 4), (0, (n : Int) - 3), (0, (n : Int) - 2), (0, (n : Int) - 1), (1, (n : Int) - 1)]
theorem crn2_bnd {m n : Nat} (hm : m ≤ 200) (hn : n ≤ 200) : ∀ x ∈ crn2 m n, (-100000 ≤ x.1 ∧ x.1 ≤ 100000) ∧ (-100000 ≤ x.2 ∧ x.2 ≤ 100000) := by
  intro x hx; simp only [crn2, List.mem_cons, List.not_mem_nil, or_false] at hx
  rcases hx with rfl | rfl | rfl | rfl | rfl | rfl | rfl | rfl <;> exact ⟨by simp only; omega, by simp only; omega⟩
def cond3 (m n : Nat) (r c : Int) : Bool := (decide (r = (m : Int) - 2) && decide (c = 0)) && decide ((n : Int).tmod 8 = 4)
def crn3 (m n : Nat) : List (Int × Int) := [((m : Int) - 3, 0), ((m : Int) - 2, 0), ((m : Int) - 1, 0), (0, (n : Int) - 2), (0, (n : Int) - 1), (1, (n : Int) - 1), (2, (n : Int) - 1), (3, (n : Int) - 1)]
theorem crn3_bnd {m n : Nat} (hm : m ≤ 200) (hn : n ≤ 200) : ∀ x ∈ crn3 m n, (-100000 ≤ x.1 ∧ x.1 ≤ 100000) ∧ (-100000 ≤ x.2 ∧ x.2 ≤ 100000) := by
  intro x hx; simp only [crn3, List.mem_cons, List.not_mem_nil, or_false] at hx
  rcases hx with rfl | rfl | rfl | rfl | rfl | rfl | rfl | rfl <;> exact ⟨by simp only; omega, by simp only; omega⟩
def cond4 (m n : Nat) (r c : Int) : Bool := (decide (r = (m : Int) + 4) && decide (c = 2)) && decide ((n : Int).tmod 8 = 0)
def crn4 (m n : Nat) : List (Int × Int) := [((m : Int) - 1, 0), ((m : Int) - 1, (n : Int) - 1), (0, (n : Int) - 3), (0, (n : Int) - 2), (0, (n : Int) - 1), (1, (n : Int) - 3), (1, (n : Int) - 2), (1, (n : Int) - 1)]
theorem crn4_bnd {m n : Nat} (hm : m ≤ 200) (hn : n ≤ 200) : ∀ x ∈ crn4 m n, (-100000 ≤ x.1 ∧ x.1 ≤ 100000) ∧ (-100000 ≤ x.2 ∧ x.2 ≤ 100000) := by
  intro x hx; simp only [crn4, List.mem_cons, List.not_mem_nil, or_false] at hx
  rcases hx with rfl | rfl | rfl | rfl | rfl | rfl | rfl | rfl <;> exact ⟨by simp only; omega, by simp only; omega⟩
/-- The codewords in the corners. -/
def corners (m n N : Nat) (r c : Int) (s : St) : Option St :=
  match (if cond1 m n r c then assigns m n N (crn1 m n) s else some s) with
  | none => none
  | some s => match (if cond2 m n r c then assigns m n N (crn2 m n) s else some s) with
    | none => none
    | some s => match (if cond3 m n r c then assigns m n N (crn3 m n) s else some s) with
      | none => none
      | some s => if cond4 m n r c then assigns m n N (crn4 m n) s else some s
theorem corners_inv {m n N : Nat} {r c : Int} {s s' : St} (h : corners m n N r c s = some s') : ∃ s1 s2 s3, (if cond1 m n r c then assigns m n N (crn1 m n) s else some s) = some s1 ∧ (if cond2 m n r c then assigns m n N (crn2 m n) s1 else some s1) = some s2 ∧ (if cond3 m n r c then assigns m n N (crn3 m n) s2 else some s2) = some s3 ∧ (if cond4 m n r c then assigns m n N (crn4 m n) s3 else some s3) = some s' := by
  unfold corners at h
  split at h
  · cases h
  · rename_i s1 h1
    split at h
    · cases h
    · rename_i s2 h2
      split at h
      · cases h
      · rename_i s3 h3; exact ⟨s1, s2, s3, h1, h2, h3, h⟩

/-- (*grid).corners of dmlayout -/
theorem corners56 {G B m n N : Nat} {s s' : St} {r c : Int} (hL : corners m n N r c s = some s') (hr : -10000 ≤ r ∧ r ≤ 10000) (hc : -10000 ≤ c ∧ c ≤ 10000) (σ : AHeap) (hg : GridD G B m n N s σ) :
    ACalls Try.prog 56 [.pointer (some ⟨G, 0, none⟩), .int .i64 r, .int .i64 c] σ fun v σ' => v = .tuple #[] ∧ GridD G B m n N s' σ' ∧ Keep G B σ σ' := by
  obtain ⟨s1, s2, s3, hL1, hL2, hL3, hL4⟩ := corners_inv hL
  refine ACalls.enter Try.func56 rfl (by rw [Try.ntmps56]; simp) ?_
  rw [Try.ntmps56]
  have kg := hg.g
  have sm := hg.sm
  have sn := hg.sn
  repeat (first | refine AGo.seq ?_ | refine AGo.skip ?_ | refine AGo.block ?_ | refine AGo.inBlock ?_ | refine AGo.scope ?_ | refine AGo.inScope ?_ | refine AGo.label ?_ | refine AGo.reg ?_ | refine AReg.nil ?_ | refine AGo.exit rfl ?_ | refine AReg.skipG rfl rfl ?_ | refine AReg.valGE rfl rfl (by first | exact ex_move rfl | exact ex_assign rfl | exact ex_load rfl (aload_cell (by first | assumption | exact blk_set _ _ _ | (simp only [AHeap.bump_blk]; first | assumption | exact blk_set _ _ _)) (tf (by rfl)) (by rfl) (by first | assumption | rfl)) | exact ex_fieldA rfl (tf (by rfl)) (by rfl) (tf (by rfl)) (by rfl) | exact ex_idx rfl rfl (tf (by rfl)) (tf (by rfl)) (by omega) | exact ex_idxA rfl rfl (tf (by rfl)) (tf (by rfl)) (by omega) | exact ex_idxA (j := 0) rfl rfl (tf (by rfl)) (tf (by rfl)) (by omega) | exact ex_idxA (j := 1) rfl rfl (tf (by rfl)) (tf (by rfl)) (by omega) | exact ex_idxI rfl rfl (tf (by rfl)) (tf (by rfl)) (by assumption) (by first | assumption | omega) | exact ex_len rfl (tf (by rfl)) | exact ex_add rfl rfl (by omega) | exact ex_sub rfl rfl (by omega) | exact ex_mul rfl rfl (by omega) | exact ex_bool (ex_lss rfl rfl) (by assumption) | exact ex_bool (ex_leq rfl rfl) (by assumption) | exact ex_bool (ex_gtr rfl rfl) (by assumption) | exact ex_bool (ex_geq rfl rfl) (by assumption) | exact ex_bool (ex_eql rfl rfl) (by assumption) | exact ex_bool (ex_neq rfl rfl) (by assumption) | exact ex_lss rfl rfl | exact ex_leq rfl rfl | exact ex_gtr rfl rfl | exact ex_geq rfl rfl | exact ex_eql rfl rfl | exact ex_neq rfl rfl | exact ex_not rfl | exact ex_pickT rfl rfl | exact ex_pickF rfl rfl | exact ex_extract rfl rfl | exact ex_nilCheck rfl | exact ex_makeFunc rfl rfl | exact ex_rem rfl rfl (by omega) | exact ex_build rfl (ab89 _ _)) ?_ | refine AReg.box rfl rfl rfl (tb (by rfl)) ?_ | refine AReg.alloc rfl (tf (by rfl)) (by rfl) ?_)
  refine AGo.drawW [([0, 1, 2, 3], 8, [4, 5, 6, 7]), ([4, 5, 6, 7], 9, [])] [] mixed (by kernel_rfl) ?_
  (repeat (first | refine DW.skipE rfl rfl rfl ?_ | refine DW.skipL rfl rfl rfl ?_ | refine DW.readE rfl rfl rfl rfl (by first | exact ex_move rfl | exact ex_assign rfl | exact ex_load rfl (aload_cell (by first | assumption | exact blk_set _ _ _ | (simp only [AHeap.bump_blk]; first | assumption | exact blk_set _ _ _)) (tf (by rfl)) (by rfl) (by first | assumption | rfl)) | exact ex_fieldA rfl (tf (by rfl)) (by rfl) (tf (by rfl)) (by rfl) | exact ex_idx rfl rfl (tf (by rfl)) (tf (by rfl)) (by omega) | exact ex_idxA rfl rfl (tf (by rfl)) (tf (by rfl)) (by omega) | exact ex_idxA (j := 0) rfl rfl (tf (by rfl)) (tf (by rfl)) (by omega) | exact ex_idxA (j := 1) rfl rfl (tf (by rfl)) (tf (by rfl)) (by omega) | exact ex_idxI rfl rfl (tf (by rfl)) (tf (by rfl)) (by assumption) (by first | assumption | omega) | exact ex_len rfl (tf (by rfl)) | exact ex_add rfl rfl (by omega) | exact ex_sub rfl rfl (by omega) | exact ex_mul rfl rfl (by omega) | exact ex_bool (ex_lss rfl rfl) (by assumption) | exact ex_bool (ex_leq rfl rfl) (by assumption) | exact ex_bool (ex_gtr rfl rfl) (by assumption) | exact ex_bool (ex_geq rfl rfl) (by assumption) | exact ex_bool (ex_eql rfl rfl) (by assumption) | exact ex_bool (ex_neq rfl rfl) (by assumption) | exact ex_lss rfl rfl | exact ex_leq rfl rfl | exact ex_gtr rfl rfl | exact ex_geq rfl rfl | exact ex_eql rfl rfl | exact ex_neq rfl rfl | exact ex_not rfl | exact ex_pickT rfl rfl | exact ex_pickF rfl rfl | exact ex_extract rfl rfl | exact ex_nilCheck rfl | exact ex_makeFunc rfl rfl | exact ex_rem rfl rfl (by omega) | exact ex_build rfl (ab89 _ _)) ?_ | refine DW.readLE rfl rfl rfl rfl (by first | exact ex_move rfl | exact ex_assign rfl | exact ex_load rfl (aload_cell (by first | assumption | exact blk_set _ _ _ | (simp only [AHeap.bump_blk]; first | assumption | exact blk_set _ _ _)) (tf (by rfl)) (by rfl) (by first | assumption | rfl)) | exact ex_fieldA rfl (tf (by rfl)) (by rfl) (tf (by rfl)) (by rfl) | exact ex_idx rfl rfl (tf (by rfl)) (tf (by rfl)) (by omega) | exact ex_idxA rfl rfl (tf (by rfl)) (tf (by rfl)) (by omega) | exact ex_idxA (j := 0) rfl rfl (tf (by rfl)) (tf (by rfl)) (by omega) | exact ex_idxA (j := 1) rfl rfl (tf (by rfl)) (tf (by rfl)) (by omega) | exact ex_idxI rfl rfl (tf (by rfl)) (tf (by rfl)) (by assumption) (by first | assumption | omega) | exact ex_len rfl (tf (by rfl)) | exact ex_add rfl rfl (by omega) | exact ex_sub rfl rfl (by omega) | exact ex_mul rfl rfl (by omega) | exact ex_bool (ex_lss rfl rfl) (by assumption) | exact ex_bool (ex_leq rfl rfl) (by assumption) | exact ex_bool (ex_gtr rfl rfl) (by assumption) | exact ex_bool (ex_geq rfl rfl) (by assumption) | exact ex_bool (ex_eql rfl rfl) (by assumption) | exact ex_bool (ex_neq rfl rfl) (by assumption) | exact ex_lss rfl rfl | exact ex_leq rfl rfl | exact ex_gtr rfl rfl | exact ex_geq rfl rfl | exact ex_eql rfl rfl | exact ex_neq rfl rfl | exact ex_not rfl | exact ex_pickT rfl rfl | exact ex_pickF rfl rfl | exact ex_extract rfl rfl | exact ex_nilCheck rfl | exact ex_makeFunc rfl rfl | exact ex_rem rfl rfl (by omega) | exact ex_build rfl (ab89 _ _)) ?_ | refine DW.effE rfl rfl rfl (ex_assign rfl) ?_ | refine DW.assignM rfl rfl rfl rfl ?_ | refine DW.assignML rfl rfl rfl rfl ?_ | refine DW.done ?_))
  refine AGo.has (F := [(0, .pointer (some ⟨G, 0, none⟩)), (1, .int .i64 r), (2, .int .i64 c), (6, .int .i64 ((m : Nat) : Int)), (7, .int .i64 ((n : Nat) : Int))]) ⟨rfl, rfl, rfl, rfl, rfl, trivial⟩ ?_
  refine AGo.opq fun σ0 hσ0 => ?_
  have hg0 : GridD G B m n N s σ0 := by rw [hσ0]; exact hg.more (by repeat (first | exact More.refl _ | assumption | refine More.bump' ?_ _ | refine More.set ?_ _ (by (try simp only [AHeap.bump_next, AHeap.set_next]); omega)))
  have hk0 : Keep G B σ σ0 := by rw [hσ0]; exact Keep.more (by repeat (first | exact More.refl _ | assumption | refine More.bump' ?_ _ | refine More.set ?_ _ (by (try simp only [AHeap.bump_next, AHeap.set_next]); omega)))
  clear hσ0 hg kg
  refine AGo.seq ?_
  repeat (refine AGo.seq ?_)
  refine AGo.reg (AReg.join (fun fr' ρ' => Gr σ0 ρ' ∧ Has [(0, .pointer (some ⟨G, 0, none⟩)), (1, .int .i64 r), (2, .int .i64 c), (6, .int .i64 ((m : Nat) : Int)), (7, .int .i64 ((n : Nat) : Int)), (22, .bool (cond1 m n r c))] fr') ?_ fun join => ?_)
  case refine_2 =>
    have hcd : cond1 m n r c = (decide (r = (m : Int)) && decide (c = 0)) := rfl
    cases g0 : decide (r = (m : Int)) with
    | true =>
      cases g1 : decide (c = 0) with
      | true =>
        rw [hcd] at join
        (repeat (first | refine AReg.skipG rfl rfl ?_ | refine AReg.valGE rfl rfl (by first | exact ex_move rfl | exact ex_assign rfl | exact ex_load rfl (aload_cell (by first | assumption | exact blk_set _ _ _ | (simp only [AHeap.bump_blk]; first | assumption | exact blk_set _ _ _)) (tf (by rfl)) (by rfl) (by first | assumption | rfl)) | exact ex_fieldA rfl (tf (by rfl)) (by rfl) (tf (by rfl)) (by rfl) | exact ex_idx rfl rfl (tf (by rfl)) (tf (by rfl)) (by omega) | exact ex_idxA rfl rfl (tf (by rfl)) (tf (by rfl)) (by omega) | exact ex_idxA (j := 0) rfl rfl (tf (by rfl)) (tf (by rfl)) (by omega) | exact ex_idxA (j := 1) rfl rfl (tf (by rfl)) (tf (by rfl)) (by omega) | exact ex_idxI rfl rfl (tf (by rfl)) (tf (by rfl)) (by assumption) (by first | assumption | omega) | exact ex_len rfl (tf (by rfl)) | exact ex_add rfl rfl (by omega) | exact ex_sub rfl rfl (by omega) | exact ex_mul rfl rfl (by omega) | exact ex_bool (ex_lss rfl rfl) (by assumption) | exact ex_bool (ex_leq rfl rfl) (by assumption) | exact ex_bool (ex_gtr rfl rfl) (by assumption) | exact ex_bool (ex_geq rfl rfl) (by assumption) | exact ex_bool (ex_eql rfl rfl) (by assumption) | exact ex_bool (ex_neq rfl rfl) (by assumption) | exact ex_lss rfl rfl | exact ex_leq rfl rfl | exact ex_gtr rfl rfl | exact ex_geq rfl rfl | exact ex_eql rfl rfl | exact ex_neq rfl rfl | exact ex_not rfl | exact ex_pickT rfl rfl | exact ex_pickF rfl rfl | exact ex_extract rfl rfl | exact ex_nilCheck rfl | exact ex_makeFunc rfl rfl | exact ex_rem rfl rfl (by omega) | exact ex_build rfl (ab89 _ _)) ?_ | refine AReg.box rfl rfl rfl (tb (by rfl)) ?_ | refine AReg.alloc rfl (tf (by rfl)) (by rfl) ?_))
        refine AReg.nil (join _ _ ⟨(by repeat (first | exact Gr.refl _ | assumption | refine Gr.b ?_ _)), ?_⟩)
        refine ⟨rfl, rfl, rfl, rfl, rfl, ?_, trivial⟩
        simp only [g0, g1]; rfl
      | false =>
        rw [hcd] at join
        (repeat (first | refine AReg.skipG rfl rfl ?_ | refine AReg.valGE rfl rfl (by first | exact ex_move rfl | exact ex_assign rfl | exact ex_load rfl (aload_cell (by first | assumption | exact blk_set _ _ _ | (simp only [AHeap.bump_blk]; first | assumption | exact blk_set _ _ _)) (tf (by rfl)) (by rfl) (by first | assumption | rfl)) | exact ex_fieldA rfl (tf (by rfl)) (by rfl) (tf (by rfl)) (by rfl) | exact ex_idx rfl rfl (tf (by rfl)) (tf (by rfl)) (by omega) | exact ex_idxA rfl rfl (tf (by rfl)) (tf (by rfl)) (by omega) | exact ex_idxA (j := 0) rfl rfl (tf (by rfl)) (tf (by rfl)) (by omega) | exact ex_idxA (j := 1) rfl rfl (tf (by rfl)) (tf (by rfl)) (by omega) | exact ex_idxI rfl rfl (tf (by rfl)) (tf (by rfl)) (by assumption) (by first | assumption | omega) | exact ex_len rfl (tf (by rfl)) | exact ex_add rfl rfl (by omega) | exact ex_sub rfl rfl (by omega) | exact ex_mul rfl rfl (by omega) | exact ex_bool (ex_lss rfl rfl) (by assumption) | exact ex_bool (ex_leq rfl rfl) (by assumption) | exact ex_bool (ex_gtr rfl rfl) (by assumption) | exact ex_bool (ex_geq rfl rfl) (by assumption) | exact ex_bool (ex_eql rfl rfl) (by assumption) | exact ex_bool (ex_neq rfl rfl) (by assumption) | exact ex_lss rfl rfl | exact ex_leq rfl rfl | exact ex_gtr rfl rfl | exact ex_geq rfl rfl | exact ex_eql rfl rfl | exact ex_neq rfl rfl | exact ex_not rfl | exact ex_pickT rfl rfl | exact ex_pickF rfl rfl | exact ex_extract rfl rfl | exact ex_nilCheck rfl | exact ex_makeFunc rfl rfl | exact ex_rem rfl rfl (by omega) | exact ex_build rfl (ab89 _ _)) ?_ | refine AReg.box rfl rfl rfl (tb (by rfl)) ?_ | refine AReg.alloc rfl (tf (by rfl)) (by rfl) ?_))
        refine AReg.nil (join _ _ ⟨(by repeat (first | exact Gr.refl _ | assumption | refine Gr.b ?_ _)), ?_⟩)
        refine ⟨rfl, rfl, rfl, rfl, rfl, ?_, trivial⟩
        simp only [g0, g1]; first | rfl | (simp; done)
    | false =>
      rw [hcd] at join
      (repeat (first | refine AReg.skipG rfl rfl ?_ | refine AReg.valGE rfl rfl (by first | exact ex_move rfl | exact ex_assign rfl | exact ex_load rfl (aload_cell (by first | assumption | exact blk_set _ _ _ | (simp only [AHeap.bump_blk]; first | assumption | exact blk_set _ _ _)) (tf (by rfl)) (by rfl) (by first | assumption | rfl)) | exact ex_fieldA rfl (tf (by rfl)) (by rfl) (tf (by rfl)) (by rfl) | exact ex_idx rfl rfl (tf (by rfl)) (tf (by rfl)) (by omega) | exact ex_idxA rfl rfl (tf (by rfl)) (tf (by rfl)) (by omega) | exact ex_idxA (j := 0) rfl rfl (tf (by rfl)) (tf (by rfl)) (by omega) | exact ex_idxA (j := 1) rfl rfl (tf (by rfl)) (tf (by rfl)) (by omega) | exact ex_idxI rfl rfl (tf (by rfl)) (tf (by rfl)) (by assumption) (by first | assumption | omega) | exact ex_len rfl (tf (by rfl)) | exact ex_add rfl rfl (by omega) | exact ex_sub rfl rfl (by omega) | exact ex_mul rfl rfl (by omega) | exact ex_bool (ex_lss rfl rfl) (by assumption) | exact ex_bool (ex_leq rfl rfl) (by assumption) | exact ex_bool (ex_gtr rfl rfl) (by assumption) | exact ex_bool (ex_geq rfl rfl) (by assumption) | exact ex_bool (ex_eql rfl rfl) (by assumption) | exact ex_bool (ex_neq rfl rfl) (by assumption) | exact ex_lss rfl rfl | exact ex_leq rfl rfl | exact ex_gtr rfl rfl | exact ex_geq rfl rfl | exact ex_eql rfl rfl | exact ex_neq rfl rfl | exact ex_not rfl | exact ex_pickT rfl rfl | exact ex_pickF rfl rfl | exact ex_extract rfl rfl | exact ex_nilCheck rfl | exact ex_makeFunc rfl rfl | exact ex_rem rfl rfl (by omega) | exact ex_build rfl (ab89 _ _)) ?_ | refine AReg.box rfl rfl rfl (tb (by rfl)) ?_ | refine AReg.alloc rfl (tf (by rfl)) (by rfl) ?_))
      refine AReg.nil (join _ _ ⟨(by repeat (first | exact Gr.refl _ | assumption | refine Gr.b ?_ _)), ?_⟩)
      refine ⟨rfl, rfl, rfl, rfl, rfl, ?_, trivial⟩
      simp only [g0]; first | rfl | (simp; done)
  rintro fr1 ρ1 ⟨hgr1, hH1⟩
  refine AGo.has hH1 ?_
  have hgρ : GridD G B m n N s ρ1 := by obtain ⟨k, rfl⟩ := hgr1; exact hg0.more (by repeat (first | exact More.refl _ | assumption | refine More.bump' ?_ _ | refine More.set ?_ _ (by (try simp only [AHeap.bump_next, AHeap.set_next]); omega)))
  have hkρ : Keep G B σ0 ρ1 := by obtain ⟨k, rfl⟩ := hgr1; exact Keep.more (by repeat (first | exact More.refl _ | assumption | refine More.bump' ?_ _ | refine More.set ?_ _ (by (try simp only [AHeap.bump_next, AHeap.set_next]); omega)))
  clear hgr1 hH1 hg0
  refine AGo.condJ (fun fr' τ' => GridD G B m n N s1 τ' ∧ Keep G B ρ1 τ' ∧ Has [(0, .pointer (some ⟨G, 0, none⟩)), (1, .int .i64 r), (2, .int .i64 c), (6, .int .i64 ((m : Nat) : Int)), (7, .int .i64 ((n : Nat) : Int))] fr') rfl (fun hb next => ?_) (fun hb next => ?_) ?_
  · rw [hb, if_pos rfl] at hL1
    have hlt := hgρ.lt
    have hltB := hgρ.ltB
    refine AGo.reg ?_
    (repeat (first | refine AReg.skipG rfl rfl ?_ | refine AReg.valGE rfl rfl (by first | exact ex_move rfl | exact ex_assign rfl | exact ex_load rfl (aload_cell (by first | assumption | exact blk_set _ _ _ | (simp only [AHeap.bump_blk]; first | assumption | exact blk_set _ _ _)) (tf (by rfl)) (by rfl) (by first | assumption | rfl)) | exact ex_fieldA rfl (tf (by rfl)) (by rfl) (tf (by rfl)) (by rfl) | exact ex_idx rfl rfl (tf (by rfl)) (tf (by rfl)) (by omega) | exact ex_idxA rfl rfl (tf (by rfl)) (tf (by rfl)) (by omega) | exact ex_idxA (j := 0) rfl rfl (tf (by rfl)) (tf (by rfl)) (by omega) | exact ex_idxA (j := 1) rfl rfl (tf (by rfl)) (tf (by rfl)) (by omega) | exact ex_idxI rfl rfl (tf (by rfl)) (tf (by rfl)) (by assumption) (by first | assumption | omega) | exact ex_len rfl (tf (by rfl)) | exact ex_add rfl rfl (by omega) | exact ex_sub rfl rfl (by omega) | exact ex_mul rfl rfl (by omega) | exact ex_bool (ex_lss rfl rfl) (by assumption) | exact ex_bool (ex_leq rfl rfl) (by assumption) | exact ex_bool (ex_gtr rfl rfl) (by assumption) | exact ex_bool (ex_geq rfl rfl) (by assumption) | exact ex_bool (ex_eql rfl rfl) (by assumption) | exact ex_bool (ex_neq rfl rfl) (by assumption) | exact ex_lss rfl rfl | exact ex_leq rfl rfl | exact ex_gtr rfl rfl | exact ex_geq rfl rfl | exact ex_eql rfl rfl | exact ex_neq rfl rfl | exact ex_not rfl | exact ex_pickT rfl rfl | exact ex_pickF rfl rfl | exact ex_extract rfl rfl | exact ex_nilCheck rfl | exact ex_makeFunc rfl rfl | exact ex_rem rfl rfl (by omega) | exact ex_build rfl (ab89 _ _)) ?_ | refine AReg.box rfl rfl rfl (tb (by rfl)) ?_ | refine AReg.alloc rfl (tf (by rfl)) (by rfl) ?_))
    refine AReg.buildSliceO rfl rfl (fun _ _ => as90 _ _ _ _ _ _ _ _ _ _ _ _ _ _ _ _ _ _) fun C τ hC1 hC2 hC3 hC4 => ?_
    simp only [AHeap.bump_next] at hC1
    have hC4 : More ρ1 τ := More.trans (by repeat (first | exact More.refl _ | assumption | refine More.bump' ?_ _ | refine More.set ?_ _ (by (try simp only [AHeap.bump_next, AHeap.set_next]); omega))) hC4
    refine AReg.go rfl rfl (by kernel_rfl) ((corner62 (L := crn1 m n) (cap := 8) hL1 (crn1_bnd sm sn) (by show 8 ≤ 1000; omega) _ (hgρ.more hC4) hC3 hC2 (by omega) (by omega)).mono ?_)
    rintro _ υ ⟨rfl, hgυ, hkυ⟩
    exact AReg.nil (next _ _ ⟨hgυ, (Keep.more hC4).trans hkυ, rfl, rfl, rfl, rfl, rfl, trivial⟩)
  · rw [hb, if_neg (by simp)] at hL1
    cases hL1
    exact AGo.skip (next _ _ ⟨hgρ, Keep.refl _ _ _, rfl, rfl, rfl, rfl, rfl, trivial⟩)
  rintro fr1b σ1 ⟨hg1, hk1', hH1b⟩
  refine AGo.has hH1b ?_
  have hk1 : Keep G B σ σ1 := hk0.trans (hkρ.trans hk1')
  clear hk0 hkρ hk1' hH1b hgρ
  refine AGo.seq ?_
  repeat (refine AGo.seq ?_)
  refine AGo.reg (AReg.join (fun fr' ρ' => Gr σ1 ρ' ∧ Has [(0, .pointer (some ⟨G, 0, none⟩)), (1, .int .i64 r), (2, .int .i64 c), (6, .int .i64 ((m : Nat) : Int)), (7, .int .i64 ((n : Nat) : Int)), (62, .bool (cond2 m n r c))] fr') ?_ fun join => ?_)
  case refine_2 =>
    have hcd : cond2 m n r c = ((decide (r = (m : Int) - 2) && decide (c = 0)) && decide ((n : Int).tmod 4 ≠ 0)) := rfl
    cases g0 : decide (r = (m : Int) - 2) with
    | true =>
      cases g1 : decide (c = 0) with
      | true =>
        cases g2 : decide ((n : Int).tmod 4 ≠ 0) with
        | true =>
          rw [hcd] at join
          (repeat (first | refine AReg.skipG rfl rfl ?_ | refine AReg.valGE rfl rfl (by first | exact ex_move rfl | exact ex_assign rfl | exact ex_load rfl (aload_cell (by first | assumption | exact blk_set _ _ _ | (simp only [AHeap.bump_blk]; first | assumption | exact blk_set _ _ _)) (tf (by rfl)) (by rfl) (by first | assumption | rfl)) | exact ex_fieldA rfl (tf (by rfl)) (by rfl) (tf (by rfl)) (by rfl) | exact ex_idx rfl rfl (tf (by rfl)) (tf (by rfl)) (by omega) | exact ex_idxA rfl rfl (tf (by rfl)) (tf (by rfl)) (by omega) | exact ex_idxA (j := 0) rfl rfl (tf (by rfl)) (tf (by rfl)) (by omega) | exact ex_idxA (j := 1) rfl rfl (tf (by rfl)) (tf (by rfl)) (by omega) | exact ex_idxI rfl rfl (tf (by rfl)) (tf (by rfl)) (by assumption) (by first | assumption | omega) | exact ex_len rfl (tf (by rfl)) | exact ex_add rfl rfl (by omega) | exact ex_sub rfl rfl (by omega) | exact ex_mul rfl rfl (by omega) | exact ex_bool (ex_lss rfl rfl) (by assumption) | exact ex_bool (ex_leq rfl rfl) (by assumption) | exact ex_bool (ex_gtr rfl rfl) (by assumption) | exact ex_bool (ex_geq rfl rfl) (by assumption) | exact ex_bool (ex_eql rfl rfl) (by assumption) | exact ex_bool (ex_neq rfl rfl) (by assumption) | exact ex_lss rfl rfl | exact ex_leq rfl rfl | exact ex_gtr rfl rfl | exact ex_geq rfl rfl | exact ex_eql rfl rfl | exact ex_neq rfl rfl | exact ex_not rfl | exact ex_pickT rfl rfl | exact ex_pickF rfl rfl | exact ex_extract rfl rfl | exact ex_nilCheck rfl | exact ex_makeFunc rfl rfl | exact ex_rem rfl rfl (by omega) | exact ex_build rfl (ab89 _ _)) ?_ | refine AReg.box rfl rfl rfl (tb (by rfl)) ?_ | refine AReg.alloc rfl (tf (by rfl)) (by rfl) ?_))
          refine AReg.nil (join _ _ ⟨(by repeat (first | exact Gr.refl _ | assumption | refine Gr.b ?_ _)), ?_⟩)
          refine ⟨rfl, rfl, rfl, rfl, rfl, ?_, trivial⟩
          simp only [g0, g1, g2]; rfl
        | false =>
          rw [hcd] at join
          (repeat (first | refine AReg.skipG rfl rfl ?_ | refine AReg.valGE rfl rfl (by first | exact ex_move rfl | exact ex_assign rfl | exact ex_load rfl (aload_cell (by first | assumption | exact blk_set _ _ _ | (simp only [AHeap.bump_blk]; first | assumption | exact blk_set _ _ _)) (tf (by rfl)) (by rfl) (by first | assumption | rfl)) | exact ex_fieldA rfl (tf (by rfl)) (by rfl) (tf (by rfl)) (by rfl) | exact ex_idx rfl rfl (tf (by rfl)) (tf (by rfl)) (by omega) | exact ex_idxA rfl rfl (tf (by rfl)) (tf (by rfl)) (by omega) | exact ex_idxA (j := 0) rfl rfl (tf (by rfl)) (tf (by rfl)) (by omega) | exact ex_idxA (j := 1) rfl rfl (tf (by rfl)) (tf (by rfl)) (by omega) | exact ex_idxI rfl rfl (tf (by rfl)) (tf (by rfl)) (by assumption) (by first | assumption | omega) | exact ex_len rfl (tf (by rfl)) | exact ex_add rfl rfl (by omega) | exact ex_sub rfl rfl (by omega) | exact ex_mul rfl rfl (by omega) | exact ex_bool (ex_lss rfl rfl) (by assumption) | exact ex_bool (ex_leq rfl rfl) (by assumption) | exact ex_bool (ex_gtr rfl rfl) (by assumption) | exact ex_bool (ex_geq rfl rfl) (by assumption) | exact ex_bool (ex_eql rfl rfl) (by assumption) | exact ex_bool (ex_neq rfl rfl) (by assumption) | exact ex_lss rfl rfl | exact ex_leq rfl rfl | exact ex_gtr rfl rfl | exact ex_geq rfl rfl | exact ex_eql rfl rfl | exact ex_neq rfl rfl | exact ex_not rfl | exact ex_pickT rfl rfl | exact ex_pickF rfl rfl | exact ex_extract rfl rfl | exact ex_nilCheck rfl | exact ex_makeFunc rfl rfl | exact ex_rem rfl rfl (by omega) | exact ex_build rfl (ab89 _ _)) ?_ | refine AReg.box rfl rfl rfl (tb (by rfl)) ?_ | refine AReg.alloc rfl (tf (by rfl)) (by rfl) ?_))
          refine AReg.nil (join _ _ ⟨(by repeat (first | exact Gr.refl _ | assumption | refine Gr.b ?_ _)), ?_⟩)
          refine ⟨rfl, rfl, rfl, rfl, rfl, ?_, trivial⟩
          simp only [g0, g1, g2]; first | rfl | (simp; done)
      | false =>
        rw [hcd] at join
        (repeat (first | refine AReg.skipG rfl rfl ?_ | refine AReg.valGE rfl rfl (by first | exact ex_move rfl | exact ex_assign rfl | exact ex_load rfl (aload_cell (by first | assumption | exact blk_set _ _ _ | (simp only [AHeap.bump_blk]; first | assumption | exact blk_set _ _ _)) (tf (by rfl)) (by rfl) (by first | assumption | rfl)) | exact ex_fieldA rfl (tf (by rfl)) (by rfl) (tf (by rfl)) (by rfl) | exact ex_idx rfl rfl (tf (by rfl)) (tf (by rfl)) (by omega) | exact ex_idxA rfl rfl (tf (by rfl)) (tf (by rfl)) (by omega) | exact ex_idxA (j := 0) rfl rfl (tf (by rfl)) (tf (by rfl)) (by omega) | exact ex_idxA (j := 1) rfl rfl (tf (by rfl)) (tf (by rfl)) (by omega) | exact ex_idxI rfl rfl (tf (by rfl)) (tf (by rfl)) (by assumption) (by first | assumption | omega) | exact ex_len rfl (tf (by rfl)) | exact ex_add rfl rfl (by omega) | exact ex_sub rfl rfl (by omega) | exact ex_mul rfl rfl (by omega) | exact ex_bool (ex_lss rfl rfl) (by assumption) | exact ex_bool (ex_leq rfl rfl) (by assumption) | exact ex_bool (ex_gtr rfl rfl) (by assumption) | exact ex_bool (ex_geq rfl rfl) (by assumption) | exact ex_bool (ex_eql rfl rfl) (by assumption) | exact ex_bool (ex_neq rfl rfl) (by assumption) | exact ex_lss rfl rfl | exact ex_leq rfl rfl | exact ex_gtr rfl rfl | exact ex_geq rfl rfl | exact ex_eql rfl rfl | exact ex_neq rfl rfl | exact ex_not rfl | exact ex_pickT rfl rfl | exact ex_pickF rfl rfl | exact ex_extract rfl rfl | exact ex_nilCheck rfl | exact ex_makeFunc rfl rfl | exact ex_rem rfl rfl (by omega) | exact ex_build rfl (ab89 _ _)) ?_ | refine AReg.box rfl rfl rfl (tb (by rfl)) ?_ | refine AReg.alloc rfl (tf (by rfl)) (by rfl) ?_))
        refine AReg.nil (join _ _ ⟨(by repeat (first | exact Gr.refl _ | assumption | refine Gr.b ?_ _)), ?_⟩)
        refine ⟨rfl, rfl, rfl, rfl, rfl, ?_, trivial⟩
        simp only [g0, g1]; first | rfl | (simp; done)
    | false =>
      rw [hcd] at join
      (repeat (first | refine AReg.skipG rfl rfl ?_ | refine AReg.valGE rfl rfl (by first | exact ex_move rfl | exact ex_assign rfl | exact ex_load rfl (aload_cell (by first | assumption | exact blk_set _ _ _ | (simp only [AHeap.bump_blk]; first | assumption | exact blk_set _ _ _)) (tf (by rfl)) (by rfl) (by first | assumption | rfl)) | exact ex_fieldA rfl (tf (by rfl)) (by rfl) (tf (by rfl)) (by rfl) | exact ex_idx rfl rfl (tf (by rfl)) (tf (by rfl)) (by omega) | exact ex_idxA rfl rfl (tf (by rfl)) (tf (by rfl)) (by omega) | exact ex_idxA (j := 0) rfl rfl (tf (by rfl)) (tf (by rfl)) (by omega) | exact ex_idxA (j := 1) rfl rfl (tf (by rfl)) (tf (by rfl)) (by omega) | exact ex_idxI rfl rfl (tf (by rfl)) (tf (by rfl)) (by assumption) (by first | assumption | omega) | exact ex_len rfl (tf (by rfl)) | exact ex_add rfl rfl (by omega) | exact ex_sub rfl rfl (by omega) | exact ex_mul rfl rfl (by omega) | exact ex_bool (ex_lss rfl rfl) (by assumption) | exact ex_bool (ex_leq rfl rfl) (by assumption) | exact ex_bool (ex_gtr rfl rfl) (by assumption) | exact ex_bool (ex_geq rfl rfl) (by assumption) | exact ex_bool (ex_eql rfl rfl) (by assumption) | exact ex_bool (ex_neq rfl rfl) (by assumption) | exact ex_lss rfl rfl | exact ex_leq rfl rfl | exact ex_gtr rfl rfl | exact ex_geq rfl rfl | exact ex_eql rfl rfl | exact ex_neq rfl rfl | exact ex_not rfl | exact ex_pickT rfl rfl | exact ex_pickF rfl rfl | exact ex_extract rfl rfl | exact ex_nilCheck rfl | exact ex_makeFunc rfl rfl | exact ex_rem rfl rfl (by omega) | exact ex_build rfl (ab89 _ _)) ?_ | refine AReg.box rfl rfl rfl (tb (by rfl)) ?_ | refine AReg.alloc rfl (tf (by rfl)) (by rfl) ?_))
      refine AReg.nil (join _ _ ⟨(by repeat (first | exact Gr.refl _ | assumption | refine Gr.b ?_ _)), ?_⟩)
      refine ⟨rfl, rfl, rfl, rfl, rfl, ?_, trivial⟩
      simp only [g0]; first | rfl | (simp; done)
  rintro fr2 ρ2 ⟨hgr2, hH2⟩
  refine AGo.has hH2 ?_
  have hgρ : GridD G B m n N s1 ρ2 := by obtain ⟨k, rfl⟩ := hgr2; exact hg1.more (by repeat (first | exact More.refl _ | assumption | refine More.bump' ?_ _ | refine More.set ?_ _ (by (try simp only [AHeap.bump_next, AHeap.set_next]); omega)))
  have hkρ : Keep G B σ1 ρ2 := by obtain ⟨k, rfl⟩ := hgr2; exact Keep.more (by repeat (first | exact More.refl _ | assumption | refine More.bump' ?_ _ | refine More.set ?_ _ (by (try simp only [AHeap.bump_next, AHeap.set_next]); omega)))
  clear hgr2 hH2 hg1
  refine AGo.condJ (fun fr' τ' => GridD G B m n N s2 τ' ∧ Keep G B ρ2 τ' ∧ Has [(0, .pointer (some ⟨G, 0, none⟩)), (1, .int .i64 r), (2, .int .i64 c), (6, .int .i64 ((m : Nat) : Int)), (7, .int .i64 ((n : Nat) : Int))] fr') rfl (fun hb next => ?_) (fun hb next => ?_) ?_
  · rw [hb, if_pos rfl] at hL2
    have hlt := hgρ.lt
    have hltB := hgρ.ltB
    refine AGo.reg ?_
    (repeat (first | refine AReg.skipG rfl rfl ?_ | refine AReg.valGE rfl rfl (by first | exact ex_move rfl | exact ex_assign rfl | exact ex_load rfl (aload_cell (by first | assumption | exact blk_set _ _ _ | (simp only [AHeap.bump_blk]; first | assumption | exact blk_set _ _ _)) (tf (by rfl)) (by rfl) (by first | assumption | rfl)) | exact ex_fieldA rfl (tf (by rfl)) (by rfl) (tf (by rfl)) (by rfl) | exact ex_idx rfl rfl (tf (by rfl)) (tf (by rfl)) (by omega) | exact ex_idxA rfl rfl (tf (by rfl)) (tf (by rfl)) (by omega) | exact ex_idxA (j := 0) rfl rfl (tf (by rfl)) (tf (by rfl)) (by omega) | exact ex_idxA (j := 1) rfl rfl (tf (by rfl)) (tf (by rfl)) (by omega) | exact ex_idxI rfl rfl (tf (by rfl)) (tf (by rfl)) (by assumption) (by first | assumption | omega) | exact ex_len rfl (tf (by rfl)) | exact ex_add rfl rfl (by omega) | exact ex_sub rfl rfl (by omega) | exact ex_mul rfl rfl (by omega) | exact ex_bool (ex_lss rfl rfl) (by assumption) | exact ex_bool (ex_leq rfl rfl) (by assumption) | exact ex_bool (ex_gtr rfl rfl) (by assumption) | exact ex_bool (ex_geq rfl rfl) (by assumption) | exact ex_bool (ex_eql rfl rfl) (by assumption) | exact ex_bool (ex_neq rfl rfl) (by assumption) | exact ex_lss rfl rfl | exact ex_leq rfl rfl | exact ex_gtr rfl rfl | exact ex_geq rfl rfl | exact ex_eql rfl rfl | exact ex_neq rfl rfl | exact ex_not rfl | exact ex_pickT rfl rfl | exact ex_pickF rfl rfl | exact ex_extract rfl rfl | exact ex_nilCheck rfl | exact ex_makeFunc rfl rfl | exact ex_rem rfl rfl (by omega) | exact ex_build rfl (ab89 _ _)) ?_ | refine AReg.box rfl rfl rfl (tb (by rfl)) ?_ | refine AReg.alloc rfl (tf (by rfl)) (by rfl) ?_))
    refine AReg.buildSliceO rfl rfl (fun _ _ => as90 _ _ _ _ _ _ _ _ _ _ _ _ _ _ _ _ _ _) fun C τ hC1 hC2 hC3 hC4 => ?_
    simp only [AHeap.bump_next] at hC1
    have hC4 : More ρ2 τ := More.trans (by repeat (first | exact More.refl _ | assumption | refine More.bump' ?_ _ | refine More.set ?_ _ (by (try simp only [AHeap.bump_next, AHeap.set_next]); omega))) hC4
    refine AReg.go rfl rfl (by kernel_rfl) ((corner62 (L := crn2 m n) (cap := 8) hL2 (crn2_bnd sm sn) (by show 8 ≤ 1000; omega) _ (hgρ.more hC4) hC3 hC2 (by omega) (by omega)).mono ?_)
    rintro _ υ ⟨rfl, hgυ, hkυ⟩
    exact AReg.nil (next _ _ ⟨hgυ, (Keep.more hC4).trans hkυ, rfl, rfl, rfl, rfl, rfl, trivial⟩)
  · rw [hb, if_neg (by simp)] at hL2
    cases hL2
    exact AGo.skip (next _ _ ⟨hgρ, Keep.refl _ _ _, rfl, rfl, rfl, rfl, rfl, trivial⟩)
  rintro fr2b σ2 ⟨hg2, hk2', hH2b⟩
  refine AGo.has hH2b ?_
  have hk2 : Keep G B σ σ2 := hk1.trans (hkρ.trans hk2')
  clear hk1 hkρ hk2' hH2b hgρ
  refine AGo.seq ?_
  repeat (refine AGo.seq ?_)
  refine AGo.reg (AReg.join (fun fr' ρ' => Gr σ2 ρ' ∧ Has [(0, .pointer (some ⟨G, 0, none⟩)), (1, .int .i64 r), (2, .int .i64 c), (6, .int .i64 ((m : Nat) : Int)), (7, .int .i64 ((n : Nat) : Int)), (102, .bool (cond3 m n r c))] fr') ?_ fun join => ?_)
  case refine_2 =>
    have hcd : cond3 m n r c = ((decide (r = (m : Int) - 2) && decide (c = 0)) && decide ((n : Int).tmod 8 = 4)) := rfl
    cases g0 : decide (r = (m : Int) - 2) with
    | true =>
      cases g1 : decide (c = 0) with
      | true =>
        cases g2 : decide ((n : Int).tmod 8 = 4) with
        | true =>
          rw [hcd] at join
          (repeat (first | refine AReg.skipG rfl rfl ?_ | refine AReg.valGE rfl rfl (by first | exact ex_move rfl | exact ex_assign rfl | exact ex_load rfl (aload_cell (by first | assumption | exact blk_set _ _ _ | (simp only [AHeap.bump_blk]; first | assumption | exact blk_set _ _ _)) (tf (by rfl)) (by rfl) (by first | assumption | rfl)) | exact ex_fieldA rfl (tf (by rfl)) (by rfl) (tf (by rfl)) (by rfl) | exact ex_idx rfl rfl (tf (by rfl)) (tf (by rfl)) (by omega) | exact ex_idxA rfl rfl (tf (by rfl)) (tf (by rfl)) (by omega) | exact ex_idxA (j := 0) rfl rfl (tf (by rfl)) (tf (by rfl)) (by omega) | exact ex_idxA (j := 1) rfl rfl (tf (by rfl)) (tf (by rfl)) (by omega) | exact ex_idxI rfl rfl (tf (by rfl)) (tf (by rfl)) (by assumption) (by first | assumption | omega) | exact ex_len rfl (tf (by rfl)) | exact ex_add rfl rfl (by omega) | exact ex_sub rfl rfl (by omega) | exact ex_mul rfl rfl (by omega) | exact ex_bool (ex_lss rfl rfl) (by assumption) | exact ex_bool (ex_leq rfl rfl) (by assumption) | exact ex_bool (ex_gtr rfl rfl) (by assumption) | exact ex_bool (ex_geq rfl rfl) (by assumption) | exact ex_bool (ex_eql rfl rfl) (by assumption) | exact ex_bool (ex_neq rfl rfl) (by assumption) | exact ex_lss rfl rfl | exact ex_leq rfl rfl | exact ex_gtr rfl rfl | exact ex_geq rfl rfl | exact ex_eql rfl rfl | exact ex_neq rfl rfl | exact ex_not rfl | exact ex_pickT rfl rfl | exact ex_pickF rfl rfl | exact ex_extract rfl rfl | exact ex_nilCheck rfl | exact ex_makeFunc rfl rfl | exact ex_rem rfl rfl (by omega) | exact ex_build rfl (ab89 _ _)) ?_ | refine AReg.box rfl rfl rfl (tb (by rfl)) ?_ | refine AReg.alloc rfl (tf (by rfl)) (by rfl) ?_))
          refine AReg.nil (join _ _ ⟨(by repeat (first | exact Gr.refl _ | assumption | refine Gr.b ?_ _)), ?_⟩)
          refine ⟨rfl, rfl, rfl, rfl, rfl, ?_, trivial⟩
          simp only [g0, g1, g2]; rfl
        | false =>
          rw [hcd] at join
          (repeat (first | refine AReg.skipG rfl rfl ?_ | refine AReg.valGE rfl rfl (by first | exact ex_move rfl | exact ex_assign rfl | exact ex_load rfl (aload_cell (by first | assumption | exact blk_set _ _ _ | (simp only [AHeap.bump_blk]; first | assumption | exact blk_set _ _ _)) (tf (by rfl)) (by rfl) (by first | assumption | rfl)) | exact ex_fieldA rfl (tf (by rfl)) (by rfl) (tf (by rfl)) (by rfl) | exact ex_idx rfl rfl (tf (by rfl)) (tf (by rfl)) (by omega) | exact ex_idxA rfl rfl (tf (by rfl)) (tf (by rfl)) (by omega) | exact ex_idxA (j := 0) rfl rfl (tf (by rfl)) (tf (by rfl)) (by omega) | exact ex_idxA (j := 1) rfl rfl (tf (by rfl)) (tf (by rfl)) (by omega) | exact ex_idxI rfl rfl (tf (by rfl)) (tf (by rfl)) (by assumption) (by first | assumption | omega) | exact ex_len rfl (tf (by rfl)) | exact ex_add rfl rfl (by omega) | exact ex_sub rfl rfl (by omega) | exact ex_mul rfl rfl (by omega) | exact ex_bool (ex_lss rfl rfl) (by assumption) | exact ex_bool (ex_leq rfl rfl) (by assumption) | exact ex_bool (ex_gtr rfl rfl) (by assumption) | exact ex_bool (ex_geq rfl rfl) (by assumption) | exact ex_bool (ex_eql rfl rfl) (by assumption) | exact ex_bool (ex_neq rfl rfl) (by assumption) | exact ex_lss rfl rfl | exact ex_leq rfl rfl | exact ex_gtr rfl rfl | exact ex_geq rfl rfl | exact ex_eql rfl rfl | exact ex_neq rfl rfl | exact ex_not rfl | exact ex_pickT rfl rfl | exact ex_pickF rfl rfl | exact ex_extract rfl rfl | exact ex_nilCheck rfl | exact ex_makeFunc rfl rfl | exact ex_rem rfl rfl (by omega) | exact ex_build rfl (ab89 _ _)) ?_ | refine AReg.box rfl rfl rfl (tb (by rfl)) ?_ | refine AReg.alloc rfl (tf (by rfl)) (by rfl) ?_))
          refine AReg.nil (join _ _ ⟨(by repeat (first | exact Gr.refl _ | assumption | refine Gr.b ?_ _)), ?_⟩)
          refine ⟨rfl, rfl, rfl, rfl, rfl, ?_, trivial⟩
          simp only [g0, g1, g2]; first | rfl | (simp; done)
      | false =>
        rw [hcd] at join
        (repeat (first | refine AReg.skipG rfl rfl ?_ | refine AReg.valGE rfl rfl (by first | exact ex_move rfl | exact ex_assign rfl | exact ex_load rfl (aload_cell (by first | assumption | exact blk_set _ _ _ | (simp only [AHeap.bump_blk]; first | assumption | exact blk_set _ _ _)) (tf (by rfl)) (by rfl) (by first | assumption | rfl)) | exact ex_fieldA rfl (tf (by rfl)) (by rfl) (tf (by rfl)) (by rfl) | exact ex_idx rfl rfl (tf (by rfl)) (tf (by rfl)) (by omega) | exact ex_idxA rfl rfl (tf (by rfl)) (tf (by rfl)) (by omega) | exact ex_idxA (j := 0) rfl rfl (tf (by rfl)) (tf (by rfl)) (by omega) | exact ex_idxA (j := 1) rfl rfl (tf (by rfl)) (tf (by rfl)) (by omega) | exact ex_idxI rfl rfl (tf (by rfl)) (tf (by rfl)) (by assumption) (by first | assumption | omega) | exact ex_len rfl (tf (by rfl)) | exact ex_add rfl rfl (by omega) | exact ex_sub rfl rfl (by omega) | exact ex_mul rfl rfl (by omega) | exact ex_bool (ex_lss rfl rfl) (by assumption) | exact ex_bool (ex_leq rfl rfl) (by assumption) | exact ex_bool (ex_gtr rfl rfl) (by assumption) | exact ex_bool (ex_geq rfl rfl) (by assumption) | exact ex_bool (ex_eql rfl rfl) (by assumption) | exact ex_bool (ex_neq rfl rfl) (by assumption) | exact ex_lss rfl rfl | exact ex_leq rfl rfl | exact ex_gtr rfl rfl | exact ex_geq rfl rfl | exact ex_eql rfl rfl | exact ex_neq rfl rfl | exact ex_not rfl | exact ex_pickT rfl rfl | exact ex_pickF rfl rfl | exact ex_extract rfl rfl | exact ex_nilCheck rfl | exact ex_makeFunc rfl rfl | exact ex_rem rfl rfl (by omega) | exact ex_build rfl (ab89 _ _)) ?_ | refine AReg.box rfl rfl rfl (tb (by rfl)) ?_ | refine AReg.alloc rfl (tf (by rfl)) (by rfl) ?_))
        refine AReg.nil (join _ _ ⟨(by repeat (first | exact Gr.refl _ | assumption | refine Gr.b ?_ _)), ?_⟩)
        refine ⟨rfl, rfl, rfl, rfl, rfl, ?_, trivial⟩
        simp only [g0, g1]; first | rfl | (simp; done)
    | false =>
      rw [hcd] at join
      (repeat (first | refine AReg.skipG rfl rfl ?_ | refine AReg.valGE rfl rfl (by first | exact ex_move rfl | exact ex_assign rfl | exact ex_load rfl (aload_cell (by first | assumption | exact blk_set _ _ _ | (simp only [AHeap.bump_blk]; first | assumption | exact blk_set _ _ _)) (tf (by rfl)) (by rfl) (by first | assumption | rfl)) | exact ex_fieldA rfl (tf (by rfl)) (by rfl) (tf (by rfl)) (by rfl) | exact ex_idx rfl rfl (tf (by rfl)) (tf (by rfl)) (by omega) | exact ex_idxA rfl rfl (tf (by rfl)) (tf (by rfl)) (by omega) | exact ex_idxA (j := 0) rfl rfl (tf (by rfl)) (tf (by rfl)) (by omega) | exact ex_idxA (j := 1) rfl rfl (tf (by rfl)) (tf (by rfl)) (by omega) | exact ex_idxI rfl rfl (tf (by rfl)) (tf (by rfl)) (by assumption) (by first | assumption | omega) | exact ex_len rfl (tf (by rfl)) | exact ex_add rfl rfl (by omega) | exact ex_sub rfl rfl (by omega) | exact ex_mul rfl rfl (by omega) | exact ex_bool (ex_lss rfl rfl) (by assumption) | exact ex_bool (ex_leq rfl rfl) (by assumption) | exact ex_bool (ex_gtr rfl rfl) (by assumption) | exact ex_bool (ex_geq rfl rfl) (by assumption) | exact ex_bool (ex_eql rfl rfl) (by assumption) | exact ex_bool (ex_neq rfl rfl) (by assumption) | exact ex_lss rfl rfl | exact ex_leq rfl rfl | exact ex_gtr rfl rfl | exact ex_geq rfl rfl | exact ex_eql rfl rfl | exact ex_neq rfl rfl | exact ex_not rfl | exact ex_pickT rfl rfl | exact ex_pickF rfl rfl | exact ex_extract rfl rfl | exact ex_nilCheck rfl | exact ex_makeFunc rfl rfl | exact ex_rem rfl rfl (by omega) | exact ex_build rfl (ab89 _ _)) ?_ | refine AReg.box rfl rfl rfl (tb (by rfl)) ?_ | refine AReg.alloc rfl (tf (by rfl)) (by rfl) ?_))
      refine AReg.nil (join _ _ ⟨(by repeat (first | exact Gr.refl _ | assumption | refine Gr.b ?_ _)), ?_⟩)
      refine ⟨rfl, rfl, rfl, rfl, rfl, ?_, trivial⟩
      simp only [g0]; first | rfl | (simp; done)
  rintro fr3 ρ3 ⟨hgr3, hH3⟩
  refine AGo.has hH3 ?_
  have hgρ : GridD G B m n N s2 ρ3 := by obtain ⟨k, rfl⟩ := hgr3; exact hg2.more (by repeat (first | exact More.refl _ | assumption | refine More.bump' ?_ _ | refine More.set ?_ _ (by (try simp only [AHeap.bump_next, AHeap.set_next]); omega)))
  have hkρ : Keep G B σ2 ρ3 := by obtain ⟨k, rfl⟩ := hgr3; exact Keep.more (by repeat (first | exact More.refl _ | assumption | refine More.bump' ?_ _ | refine More.set ?_ _ (by (try simp only [AHeap.bump_next, AHeap.set_next]); omega)))
  clear hgr3 hH3 hg2
  refine AGo.condJ (fun fr' τ' => GridD G B m n N s3 τ' ∧ Keep G B ρ3 τ' ∧ Has [(0, .pointer (some ⟨G, 0, none⟩)), (1, .int .i64 r), (2, .int .i64 c), (6, .int .i64 ((m : Nat) : Int)), (7, .int .i64 ((n : Nat) : Int))] fr') rfl (fun hb next => ?_) (fun hb next => ?_) ?_
  · rw [hb, if_pos rfl] at hL3
    have hlt := hgρ.lt
    have hltB := hgρ.ltB
    refine AGo.reg ?_
    (repeat (first | refine AReg.skipG rfl rfl ?_ | refine AReg.valGE rfl rfl (by first | exact ex_move rfl | exact ex_assign rfl | exact ex_load rfl (aload_cell (by first | assumption | exact blk_set _ _ _ | (simp only [AHeap.bump_blk]; first | assumption | exact blk_set _ _ _)) (tf (by rfl)) (by rfl) (by first | assumption | rfl)) | exact ex_fieldA rfl (tf (by rfl)) (by rfl) (tf (by rfl)) (by rfl) | exact ex_idx rfl rfl (tf (by rfl)) (tf (by rfl)) (by omega) | exact ex_idxA rfl rfl (tf (by rfl)) (tf (by rfl)) (by omega) | exact ex_idxA (j := 0) rfl rfl (tf (by rfl)) (tf (by rfl)) (by omega) | exact ex_idxA (j := 1) rfl rfl (tf (by rfl)) (tf (by rfl)) (by omega) | exact ex_idxI rfl rfl (tf (by rfl)) (tf (by rfl)) (by assumption) (by first | assumption | omega) | exact ex_len rfl (tf (by rfl)) | exact ex_add rfl rfl (by omega) | exact ex_sub rfl rfl (by omega) | exact ex_mul rfl rfl (by omega) | exact ex_bool (ex_lss rfl rfl) (by assumption) | exact ex_bool (ex_leq rfl rfl) (by assumption) | exact ex_bool (ex_gtr rfl rfl) (by assumption) | exact ex_bool (ex_geq rfl rfl) (by assumption) | exact ex_bool (ex_eql rfl rfl) (by assumption) | exact ex_bool (ex_neq rfl rfl) (by assumption) | exact ex_lss rfl rfl | exact ex_leq rfl rfl | exact ex_gtr rfl rfl | exact ex_geq rfl rfl | exact ex_eql rfl rfl | exact ex_neq rfl rfl | exact ex_not rfl | exact ex_pickT rfl rfl | exact ex_pickF rfl rfl | exact ex_extract rfl rfl | exact ex_nilCheck rfl | exact ex_makeFunc rfl rfl | exact ex_rem rfl rfl (by omega) | exact ex_build rfl (ab89 _ _)) ?_ | refine AReg.box rfl rfl rfl (tb (by rfl)) ?_ | refine AReg.alloc rfl (tf (by rfl)) (by rfl) ?_))
    refine AReg.buildSliceO rfl rfl (fun _ _ => as90 _ _ _ _ _ _ _ _ _ _ _ _ _ _ _ _ _ _) fun C τ hC1 hC2 hC3 hC4 => ?_
    simp only [AHeap.bump_next] at hC1
    have hC4 : More ρ3 τ := More.trans (by repeat (first | exact More.refl _ | assumption | refine More.bump' ?_ _ | refine More.set ?_ _ (by (try simp only [AHeap.bump_next, AHeap.set_next]); omega))) hC4
    refine AReg.go rfl rfl (by kernel_rfl) ((corner62 (L := crn3 m n) (cap := 8) hL3 (crn3_bnd sm sn) (by show 8 ≤ 1000; omega) _ (hgρ.more hC4) hC3 hC2 (by omega) (by omega)).mono ?_)
    rintro _ υ ⟨rfl, hgυ, hkυ⟩
    exact AReg.nil (next _ _ ⟨hgυ, (Keep.more hC4).trans hkυ, rfl, rfl, rfl, rfl, rfl, trivial⟩)
  · rw [hb, if_neg (by simp)] at hL3
    cases hL3
    exact AGo.skip (next _ _ ⟨hgρ, Keep.refl _ _ _, rfl, rfl, rfl, rfl, rfl, trivial⟩)
  rintro fr3b σ3 ⟨hg3, hk3', hH3b⟩
  refine AGo.has hH3b ?_
  have hk3 : Keep G B σ σ3 := hk2.trans (hkρ.trans hk3')
  clear hk2 hkρ hk3' hH3b hgρ
  repeat (refine AGo.seq ?_)
  refine AGo.reg (AReg.join (fun fr' ρ' => Gr σ3 ρ' ∧ Has [(0, .pointer (some ⟨G, 0, none⟩)), (1, .int .i64 r), (2, .int .i64 c), (6, .int .i64 ((m : Nat) : Int)), (7, .int .i64 ((n : Nat) : Int)), (142, .bool (cond4 m n r c))] fr') ?_ fun join => ?_)
  case refine_2 =>
    have hcd : cond4 m n r c = ((decide (r = (m : Int) + 4) && decide (c = 2)) && decide ((n : Int).tmod 8 = 0)) := rfl
    cases g0 : decide (r = (m : Int) + 4) with
    | true =>
      cases g1 : decide (c = 2) with
      | true =>
        cases g2 : decide ((n : Int).tmod 8 = 0) with
        | true =>
          rw [hcd] at join
          (repeat (first | refine AReg.skipG rfl rfl ?_ | refine AReg.valGE rfl rfl (by first | exact ex_move rfl | exact ex_assign rfl | exact ex_load rfl (aload_cell (by first | assumption | exact blk_set _ _ _ | (simp only [AHeap.bump_blk]; first | assumption | exact blk_set _ _ _)) (tf (by rfl)) (by rfl) (by first | assumption | rfl)) | exact ex_fieldA rfl (tf (by rfl)) (by rfl) (tf (by rfl)) (by rfl) | exact ex_idx rfl rfl (tf (by rfl)) (tf (by rfl)) (by omega) | exact ex_idxA rfl rfl (tf (by rfl)) (tf (by rfl)) (by omega) | exact ex_idxA (j := 0) rfl rfl (tf (by rfl)) (tf (by rfl)) (by omega) | exact ex_idxA (j := 1) rfl rfl (tf (by rfl)) (tf (by rfl)) (by omega) | exact ex_idxI rfl rfl (tf (by rfl)) (tf (by rfl)) (by assumption) (by first | assumption | omega) | exact ex_len rfl (tf (by rfl)) | exact ex_add rfl rfl (by omega) | exact ex_sub rfl rfl (by omega) | exact ex_mul rfl rfl (by omega) | exact ex_bool (ex_lss rfl rfl) (by assumption) | exact ex_bool (ex_leq rfl rfl) (by assumption) | exact ex_bool (ex_gtr rfl rfl) (by assumption) | exact ex_bool (ex_geq rfl rfl) (by assumption) | exact ex_bool (ex_eql rfl rfl) (by assumption) | exact ex_bool (ex_neq rfl rfl) (by assumption) | exact ex_lss rfl rfl | exact ex_leq rfl rfl | exact ex_gtr rfl rfl | exact ex_geq rfl rfl | exact ex_eql rfl rfl | exact ex_neq rfl rfl | exact ex_not rfl | exact ex_pickT rfl rfl | exact ex_pickF rfl rfl | exact ex_extract rfl rfl | exact ex_nilCheck rfl | exact ex_makeFunc rfl rfl | exact ex_rem rfl rfl (by omega) | exact ex_build rfl (ab89 _ _)) ?_ | refine AReg.box rfl rfl rfl (tb (by rfl)) ?_ | refine AReg.alloc rfl (tf (by rfl)) (by rfl) ?_))
          refine AReg.nil (join _ _ ⟨(by repeat (first | exact Gr.refl _ | assumption | refine Gr.b ?_ _)), ?_⟩)
          refine ⟨rfl, rfl, rfl, rfl, rfl, ?_, trivial⟩
          simp only [g0, g1, g2]; rfl
        | false =>
          rw [hcd] at join
          (repeat (first | refine AReg.skipG rfl rfl ?_ | refine AReg.valGE rfl rfl (by first | exact ex_move rfl | exact ex_assign rfl | exact ex_load rfl (aload_cell (by first | assumption | exact blk_set _ _ _ | (simp only [AHeap.bump_blk]; first | assumption | exact blk_set _ _ _)) (tf (by rfl)) (by rfl) (by first | assumption | rfl)) | exact ex_fieldA rfl (tf (by rfl)) (by rfl) (tf (by rfl)) (by rfl) | exact ex_idx rfl rfl (tf (by rfl)) (tf (by rfl)) (by omega) | exact ex_idxA rfl rfl (tf (by rfl)) (tf (by rfl)) (by omega) | exact ex_idxA (j := 0) rfl rfl (tf (by rfl)) (tf (by rfl)) (by omega) | exact ex_idxA (j := 1) rfl rfl (tf (by rfl)) (tf (by rfl)) (by omega) | exact ex_idxI rfl rfl (tf (by rfl)) (tf (by rfl)) (by assumption) (by first | assumption | omega) | exact ex_len rfl (tf (by rfl)) | exact ex_add rfl rfl (by omega) | exact ex_sub rfl rfl (by omega) | exact ex_mul rfl rfl (by omega) | exact ex_bool (ex_lss rfl rfl) (by assumption) | exact ex_bool (ex_leq rfl rfl) (by assumption) | exact ex_bool (ex_gtr rfl rfl) (by assumption) | exact ex_bool (ex_geq rfl rfl) (by assumption) | exact ex_bool (ex_eql rfl rfl) (by assumption) | exact ex_bool (ex_neq rfl rfl) (by assumption) | exact ex_lss rfl rfl | exact ex_leq rfl rfl | exact ex_gtr rfl rfl | exact ex_geq rfl rfl | exact ex_eql rfl rfl | exact ex_neq rfl rfl | exact ex_not rfl | exact ex_pickT rfl rfl | exact ex_pickF rfl rfl | exact ex_extract rfl rfl | exact ex_nilCheck rfl | exact ex_makeFunc rfl rfl | exact ex_rem rfl rfl (by omega) | exact ex_build rfl (ab89 _ _)) ?_ | refine AReg.box rfl rfl rfl (tb (by rfl)) ?_ | refine AReg.alloc rfl (tf (by rfl)) (by rfl) ?_))
          refine AReg.nil (join _ _ ⟨(by repeat (first | exact Gr.refl _ | assumption | refine Gr.b ?_ _)), ?_⟩)
          refine ⟨rfl, rfl, rfl, rfl, rfl, ?_, trivial⟩
          simp only [g0, g1, g2]; first | rfl | (simp; done)
      | false =>
        rw [hcd] at join
        (repeat (first | refine AReg.skipG rfl rfl ?_ | refine AReg.valGE rfl rfl (by first | exact ex_move rfl | exact ex_assign rfl | exact ex_load rfl (aload_cell (by first | assumption | exact blk_set _ _ _ | (simp only [AHeap.bump_blk]; first | assumption | exact blk_set _ _ _)) (tf (by rfl)) (by rfl) (by first | assumption | rfl)) | exact ex_fieldA rfl (tf (by rfl)) (by rfl) (tf (by rfl)) (by rfl) | exact ex_idx rfl rfl (tf (by rfl)) (tf (by rfl)) (by omega) | exact ex_idxA rfl rfl (tf (by rfl)) (tf (by rfl)) (by omega) | exact ex_idxA (j := 0) rfl rfl (tf (by rfl)) (tf (by rfl)) (by omega) | exact ex_idxA (j := 1) rfl rfl (tf (by rfl)) (tf (by rfl)) (by omega) | exact ex_idxI rfl rfl (tf (by rfl)) (tf (by rfl)) (by assumption) (by first | assumption | omega) | exact ex_len rfl (tf (by rfl)) | exact ex_add rfl rfl (by omega) | exact ex_sub rfl rfl (by omega) | exact ex_mul rfl rfl (by omega) | exact ex_bool (ex_lss rfl rfl) (by assumption) | exact ex_bool (ex_leq rfl rfl) (by assumption) | exact ex_bool (ex_gtr rfl rfl) (by assumption) | exact ex_bool (ex_geq rfl rfl) (by assumption) | exact ex_bool (ex_eql rfl rfl) (by assumption) | exact ex_bool (ex_neq rfl rfl) (by assumption) | exact ex_lss rfl rfl | exact ex_leq rfl rfl | exact ex_gtr rfl rfl | exact ex_geq rfl rfl | exact ex_eql rfl rfl | exact ex_neq rfl rfl | exact ex_not rfl | exact ex_pickT rfl rfl | exact ex_pickF rfl rfl | exact ex_extract rfl rfl | exact ex_nilCheck rfl | exact ex_makeFunc rfl rfl | exact ex_rem rfl rfl (by omega) | exact ex_build rfl (ab89 _ _)) ?_ | refine AReg.box rfl rfl rfl (tb (by rfl)) ?_ | refine AReg.alloc rfl (tf (by rfl)) (by rfl) ?_))
        refine AReg.nil (join _ _ ⟨(by repeat (first | exact Gr.refl _ | assumption | refine Gr.b ?_ _)), ?_⟩)
        refine ⟨rfl, rfl, rfl, rfl, rfl, ?_, trivial⟩
        simp only [g0, g1]; first | rfl | (simp; done)
    | false =>
      rw [hcd] at join
      (repeat (first | refine AReg.skipG rfl rfl ?_ | refine AReg.valGE rfl rfl (by first | exact ex_move rfl | exact ex_assign rfl | exact ex_load rfl (aload_cell (by first | assumption | exact blk_set _ _ _ | (simp only [AHeap.bump_blk]; first | assumption | exact blk_set _ _ _)) (tf (by rfl)) (by rfl) (by first | assumption | rfl)) | exact ex_fieldA rfl (tf (by rfl)) (by rfl) (tf (by rfl)) (by rfl) | exact ex_idx rfl rfl (tf (by rfl)) (tf (by rfl)) (by omega) | exact ex_idxA rfl rfl (tf (by rfl)) (tf (by rfl)) (by omega) | exact ex_idxA (j := 0) rfl rfl (tf (by rfl)) (tf (by rfl)) (by omega) | exact ex_idxA (j := 1) rfl rfl (tf (by rfl)) (tf (by rfl)) (by omega) | exact ex_idxI rfl rfl (tf (by rfl)) (tf (by rfl)) (by assumption) (by first | assumption | omega) | exact ex_len rfl (tf (by rfl)) | exact ex_add rfl rfl (by omega) | exact ex_sub rfl rfl (by omega) | exact ex_mul rfl rfl (by omega) | exact ex_bool (ex_lss rfl rfl) (by assumption) | exact ex_bool (ex_leq rfl rfl) (by assumption) | exact ex_bool (ex_gtr rfl rfl) (by assumption) | exact ex_bool (ex_geq rfl rfl) (by assumption) | exact ex_bool (ex_eql rfl rfl) (by assumption) | exact ex_bool (ex_neq rfl rfl) (by assumption) | exact ex_lss rfl rfl | exact ex_leq rfl rfl | exact ex_gtr rfl rfl | exact ex_geq rfl rfl | exact ex_eql rfl rfl | exact ex_neq rfl rfl | exact ex_not rfl | exact ex_pickT rfl rfl | exact ex_pickF rfl rfl | exact ex_extract rfl rfl | exact ex_nilCheck rfl | exact ex_makeFunc rfl rfl | exact ex_rem rfl rfl (by omega) | exact ex_build rfl (ab89 _ _)) ?_ | refine AReg.box rfl rfl rfl (tb (by rfl)) ?_ | refine AReg.alloc rfl (tf (by rfl)) (by rfl) ?_))
      refine AReg.nil (join _ _ ⟨(by repeat (first | exact Gr.refl _ | assumption | refine Gr.b ?_ _)), ?_⟩)
      refine ⟨rfl, rfl, rfl, rfl, rfl, ?_, trivial⟩
      simp only [g0]; first | rfl | (simp; done)
  rintro fr4 ρ4 ⟨hgr4, hH4⟩
  refine AGo.has hH4 ?_
  have hgρ : GridD G B m n N s3 ρ4 := by obtain ⟨k, rfl⟩ := hgr4; exact hg3.more (by repeat (first | exact More.refl _ | assumption | refine More.bump' ?_ _ | refine More.set ?_ _ (by (try simp only [AHeap.bump_next, AHeap.set_next]); omega)))
  have hkρ : Keep G B σ3 ρ4 := by obtain ⟨k, rfl⟩ := hgr4; exact Keep.more (by repeat (first | exact More.refl _ | assumption | refine More.bump' ?_ _ | refine More.set ?_ _ (by (try simp only [AHeap.bump_next, AHeap.set_next]); omega)))
  clear hgr4 hH4 hg3
  refine AGo.condJ (fun fr' τ' => GridD G B m n N s' τ' ∧ Keep G B ρ4 τ' ∧ Has [(0, .pointer (some ⟨G, 0, none⟩)), (1, .int .i64 r), (2, .int .i64 c), (6, .int .i64 ((m : Nat) : Int)), (7, .int .i64 ((n : Nat) : Int))] fr') rfl (fun hb next => ?_) (fun hb next => ?_) ?_
  · rw [hb, if_pos rfl] at hL4
    have hlt := hgρ.lt
    have hltB := hgρ.ltB
    refine AGo.reg ?_
    (repeat (first | refine AReg.skipG rfl rfl ?_ | refine AReg.valGE rfl rfl (by first | exact ex_move rfl | exact ex_assign rfl | exact ex_load rfl (aload_cell (by first | assumption | exact blk_set _ _ _ | (simp only [AHeap.bump_blk]; first | assumption | exact blk_set _ _ _)) (tf (by rfl)) (by rfl) (by first | assumption | rfl)) | exact ex_fieldA rfl (tf (by rfl)) (by rfl) (tf (by rfl)) (by rfl) | exact ex_idx rfl rfl (tf (by rfl)) (tf (by rfl)) (by omega) | exact ex_idxA rfl rfl (tf (by rfl)) (tf (by rfl)) (by omega) | exact ex_idxA (j := 0) rfl rfl (tf (by rfl)) (tf (by rfl)) (by omega) | exact ex_idxA (j := 1) rfl rfl (tf (by rfl)) (tf (by rfl)) (by omega) | exact ex_idxI rfl rfl (tf (by rfl)) (tf (by rfl)) (by assumption) (by first | assumption | omega) | exact ex_len rfl (tf (by rfl)) | exact ex_add rfl rfl (by omega) | exact ex_sub rfl rfl (by omega) | exact ex_mul rfl rfl (by omega) | exact ex_bool (ex_lss rfl rfl) (by assumption) | exact ex_bool (ex_leq rfl rfl) (by assumption) | exact ex_bool (ex_gtr rfl rfl) (by assumption) | exact ex_bool (ex_geq rfl rfl) (by assumption) | exact ex_bool (ex_eql rfl rfl) (by assumption) | exact ex_bool (ex_neq rfl rfl) (by assumption) | exact ex_lss rfl rfl | exact ex_leq rfl rfl | exact ex_gtr rfl rfl | exact ex_geq rfl rfl | exact ex_eql rfl rfl | exact ex_neq rfl rfl | exact ex_not rfl | exact ex_pickT rfl rfl | exact ex_pickF rfl rfl | exact ex_extract rfl rfl | exact ex_nilCheck rfl | exact ex_makeFunc rfl rfl | exact ex_rem rfl rfl (by omega) | exact ex_build rfl (ab89 _ _)) ?_ | refine AReg.box rfl rfl rfl (tb (by rfl)) ?_ | refine AReg.alloc rfl (tf (by rfl)) (by rfl) ?_))
    refine AReg.buildSliceO rfl rfl (fun _ _ => as90 _ _ _ _ _ _ _ _ _ _ _ _ _ _ _ _ _ _) fun C τ hC1 hC2 hC3 hC4 => ?_
    simp only [AHeap.bump_next] at hC1
    have hC4 : More ρ4 τ := More.trans (by repeat (first | exact More.refl _ | assumption | refine More.bump' ?_ _ | refine More.set ?_ _ (by (try simp only [AHeap.bump_next, AHeap.set_next]); omega))) hC4
    refine AReg.go rfl rfl (by kernel_rfl) ((corner62 (L := crn4 m n) (cap := 8) hL4 (crn4_bnd sm sn) (by show 8 ≤ 1000; omega) _ (hgρ.more hC4) hC3 hC2 (by omega) (by omega)).mono ?_)
    rintro _ υ ⟨rfl, hgυ, hkυ⟩
    exact AReg.nil (next _ _ ⟨hgυ, (Keep.more hC4).trans hkυ, rfl, rfl, rfl, rfl, rfl, trivial⟩)
  · rw [hb, if_neg (by simp)] at hL4
    cases hL4
    exact AGo.skip (next _ _ ⟨hgρ, Keep.refl _ _ _, rfl, rfl, rfl, rfl, rfl, trivial⟩)
  rintro fr4b σ4 ⟨hg4, hk4', hH4b⟩
  refine AGo.has hH4b ?_
  have hk4 : Keep G B σ σ4 := hk3.trans (hkρ.trans hk4')
  clear hk3 hkρ hk4' hH4b hgρ
  exact AGo.done Try.func56 ares_nil ⟨rfl, hg4, hk4⟩
end Go.Abs.Lay
