/- A part of the proof: contracts of functions of the program, shown by walking through their code in an abstract machine. Condition: none. -/
import Derived.Test.YtipgikhblcfpjaaRunI
set_option linter.unusedVariables false
set_option linter.unusedSimpArgs false
namespace Go.Abs.Run
open Go Go.Proofs
set_option maxHeartbeats 4000000
set_option maxRecDepth 8000
-- @SEAT 10
/-- What the reference has after so many modules from index a on; e: the end. -/
def outB (row : List Bool) (a e : Nat) : Nat → List Int × Nat
  | 0 => ([], 0)
  | j + 1 => if decide (a + j + 1 = e) || decide (row.getD (a + j + 1) false ≠ row.getD (a + j) false) then ((outB row a e j).1 ++ [((outB row a e j).2 : Int) + 1], 0) else ((outB row a e j).1, (outB row a e j).2 + 1)
def refW (row : List Bool) : List Int := (outB row (lm row) (row.length - lm row.reverse) (row.length - lm row.reverse - lm row)).1
theorem outB_le (row : List Bool) (a e : Nat) : ∀ j, (outB row a e j).1.length ≤ j ∧ (outB row a e j).2 ≤ j
  | 0 => ⟨Nat.le_refl _, Nat.le_refl _⟩
  | j + 1 => by
    have ih := outB_le row a e j
    simp only [outB]
    split
    · simp only [List.length_append, List.length_cons, List.length_nil]; omega
    · simp only; omega
-- @FN 18
theorem refWidths18 {c : Option Nat} {off cap : Nat} {cs : List Value} {rw : Bool} {zs : List Bool} (hz : (cs.drop off).take zs.length = zs.map Value.bool) (hl : zs.length ≤ 1000000000) :
    SC Try.prog 18 [gv c off zs.length cap] [(c, .cells cs 4 rw)] (RI (refW zs)) := by
  refine SC.enter Try.func18 rfl (by rw [Try.ntmps18]; simp) fun σ hσ => ?_
  rw [Try.ntmps18]
  have h1 := lm_le zs
  have h2 := lm_le zs.reverse
  rw [List.length_reverse] at h2
  obtain ⟨a, ha⟩ : ∃ a, a = lm zs := ⟨_, rfl⟩
  obtain ⟨b, hb⟩ : ∃ b, b = lm zs.reverse := ⟨_, rfl⟩
  have hW : refW zs = (outB zs a (zs.length - b) (zs.length - b - a)).1 := by rw [refW, ← ha, ← hb]
  repeat (first | refine SGo.seq ?_ | refine SGo.skip ?_ | refine SGo.inBlock ?_ | refine SGo.block ?_ | refine SGo.scope ?_ | refine SGo.inScope ?_ | refine SGo.label ?_ | refine SGo.exit rfl ?_)
  refine SGo.reg ?_
  refine SReg.as rfl rfl rfl ?_
  refine SReg.nil ?_
  repeat (first | refine SGo.seq ?_ | refine SGo.skip ?_ | refine SGo.inBlock ?_ | refine SGo.block ?_ | refine SGo.scope ?_ | refine SGo.inScope ?_ | refine SGo.label ?_ | refine SGo.exit rfl ?_)
  repeat (first | refine SGo.seq ?_ | refine SGo.skip ?_ | refine SGo.inBlock ?_ | refine SGo.block ?_ | refine SGo.scope ?_ | refine SGo.inScope ?_ | refine SGo.label ?_ | refine SGo.exit rfl ?_)
  refine SGo.reg ?_
  refine SReg.mv rfl rfl rfl ?_
  refine SReg.go (refMargins15 hz (by omega)) rfl rfl (by kernel_rfl) ⟨_, .refl _, .refl _⟩ ?_
  rintro _ _ ⟨rfl, rfl⟩
  dsimp only [List.cons_append, List.nil_append]
  rw [← ha] at h1
  rw [← hb] at h2
  rw [← ha, ← hb]
  refine SReg.mv rfl rfl rfl ?_
  refine SReg.ex rfl rfl (fun _ _ => ex_extract rfl rfl) ?_
  refine SReg.ex rfl rfl (fun _ _ => ex_extract rfl rfl) ?_
  refine SReg.as rfl rfl rfl ?_
  refine SReg.as rfl rfl rfl ?_
  refine SReg.nil ?_
  repeat (first | refine SGo.seq ?_ | refine SGo.skip ?_ | refine SGo.inBlock ?_ | refine SGo.block ?_ | refine SGo.scope ?_ | refine SGo.inScope ?_ | refine SGo.label ?_ | refine SGo.exit rfl ?_)
  repeat (first | refine SGo.seq ?_ | refine SGo.skip ?_ | refine SGo.inBlock ?_ | refine SGo.block ?_ | refine SGo.scope ?_ | refine SGo.inScope ?_ | refine SGo.label ?_ | refine SGo.exit rfl ?_)
  refine SGo.reg ?_
  refine SReg.as rfl rfl rfl ?_
  refine SReg.nil ?_
  repeat (first | refine SGo.seq ?_ | refine SGo.skip ?_ | refine SGo.inBlock ?_ | refine SGo.block ?_ | refine SGo.scope ?_ | refine SGo.inScope ?_ | refine SGo.label ?_ | refine SGo.exit rfl ?_)
  repeat (first | refine SGo.seq ?_ | refine SGo.skip ?_ | refine SGo.inBlock ?_ | refine SGo.block ?_ | refine SGo.scope ?_ | refine SGo.inScope ?_ | refine SGo.label ?_ | refine SGo.exit rfl ?_)
  refine SGo.reg ?_
  refine SReg.as rfl rfl rfl ?_
  refine SReg.nil ?_
  repeat (first | refine SGo.seq ?_ | refine SGo.skip ?_ | refine SGo.inBlock ?_ | refine SGo.block ?_ | refine SGo.scope ?_ | refine SGo.inScope ?_ | refine SGo.label ?_ | refine SGo.exit rfl ?_)
  repeat (first | refine SGo.seq ?_ | refine SGo.skip ?_ | refine SGo.inBlock ?_ | refine SGo.block ?_ | refine SGo.scope ?_ | refine SGo.inScope ?_ | refine SGo.label ?_ | refine SGo.exit rfl ?_)
  refine SGo.reg ?_
  refine SReg.mv rfl rfl rfl ?_
  refine SReg.as rfl rfl rfl ?_
  refine SReg.nil ?_
  repeat (first | refine SGo.seq ?_ | refine SGo.skip ?_ | refine SGo.inBlock ?_ | refine SGo.block ?_ | refine SGo.scope ?_ | refine SGo.inScope ?_ | refine SGo.label ?_ | refine SGo.exit rfl ?_)
  refine SGo.nilE 3 true ?_
  refine SGo.loopI (ι := Nat × Option Nat) (F := fun x => [(0, gv c off zs.length cap), (4, .int .i64 (b : Nat)), (5, sv x.2 (outB zs a (zs.length - b) x.1).1.length), (6, .int .i64 ((outB zs a (zs.length - b) x.1).2 : Nat)), (7, .int .i64 ((a + x.1 : Nat) : Int))]) (O := fun _ => [(c, .cells cs 4 rw)])
    (l0 := fun x => [(x.2, .cells ((outB zs a (zs.length - b) x.1).1.map (Value.int .i64)) 3 true)]) (I := fun x => x.1 ≤ zs.length - b - a) (μ := fun x => zs.length - b - a - x.1) ?_ (x0 := (0, none)) (Nat.zero_le _) ⟨rfl, rfl, rfl, rfl, rfl, trivial⟩ rfl rfl
  rintro ⟨j, c'⟩ hj next
  simp only at hj ⊢
  have hle := outB_le zs a (zs.length - b) j
  repeat (first | refine SGo.seq ?_ | refine SGo.skip ?_ | refine SGo.inBlock ?_ | refine SGo.block ?_ | refine SGo.scope ?_ | refine SGo.inScope ?_ | refine SGo.label ?_ | refine SGo.exit rfl ?_)
  refine SGo.reg ?_
  refine SReg.mv rfl rfl rfl ?_
  refine SReg.mv rfl rfl rfl ?_
  refine SReg.valG rfl rfl (sx_lenG rfl (tf (by rfl)) (by first | exact hz_nil (by assumption) | exact map_nil | exact len_nil (by first | assumption | rfl | (simp; done)))) ?_
  refine SReg.mv rfl rfl rfl ?_
  refine SReg.ex rfl rfl (fun _ _ => ex_sub rfl rfl (by first | assumption | omega | decide)) ?_
  refine SReg.ex rfl rfl (fun _ _ => by first | exact ex_bool (ex_lss rfl rfl) (by assumption) | exact ex_lss rfl rfl) ?_
  refine SReg.nil ?_
  repeat (first | refine SGo.seq ?_ | refine SGo.skip ?_ | refine SGo.inBlock ?_ | refine SGo.block ?_ | refine SGo.scope ?_ | refine SGo.inScope ?_ | refine SGo.label ?_ | refine SGo.exit rfl ?_)
  refine SGo.condD rfl (fun h => ?_) (fun h => ?_)
  · have hj' : a + j < zs.length - b := by omega
    repeat (first | refine SGo.seq ?_ | refine SGo.skip ?_ | refine SGo.inBlock ?_ | refine SGo.block ?_ | refine SGo.scope ?_ | refine SGo.inScope ?_ | refine SGo.label ?_ | refine SGo.exit rfl ?_)
    refine SGo.reg ?_
    refine SReg.mv rfl rfl rfl ?_
    refine SReg.ex rfl rfl (fun _ _ => ex_add rfl rfl (by first | assumption | omega | decide)) ?_
    refine SReg.as rfl rfl rfl ?_
    refine SReg.nil ?_
    repeat (first | refine SGo.seq ?_ | refine SGo.skip ?_ | refine SGo.inBlock ?_ | refine SGo.block ?_ | refine SGo.scope ?_ | refine SGo.inScope ?_ | refine SGo.label ?_ | refine SGo.exit rfl ?_)
    -- @EXTRA ex_bin rfl rfl (neqB _ _)
    repeat (first | refine SGo.seq ?_ | refine SGo.skip ?_ | refine SGo.inBlock ?_ | refine SGo.block ?_ | refine SGo.scope ?_ | refine SGo.inScope ?_ | refine SGo.label ?_ | refine SGo.exit rfl ?_)
    refine SGo.draw [] [0, 1, 2, 3, 4, 5, 6, 7, 8, 9, 10, 11, 12, 13, 14, 15, 16, 17, 18] mixed (by kernel_rfl) ?_
    refine SDW.readL rfl rfl rfl rfl (sx_of fun _ _ => ex_move rfl) ?_
    refine SDW.readL rfl rfl rfl rfl (sx_of (fun _ _ => by first | exact ex_add rfl rfl (by first | assumption | omega | decide) | exact ex_bin rfl rfl (neqB _ _))) ?_
    refine SDW.readL rfl rfl rfl rfl (sx_of fun _ _ => ex_move rfl) ?_
    refine SDW.readL rfl rfl rfl rfl (sx_lenG rfl (tf (by rfl)) (by first | exact hz_nil (by assumption) | exact map_nil | exact len_nil (by first | assumption | rfl | (simp; done)))) ?_
    refine SDW.readL rfl rfl rfl rfl (sx_of fun _ _ => ex_move rfl) ?_
    refine SDW.readL rfl rfl rfl rfl (sx_of (fun _ _ => by first | exact ex_sub rfl rfl (by first | assumption | omega | decide) | exact ex_bin rfl rfl (neqB _ _))) ?_
    refine SDW.readL rfl rfl rfl rfl (sx_of (fun _ _ => by first | exact ex_bool (ex_eql rfl rfl) (by assumption) | exact ex_eql rfl rfl | exact ex_bin rfl rfl (neqB _ _))) ?_
    refine SDW.readL rfl rfl rfl rfl (sx_of fun _ _ => ex_move rfl) ?_
    refine SDW.join (fun fr' => Has [(0, gv c off zs.length cap), (4, .int .i64 (b : Nat)), (5, sv c' (outB zs a (zs.length - b) j).1.length), (6, .int .i64 (((outB zs a (zs.length - b) j).2 : Int) + 1)), (7, .int .i64 ((a + j : Nat) : Int)), (42, .bool (decide (a + j + 1 = zs.length - b) || decide (zs.getD (a + j + 1) false ≠ zs.getD (a + j) false)))] fr') ?_ fun nx => ?_
    rotate_left
    · cases g : decide (((a + j : Nat) : Int) + 1 = (zs.length : Int) - (b : Int)) with
      | true =>
        have g' : a + j + 1 = zs.length - b := by have := of_decide_eq_true g; omega
        first | refine SDW.skipL rfl rfl rfl ?_ | (refine SDW.readL rfl rfl rfl rfl (sx_of fun _ _ => ex_move rfl) ?_)
        first | refine SDW.skipL rfl rfl rfl ?_ | (refine SDW.readL rfl rfl rfl rfl (sx_of fun _ _ => ex_move rfl) ?_)
        first | refine SDW.skipL rfl rfl rfl ?_ | (refine SDW.readL rfl rfl rfl rfl (sx_of (fun _ _ => by first | exact ex_add rfl rfl (by first | assumption | omega | decide) | exact ex_bin rfl rfl (neqB _ _))) ?_)
        first | refine SDW.skipL rfl rfl rfl ?_ | (refine SDW.idxL rfl rfl rfl rfl rfl rfl (tf (by rfl)) (tf (by rfl)) (by first | assumption | rfl) (by omega) (by first | exact hz_nil (by assumption) | exact map_nil | exact len_nil (by first | assumption | rfl | (simp; done))) (fun _ hidx => ?_); cases hidx)
        first | refine SDW.skipL rfl rfl rfl ?_ | (refine SDW.readL rfl rfl rfl rfl (sx_load rfl (by first | exact sld_cell (tf (by rfl)) rfl (by first | assumption | rfl) | exact sld_sub (d := (0 : Int)) (by assumption) (tf (by rfl)) rfl rfl (by omega) | exact sld_at (0 : Int) (tf (by rfl)) rfl rfl (by omega) | exact sld_sub (d := false) (by assumption) (tf (by rfl)) rfl rfl (by omega) | exact sld_at false (tf (by rfl)) rfl rfl (by omega) | exact sld_all (tf (by rfl)) rfl (by first | rfl | (simp; done)))) ?_)
        first | refine SDW.skipL rfl rfl rfl ?_ | (refine SDW.readL rfl rfl rfl rfl (sx_of fun _ _ => ex_move rfl) ?_)
        first | refine SDW.skipL rfl rfl rfl ?_ | (refine SDW.readL rfl rfl rfl rfl (sx_of fun _ _ => ex_move rfl) ?_)
        first | refine SDW.skipL rfl rfl rfl ?_ | (refine SDW.idxL rfl rfl rfl rfl rfl rfl (tf (by rfl)) (tf (by rfl)) (by first | assumption | rfl) (by omega) (by first | exact hz_nil (by assumption) | exact map_nil | exact len_nil (by first | assumption | rfl | (simp; done))) (fun _ hidx => ?_); cases hidx)
        first | refine SDW.skipL rfl rfl rfl ?_ | (refine SDW.readL rfl rfl rfl rfl (sx_load rfl (by first | exact sld_cell (tf (by rfl)) rfl (by first | assumption | rfl) | exact sld_sub (d := (0 : Int)) (by assumption) (tf (by rfl)) rfl rfl (by omega) | exact sld_at (0 : Int) (tf (by rfl)) rfl rfl (by omega) | exact sld_sub (d := false) (by assumption) (tf (by rfl)) rfl rfl (by omega) | exact sld_at false (tf (by rfl)) rfl rfl (by omega) | exact sld_all (tf (by rfl)) rfl (by first | rfl | (simp; done)))) ?_)
        first | refine SDW.skipL rfl rfl rfl ?_ | (refine SDW.readL rfl rfl rfl rfl (sx_of (fun _ _ => by first | exact ex_bool (ex_neq rfl rfl) (by assumption) | exact ex_neq rfl rfl | exact ex_bin rfl rfl (neqB _ _))) ?_)
        refine SDW.readL rfl rfl rfl rfl (sx_of (fun _ _ => by first | exact ex_pickT rfl rfl | exact ex_pickF rfl rfl)) ?_
        refine SDW.done ?_
        repeat (first | refine SGo.seq ?_ | refine SGo.skip ?_ | refine SGo.inBlock ?_ | refine SGo.block ?_ | refine SGo.scope ?_ | refine SGo.inScope ?_ | refine SGo.label ?_ | refine SGo.exit rfl ?_)
        exact nx _ ⟨rfl, rfl, rfl, rfl, rfl, by rw [decide_eq_true g', Bool.true_or]; rfl, trivial⟩
      | false =>
        have g' : ¬ a + j + 1 = zs.length - b := by have := of_decide_eq_false g; omega
        have hi1 : ((a + j : Nat) : Int) + 1 = ((a + j + 1 : Nat) : Int) := by omega
        first | refine SDW.skipL rfl rfl rfl ?_ | (refine SDW.readL rfl rfl rfl rfl (sx_of fun _ _ => ex_move rfl) ?_)
        first | refine SDW.skipL rfl rfl rfl ?_ | (refine SDW.readL rfl rfl rfl rfl (sx_of fun _ _ => ex_move rfl) ?_)
        first | refine SDW.skipL rfl rfl rfl ?_ | (refine SDW.readL rfl rfl rfl rfl (sx_of (fun _ _ => by first | exact ex_add rfl rfl (by first | assumption | omega | decide) | exact ex_bin rfl rfl (neqB _ _))) ?_)
        first | refine SDW.skipL rfl rfl rfl ?_ | (refine SDW.idxL rfl rfl rfl rfl rfl rfl (tf (by rfl)) (tf (by rfl)) (by first | assumption | rfl) (by omega) (by first | exact hz_nil (by assumption) | exact map_nil | exact len_nil (by first | assumption | rfl | (simp; done))) (fun _ hidx => ?_); cases hidx)
        first | refine SDW.skipL rfl rfl rfl ?_ | (refine SDW.readL rfl rfl rfl rfl (sx_load rfl (by first | exact sld_cell (tf (by rfl)) rfl (by first | assumption | rfl) | exact sld_sub (d := (0 : Int)) (by assumption) (tf (by rfl)) rfl rfl (by omega) | exact sld_at (0 : Int) (tf (by rfl)) rfl rfl (by omega) | exact sld_sub (d := false) (by assumption) (tf (by rfl)) rfl rfl (by omega) | exact sld_at false (tf (by rfl)) rfl rfl (by omega) | exact sld_all (tf (by rfl)) rfl (by first | rfl | (simp; done)))) ?_)
        first | refine SDW.skipL rfl rfl rfl ?_ | (refine SDW.readL rfl rfl rfl rfl (sx_of fun _ _ => ex_move rfl) ?_)
        first | refine SDW.skipL rfl rfl rfl ?_ | (refine SDW.readL rfl rfl rfl rfl (sx_of fun _ _ => ex_move rfl) ?_)
        first | refine SDW.skipL rfl rfl rfl ?_ | (refine SDW.idxL rfl rfl rfl rfl rfl rfl (tf (by rfl)) (tf (by rfl)) (by first | assumption | rfl) (by omega) (by first | exact hz_nil (by assumption) | exact map_nil | exact len_nil (by first | assumption | rfl | (simp; done))) (fun _ hidx => ?_); cases hidx)
        first | refine SDW.skipL rfl rfl rfl ?_ | (refine SDW.readL rfl rfl rfl rfl (sx_load rfl (by first | exact sld_cell (tf (by rfl)) rfl (by first | assumption | rfl) | exact sld_sub (d := (0 : Int)) (by assumption) (tf (by rfl)) rfl rfl (by omega) | exact sld_at (0 : Int) (tf (by rfl)) rfl rfl (by omega) | exact sld_sub (d := false) (by assumption) (tf (by rfl)) rfl rfl (by omega) | exact sld_at false (tf (by rfl)) rfl rfl (by omega) | exact sld_all (tf (by rfl)) rfl (by first | rfl | (simp; done)))) ?_)
        first | refine SDW.skipL rfl rfl rfl ?_ | (refine SDW.readL rfl rfl rfl rfl (sx_of (fun _ _ => by first | exact ex_bool (ex_neq rfl rfl) (by assumption) | exact ex_neq rfl rfl | exact ex_bin rfl rfl (neqB _ _))) ?_)
        refine SDW.readL rfl rfl rfl rfl (sx_of (fun _ _ => by first | exact ex_pickT rfl rfl | exact ex_pickF rfl rfl)) ?_
        refine SDW.done ?_
        repeat (first | refine SGo.seq ?_ | refine SGo.skip ?_ | refine SGo.inBlock ?_ | refine SGo.block ?_ | refine SGo.scope ?_ | refine SGo.inScope ?_ | refine SGo.label ?_ | refine SGo.exit rfl ?_)
        exact nx _ ⟨rfl, rfl, rfl, rfl, rfl, by rw [decide_eq_false g', Bool.false_or]; rfl, trivial⟩
    intro fr' hF
    refine SGo.has hF ?_
    refine SGo.condB rfl (fun hb2 => ?_) (fun hb2 => ?_)
    · have e1 : outB zs a (zs.length - b) (j + 1) = ((outB zs a (zs.length - b) j).1 ++ [((outB zs a (zs.length - b) j).2 : Int) + 1], 0) := by simp only [outB, hb2, if_true]
      repeat (first | refine SGo.seq ?_ | refine SGo.skip ?_ | refine SGo.inBlock ?_ | refine SGo.block ?_ | refine SGo.scope ?_ | refine SGo.inScope ?_ | refine SGo.label ?_ | refine SGo.exit rfl ?_)
      refine SGo.reg ?_
      refine SReg.mv rfl rfl rfl ?_
      refine SReg.mv rfl rfl rfl ?_
      refine SReg.buildSlice rfl rfl (bs22 _) fun A => ?_
      refine SReg.append (m := 1) (news := [.int .i64 (((outB zs a (zs.length - b) j).2 : Int) + 1)]) (L := fun c3 => [(some A, _), (c3, _)]) rfl rfl (fun c2 => .tail _ (.head _)) ty22 ty3 rfl (fun τ hτ => asrc_sv hτ ty22 (by simp) (by omega)) (by simp) (by simp) (by omega) (by omega) (by omega) fun c3 => ?_
      refine SReg.as rfl rfl rfl ?_
      refine SReg.nil ?_
      repeat (first | refine SGo.seq ?_ | refine SGo.skip ?_ | refine SGo.inBlock ?_ | refine SGo.block ?_ | refine SGo.scope ?_ | refine SGo.inScope ?_ | refine SGo.label ?_ | refine SGo.exit rfl ?_)
      repeat (first | refine SGo.seq ?_ | refine SGo.skip ?_ | refine SGo.inBlock ?_ | refine SGo.block ?_ | refine SGo.scope ?_ | refine SGo.inScope ?_ | refine SGo.label ?_ | refine SGo.exit rfl ?_)
      refine SGo.reg ?_
      refine SReg.as rfl rfl rfl ?_
      refine SReg.nil ?_
      repeat (first | refine SGo.seq ?_ | refine SGo.skip ?_ | refine SGo.inBlock ?_ | refine SGo.block ?_ | refine SGo.scope ?_ | refine SGo.inScope ?_ | refine SGo.label ?_ | refine SGo.exit rfl ?_)
      repeat (first | refine SGo.seq ?_ | refine SGo.skip ?_ | refine SGo.inBlock ?_ | refine SGo.block ?_ | refine SGo.scope ?_ | refine SGo.inScope ?_ | refine SGo.label ?_ | refine SGo.exit rfl ?_)
      refine SGo.reg ?_
      refine SReg.mv rfl rfl rfl ?_
      refine SReg.ex rfl rfl (fun _ _ => by first | exact ex_add rfl rfl (by first | assumption | omega | decide) | exact ex_bin rfl rfl (neqB _ _)) ?_
      refine SReg.as rfl rfl rfl ?_
      refine SReg.nil ?_
      repeat (first | refine SGo.seq ?_ | refine SGo.skip ?_ | refine SGo.inBlock ?_ | refine SGo.block ?_ | refine SGo.scope ?_ | refine SGo.inScope ?_ | refine SGo.label ?_ | refine SGo.exit rfl ?_)
      refine SGo.less (l' := [(c3, .cells ((outB zs a (zs.length - b) (j + 1)).1.map (Value.int .i64)) 3 true)]) (by rw [e1]; simp only [List.map_append]; exact .cons _ (.refl _)) ?_
      refine next (j + 1, c3) _ (by simp only; omega) (by simp only; omega) ⟨rfl, rfl, ?_, ?_, rfl, trivial⟩
      · simp only [e1, List.length_append]; rfl
      · simp only [e1]; rfl
    · have e1 : outB zs a (zs.length - b) (j + 1) = ((outB zs a (zs.length - b) j).1, (outB zs a (zs.length - b) j).2 + 1) := by simp only [outB, hb2, Bool.false_eq_true, if_false]
      repeat (first | refine SGo.seq ?_ | refine SGo.skip ?_ | refine SGo.inBlock ?_ | refine SGo.block ?_ | refine SGo.scope ?_ | refine SGo.inScope ?_ | refine SGo.label ?_ | refine SGo.exit rfl ?_)
      refine SGo.reg ?_
      refine SReg.mv rfl rfl rfl ?_
      refine SReg.ex rfl rfl (fun _ _ => by first | exact ex_add rfl rfl (by first | assumption | omega | decide) | exact ex_bin rfl rfl (neqB _ _)) ?_
      refine SReg.as rfl rfl rfl ?_
      refine SReg.nil ?_
      repeat (first | refine SGo.seq ?_ | refine SGo.skip ?_ | refine SGo.inBlock ?_ | refine SGo.block ?_ | refine SGo.scope ?_ | refine SGo.inScope ?_ | refine SGo.label ?_ | refine SGo.exit rfl ?_)
      have hn := next (j + 1, c')
      simp only [e1] at hn
      exact hn _ (by omega) (by omega) ⟨rfl, rfl, rfl, rfl, rfl, trivial⟩
  · have hjz : j = zs.length - b - a := by omega
    subst hjz
    rw [← hW]
    repeat (first | refine SGo.seq ?_ | refine SGo.skip ?_ | refine SGo.inBlock ?_ | refine SGo.block ?_ | refine SGo.scope ?_ | refine SGo.inScope ?_ | refine SGo.label ?_ | refine SGo.exit rfl ?_)
    repeat (first | refine SGo.seq ?_ | refine SGo.skip ?_ | refine SGo.inBlock ?_ | refine SGo.block ?_ | refine SGo.scope ?_ | refine SGo.inScope ?_ | refine SGo.label ?_ | refine SGo.exit rfl ?_)
    refine SGo.reg ?_
    refine SReg.mv rfl rfl rfl ?_
    refine SReg.as rfl rfl rfl ?_
    refine SReg.nil ?_
    repeat (first | refine SGo.seq ?_ | refine SGo.skip ?_ | refine SGo.inBlock ?_ | refine SGo.block ?_ | refine SGo.scope ?_ | refine SGo.inScope ?_ | refine SGo.label ?_ | refine SGo.exit rfl ?_)
    exact SGo.ret Try.func18 (fun τ hτ => ares_tmp rfl ares_nil) fun τ hτ => ⟨_, hτ, c', _, by rw [List.length_map]; rfl, rfl, hz_full _ _, by simp⟩
end Go.Abs.Run
