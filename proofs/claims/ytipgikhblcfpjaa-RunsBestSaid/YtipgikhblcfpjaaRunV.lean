/- A part of the proof: contracts of functions of the program, shown by walking through their code in an abstract machine. Condition: none. -/
import Derived.Test.YtipgikhblcfpjaaRunM
import Derived.Test.YtipgikhblcfpjaaRunK
import Derived.Test.YtipgikhblcfpjaaRunT
set_option linter.unusedVariables false
set_option linter.unusedSimpArgs false
namespace Go.Abs.Run
open Go Go.Proofs
set_option maxHeartbeats 8000000
set_option maxRecDepth 8000
-- @SEAT 10
theorem good_ex : Good [10, 21, 29, 10] 7 [1, 2, 3, 1] where
  len := rfl
  pos i hi := by
    have h : ∀ i, i < 4 → 1 ≤ ([1, 2, 3, 1] : List Int).getD i 0 := by decide
    exact h i hi
  sum := by decide
  ord i j hi hj hp := by
    have h : ∀ i, i < 4 → ∀ j, j < 4 → 1 < ([1, 2, 3, 1] : List Int).getD i 0 → cst 7 ([10, 21, 29, 10] : List Int).sum (([10, 21, 29, 10] : List Int).getD i 0) (([1, 2, 3, 1] : List Int).getD i 0 - 1) < cst 7 ([10, 21, 29, 10] : List Int).sum (([10, 21, 29, 10] : List Int).getD j 0) (([1, 2, 3, 1] : List Int).getD j 0) ∨ (cst 7 ([10, 21, 29, 10] : List Int).sum (([10, 21, 29, 10] : List Int).getD i 0) (([1, 2, 3, 1] : List Int).getD i 0 - 1) = cst 7 ([10, 21, 29, 10] : List Int).sum (([10, 21, 29, 10] : List Int).getD j 0) (([1, 2, 3, 1] : List Int).getD j 0) ∧ i < j) := by decide
    exact h i hi j hj hp
-- @FN 10
/-- the examples -/
theorem alive10 : SC Try.prog 10 [] [] fun v l => v = .bool true ∧ l = [] := by
  refine SC.enter Try.func10 rfl (by rw [Try.ntmps10]; simp) fun σ hσ => ?_
  rw [Try.ntmps10]
  repeat (first | refine SGo.seq ?_ | refine SGo.skip ?_ | refine SGo.inBlock ?_ | refine SGo.block ?_ | refine SGo.scope ?_ | refine SGo.inScope ?_ | refine SGo.label ?_ | refine SGo.exit rfl ?_)
  refine SGo.reg ?_
  refine SReg.as rfl rfl rfl ?_
  refine SReg.nil ?_
  repeat (first | refine SGo.seq ?_ | refine SGo.skip ?_ | refine SGo.inBlock ?_ | refine SGo.block ?_ | refine SGo.scope ?_ | refine SGo.inScope ?_ | refine SGo.label ?_ | refine SGo.exit rfl ?_)
  repeat (first | refine SGo.seq ?_ | refine SGo.skip ?_ | refine SGo.inBlock ?_ | refine SGo.block ?_ | refine SGo.scope ?_ | refine SGo.inScope ?_ | refine SGo.label ?_ | refine SGo.exit rfl ?_)
  refine SGo.reg ?_
  refine SReg.buildSlice rfl rfl (fun _ _ => by simp only [abuildSlice, ty22, ty3]; rw [if_pos ⟨by rfl, by rfl, by decide⟩]; rfl) fun A => ?_
  refine SReg.go (modules11 (zs := [2, 1, 1]) (cap := 3) (off := 0) rfl (by decide)) rfl rfl (by kernel_rfl) ⟨_, .refl _, .refl _⟩ ?_
  rw [show modP [2, 1, 1] = ([true, true, false, true], 0) by decide]
  rintro _ _ ⟨c1, rfl, rfl⟩
  dsimp only [List.cons_append, List.nil_append]
  refine SReg.mv rfl rfl rfl ?_
  refine SReg.ex rfl rfl (fun _ _ => ex_extract rfl rfl) ?_
  refine SReg.ex rfl rfl (fun _ _ => ex_extract rfl rfl) ?_
  refine SReg.as rfl rfl rfl ?_
  refine SReg.as rfl rfl rfl ?_
  refine SReg.nil ?_
  repeat (first | refine SGo.seq ?_ | refine SGo.skip ?_ | refine SGo.inBlock ?_ | refine SGo.block ?_ | refine SGo.scope ?_ | refine SGo.inScope ?_ | refine SGo.label ?_ | refine SGo.exit rfl ?_)
  refine SGo.less (.cons_cons _ (.cons _ .slnil)) ?_
  refine SGo.has (F := [(1, sv c1 4), (2, .int .i64 0)]) ⟨rfl, rfl, trivial⟩ ?_
  repeat (first | refine SGo.seq ?_ | refine SGo.skip ?_ | refine SGo.inBlock ?_ | refine SGo.block ?_ | refine SGo.scope ?_ | refine SGo.inScope ?_ | refine SGo.label ?_ | refine SGo.exit rfl ?_)
  refine SGo.reg ?_
  refine SReg.buildSlice rfl rfl (fun _ _ => by simp only [abuildSlice, ty25, ty4]; rw [if_pos ⟨by rfl, by rfl, by decide⟩]; rfl) fun A => ?_
  refine SReg.go (widths17 (zs := [false, true, true, false, false, false, true]) (cap := 7) (off := 0) rfl (by decide)) rfl rfl (by kernel_rfl) ⟨_, .refl _, .cons_cons _ (.cons _ .slnil)⟩ ?_
  rw [show trimA (outA [false, true, true, false, false, false, true] ([false, true, true, false, false, false, true] : List Bool).length).1 = [2, 3, 1] by decide]
  rintro _ _ ⟨c3, cs3, rfl, rfl, hz3, hc3⟩
  dsimp only [List.cons_append, List.nil_append]
  refine SReg.as rfl rfl rfl ?_
  refine SReg.nil ?_
  repeat (first | refine SGo.seq ?_ | refine SGo.skip ?_ | refine SGo.inBlock ?_ | refine SGo.block ?_ | refine SGo.scope ?_ | refine SGo.inScope ?_ | refine SGo.label ?_ | refine SGo.exit rfl ?_)
  refine SGo.less (.cons_cons _ (.cons _ (.cons_cons _ .slnil))) ?_
  repeat (first | refine SGo.seq ?_ | refine SGo.skip ?_ | refine SGo.inBlock ?_ | refine SGo.block ?_ | refine SGo.scope ?_ | refine SGo.inScope ?_ | refine SGo.label ?_ | refine SGo.exit rfl ?_)
  refine SGo.reg ?_
  refine SReg.buildSlice rfl rfl (fun _ _ => by simp only [abuildSlice, ty25, ty4]; rw [if_pos ⟨by rfl, by rfl, by decide⟩]; rfl) fun A => ?_
  refine SReg.go (margins14 (zs := [false, true, true, false, false, false, true]) (cap := 7) (off := 0) rfl (by decide)) rfl rfl (by kernel_rfl) ⟨_, .refl _, .cons_cons _ (.cons _ (.cons _ .slnil))⟩ ?_
  rw [show lm [false, true, true, false, false, false, true] = 1 by decide, show lm ([false, true, true, false, false, false, true] : List Bool).reverse = 0 by decide]
  rintro _ _ ⟨rfl, rfl⟩
  dsimp only [List.cons_append, List.nil_append]
  refine SReg.mv rfl rfl rfl ?_
  refine SReg.ex rfl rfl (fun _ _ => ex_extract rfl rfl) ?_
  refine SReg.ex rfl rfl (fun _ _ => ex_extract rfl rfl) ?_
  refine SReg.as rfl rfl rfl ?_
  refine SReg.as rfl rfl rfl ?_
  refine SReg.nil ?_
  repeat (first | refine SGo.seq ?_ | refine SGo.skip ?_ | refine SGo.inBlock ?_ | refine SGo.block ?_ | refine SGo.scope ?_ | refine SGo.inScope ?_ | refine SGo.label ?_ | refine SGo.exit rfl ?_)
  refine SGo.less (.cons _ (.refl _)) ?_
  refine SGo.has (F := [(1, sv c1 4), (2, .int .i64 0), (3, gv c3 0 3 cs3.length), (4, .int .i64 1), (5, .int .i64 0)]) ⟨rfl, rfl, rfl, rfl, rfl, trivial⟩ ?_
  repeat (first | refine SGo.seq ?_ | refine SGo.skip ?_ | refine SGo.inBlock ?_ | refine SGo.block ?_ | refine SGo.scope ?_ | refine SGo.inScope ?_ | refine SGo.label ?_ | refine SGo.exit rfl ?_)
  refine SGo.reg ?_
  refine SReg.buildSlice rfl rfl (fun _ _ => by simp only [abuildSlice, ty22, ty3]; rw [if_pos ⟨by rfl, by rfl, by decide⟩]; rfl) fun A => ?_
  refine SReg.go (quantize19 (zs := [10, 21, 29, 10]) (T := 7) (cap := 4) (off := 0) rfl (by decide) (by decide) (by decide)) rfl rfl (by kernel_rfl) ⟨_, .refl _, .cons_cons _ (.cons _ (.cons _ .slnil))⟩ ?_
  rw [show qE [10, 21, 29, 10] 7 = 0 by decide]
  rintro v l1 (⟨h, _⟩ | ⟨_, p, hp, c6, rfl, rfl⟩)
  · exact absurd rfl h
  rw [Good.uniq (by decide) hp good_ex]
  clear hp
  dsimp only [List.cons_append, List.nil_append]
  refine SReg.mv rfl rfl rfl ?_
  refine SReg.ex rfl rfl (fun _ _ => ex_extract rfl rfl) ?_
  refine SReg.ex rfl rfl (fun _ _ => ex_extract rfl rfl) ?_
  refine SReg.as rfl rfl rfl ?_
  refine SReg.as rfl rfl rfl ?_
  refine SReg.nil ?_
  repeat (first | refine SGo.seq ?_ | refine SGo.skip ?_ | refine SGo.inBlock ?_ | refine SGo.block ?_ | refine SGo.scope ?_ | refine SGo.inScope ?_ | refine SGo.label ?_ | refine SGo.exit rfl ?_)
  refine SGo.less (.cons_cons _ (.cons _ (.refl _))) ?_
  refine SGo.has (F := [(1, sv c1 4), (2, .int .i64 0), (3, gv c3 0 3 cs3.length), (4, .int .i64 1), (5, .int .i64 0), (6, sv c6 4), (7, .int .i64 0)]) ⟨rfl, rfl, rfl, rfl, rfl, rfl, rfl, trivial⟩ ?_
  repeat (first | refine SGo.seq ?_ | refine SGo.skip ?_ | refine SGo.inBlock ?_ | refine SGo.block ?_ | refine SGo.scope ?_ | refine SGo.inScope ?_ | refine SGo.label ?_ | refine SGo.exit rfl ?_)
  refine SGo.reg ?_
  refine SReg.buildSlice rfl rfl (fun _ _ => by simp only [abuildSlice, ty22, ty3]; rw [if_pos ⟨by rfl, by rfl, by decide⟩]; rfl) fun A => ?_
  refine SReg.go wide25 rfl rfl (by kernel_rfl) ⟨_, .refl _, .cons_cons _ (.cons _ (.cons _ (.cons _ .slnil)))⟩ ?_
  rintro _ _ ⟨c8, rfl, rfl⟩
  dsimp only [List.cons_append, List.nil_append]
  refine SReg.mv rfl rfl rfl ?_
  refine SReg.ex rfl rfl (fun _ _ => ex_extract rfl rfl) ?_
  refine SReg.ex rfl rfl (fun _ _ => ex_extract rfl rfl) ?_
  refine SReg.as rfl rfl rfl ?_
  refine SReg.as rfl rfl rfl ?_
  refine SReg.nil ?_
  repeat (first | refine SGo.seq ?_ | refine SGo.skip ?_ | refine SGo.inBlock ?_ | refine SGo.block ?_ | refine SGo.scope ?_ | refine SGo.inScope ?_ | refine SGo.label ?_ | refine SGo.exit rfl ?_)
  refine SGo.less (.cons_cons _ (.cons _ (.refl _))) ?_
  repeat (first | refine SGo.seq ?_ | refine SGo.skip ?_ | refine SGo.inBlock ?_ | refine SGo.block ?_ | refine SGo.scope ?_ | refine SGo.inScope ?_ | refine SGo.label ?_ | refine SGo.exit rfl ?_)
  refine SGo.reg ?_
  refine SReg.buildSlice rfl rfl (fun _ _ => by simp only [abuildSlice, ty25, ty4]; rw [if_pos ⟨by rfl, by rfl, by decide⟩]; rfl) fun A => ?_
  refine SReg.go (stretch21 (zs := [true, false]) (k := 2) (cap := 2) (off := 0) rfl (by decide)) rfl rfl (by kernel_rfl) ⟨_, .refl _, .cons_cons _ (.cons _ (.cons _ (.cons _ (.cons _ .slnil))))⟩ ?_
  rw [show strP [true, false] 2 = ([true, true, false, false], 0) by decide]
  rintro _ _ ⟨c10, rfl, rfl⟩
  dsimp only [List.cons_append, List.nil_append]
  refine SReg.mv rfl rfl rfl ?_
  refine SReg.ex rfl rfl (fun _ _ => ex_extract rfl rfl) ?_
  refine SReg.ex rfl rfl (fun _ _ => ex_extract rfl rfl) ?_
  refine SReg.as rfl rfl rfl ?_
  refine SReg.as rfl rfl rfl ?_
  refine SReg.nil ?_
  repeat (first | refine SGo.seq ?_ | refine SGo.skip ?_ | refine SGo.inBlock ?_ | refine SGo.block ?_ | refine SGo.scope ?_ | refine SGo.inScope ?_ | refine SGo.label ?_ | refine SGo.exit rfl ?_)
  refine SGo.less (.cons_cons _ (.cons _ (.refl _))) ?_
  refine SGo.has (F := [(1, sv c1 4), (2, .int .i64 0), (3, gv c3 0 3 cs3.length), (4, .int .i64 1), (5, .int .i64 0), (6, sv c6 4), (7, .int .i64 0), (8, sv c8 4), (9, .int .i64 0), (10, sv c10 4), (11, .int .i64 0)]) ⟨rfl, rfl, rfl, rfl, rfl, rfl, rfl, rfl, rfl, rfl, rfl, trivial⟩ ?_
  repeat (first | refine SGo.seq ?_ | refine SGo.skip ?_ | refine SGo.inBlock ?_ | refine SGo.block ?_ | refine SGo.scope ?_ | refine SGo.inScope ?_ | refine SGo.label ?_ | refine SGo.exit rfl ?_)
  refine SGo.reg ?_
  refine SReg.mv rfl rfl rfl ?_
  refine SReg.ex rfl rfl (fun _ _ => by first | exact ex_bool (ex_neq rfl rfl) (by assumption) | exact ex_neq rfl rfl) ?_
  refine SReg.mv rfl rfl rfl ?_
  first | refine SReg.skipG rfl rfl ?_ | (refine SReg.mv rfl rfl rfl ?_)
  first | refine SReg.skipG rfl rfl ?_ | (refine SReg.ex rfl rfl (fun _ _ => by first | exact ex_bool (ex_neq rfl rfl) (by assumption) | exact ex_neq rfl rfl) ?_)
  refine SReg.ex rfl rfl (fun _ _ => by first | exact ex_pickT rfl rfl | exact ex_pickF rfl rfl) ?_
  refine SReg.mv rfl rfl rfl ?_
  first | refine SReg.skipG rfl rfl ?_ | (refine SReg.mv rfl rfl rfl ?_)
  first | refine SReg.skipG rfl rfl ?_ | (refine SReg.ex rfl rfl (fun _ _ => by first | exact ex_bool (ex_neq rfl rfl) (by assumption) | exact ex_neq rfl rfl) ?_)
  refine SReg.ex rfl rfl (fun _ _ => by first | exact ex_pickT rfl rfl | exact ex_pickF rfl rfl) ?_
  refine SReg.mv rfl rfl rfl ?_
  first | refine SReg.skipG rfl rfl ?_ | (refine SReg.mv rfl rfl rfl ?_)
  first | refine SReg.skipG rfl rfl ?_ | (refine SReg.ex rfl rfl (fun _ _ => by first | exact ex_bool (ex_neq rfl rfl) (by assumption) | exact ex_neq rfl rfl) ?_)
  refine SReg.ex rfl rfl (fun _ _ => by first | exact ex_pickT rfl rfl | exact ex_pickF rfl rfl) ?_
  refine SReg.nil ?_
  repeat (first | refine SGo.seq ?_ | refine SGo.skip ?_ | refine SGo.inBlock ?_ | refine SGo.block ?_ | refine SGo.scope ?_ | refine SGo.inScope ?_ | refine SGo.label ?_ | refine SGo.exit rfl ?_)
  refine SGo.condF rfl ?_
  repeat (first | refine SGo.seq ?_ | refine SGo.skip ?_ | refine SGo.inBlock ?_ | refine SGo.block ?_ | refine SGo.scope ?_ | refine SGo.inScope ?_ | refine SGo.label ?_ | refine SGo.exit rfl ?_)
  refine SGo.reg ?_
  refine SReg.mv rfl rfl rfl ?_
  refine SReg.buildSlice rfl rfl (fun _ _ => by simp only [abuildSlice, ty25, ty4]; rw [if_pos ⟨by rfl, by rfl, by decide⟩]; rfl) fun A => ?_
  refine SReg.go (same13 (xs := [true, true, false, true]) (ys := [true, true, false, true]) (cap := 4) (cap' := 4) (off := 0) (off' := 0) rfl rfl (by decide)) rfl rfl (by kernel_rfl) ⟨_, .swap _ _ _, .cons_cons _ (.cons _ (.cons _ (.cons _ (.cons _ (.cons_cons _ .slnil)))))⟩ ?_
  rintro _ _ ⟨rfl, rfl⟩
  dsimp only [List.cons_append, List.nil_append]
  refine SReg.less (.cons _ (.refl _)) ?_
  refine SReg.mv rfl rfl rfl ?_
  first | refine SReg.skipG rfl rfl ?_ | (refine SReg.mv rfl rfl rfl ?_)
  refine SReg.buildSliceG rfl rfl rfl (fun _ _ => by simp only [abuildSlice, ty22, ty3]; rw [if_pos ⟨by rfl, by rfl, by decide⟩]; rfl) fun A => ?_
  refine SReg.goG (ints16 (xs := [2, 3, 1]) (ys := [2, 3, 1]) (cap' := 3) (off := 0) (off' := 0) hz3 rfl (by decide)) rfl rfl rfl (by kernel_rfl) ⟨_, .swap _ _ _, .cons_cons _ (.cons _ (.cons _ (.cons _ (.cons_cons _ (.cons _ .slnil)))))⟩ ?_
  rintro _ _ ⟨rfl, rfl⟩
  dsimp only [List.cons_append, List.nil_append]
  refine SReg.less (.cons _ (.refl _)) ?_
  refine SReg.ex rfl rfl (fun _ _ => by first | exact ex_pickT rfl rfl | exact ex_pickF rfl rfl) ?_
  refine SReg.mv rfl rfl rfl ?_
  first | refine SReg.skipG rfl rfl ?_ | (refine SReg.mv rfl rfl rfl ?_)
  first | refine SReg.skipG rfl rfl ?_ | (refine SReg.ex rfl rfl (fun _ _ => by first | exact ex_bool (ex_eql rfl rfl) (by assumption) | exact ex_eql rfl rfl) ?_)
  refine SReg.ex rfl rfl (fun _ _ => by first | exact ex_pickT rfl rfl | exact ex_pickF rfl rfl) ?_
  refine SReg.mv rfl rfl rfl ?_
  first | refine SReg.skipG rfl rfl ?_ | (refine SReg.mv rfl rfl rfl ?_)
  first | refine SReg.skipG rfl rfl ?_ | (refine SReg.ex rfl rfl (fun _ _ => by first | exact ex_bool (ex_eql rfl rfl) (by assumption) | exact ex_eql rfl rfl) ?_)
  refine SReg.ex rfl rfl (fun _ _ => by first | exact ex_pickT rfl rfl | exact ex_pickF rfl rfl) ?_
  refine SReg.mv rfl rfl rfl ?_
  first | refine SReg.skipG rfl rfl ?_ | (refine SReg.mv rfl rfl rfl ?_)
  refine SReg.buildSliceG rfl rfl rfl (fun _ _ => by simp only [abuildSlice, ty22, ty3]; rw [if_pos ⟨by rfl, by rfl, by decide⟩]; rfl) fun A => ?_
  refine SReg.goG (ints16 (xs := [1, 2, 3, 1]) (ys := [1, 2, 3, 1]) (cap' := 4) (off := 0) (off' := 0) rfl rfl (by decide)) rfl rfl rfl (by kernel_rfl) ⟨_, .swap _ _ _, .cons_cons _ (.cons _ (.cons _ (.cons_cons _ (.cons _ (.cons _ .slnil)))))⟩ ?_
  rintro _ _ ⟨rfl, rfl⟩
  dsimp only [List.cons_append, List.nil_append]
  refine SReg.less (.cons _ (.refl _)) ?_
  refine SReg.ex rfl rfl (fun _ _ => by first | exact ex_pickT rfl rfl | exact ex_pickF rfl rfl) ?_
  refine SReg.mv rfl rfl rfl ?_
  first | refine SReg.skipG rfl rfl ?_ | (refine SReg.mv rfl rfl rfl ?_)
  refine SReg.buildSliceG rfl rfl rfl (fun _ _ => by simp only [abuildSlice, ty25, ty4]; rw [if_pos ⟨by rfl, by rfl, by decide⟩]; rfl) fun A => ?_
  refine SReg.goG (same13 (xs := [false, true, false, true]) (ys := [false, true, false, true]) (cap' := 4) (off := 0) (off' := 0) rfl rfl (by decide)) rfl rfl rfl (by kernel_rfl) ⟨_, .swap _ _ _, .cons_cons _ (.cons _ (.cons_cons _ (.cons _ (.cons _ (.cons _ .slnil)))))⟩ ?_
  rintro _ _ ⟨rfl, rfl⟩
  dsimp only [List.cons_append, List.nil_append]
  refine SReg.less (.cons _ (.refl _)) ?_
  refine SReg.ex rfl rfl (fun _ _ => by first | exact ex_pickT rfl rfl | exact ex_pickF rfl rfl) ?_
  refine SReg.mv rfl rfl rfl ?_
  first | refine SReg.skipG rfl rfl ?_ | (refine SReg.mv rfl rfl rfl ?_)
  refine SReg.buildSliceG rfl rfl rfl (fun _ _ => by simp only [abuildSlice, ty25, ty4]; rw [if_pos ⟨by rfl, by rfl, by decide⟩]; rfl) fun A => ?_
  refine SReg.goG (same13 (xs := [true, true, false, false]) (ys := [true, true, false, false]) (cap' := 4) (off := 0) (off' := 0) rfl rfl (by decide)) rfl rfl rfl (by kernel_rfl) ⟨_, .swap _ _ _, .cons_cons _ (.cons_cons _ (.cons _ (.cons _ (.cons _ (.cons _ .slnil)))))⟩ ?_
  rintro _ _ ⟨rfl, rfl⟩
  dsimp only [List.cons_append, List.nil_append]
  refine SReg.less (.cons _ (.refl _)) ?_
  refine SReg.ex rfl rfl (fun _ _ => by first | exact ex_pickT rfl rfl | exact ex_pickF rfl rfl) ?_
  refine SReg.mv rfl rfl rfl ?_
  refine SReg.buildSliceG rfl rfl rfl (fun _ _ => by simp only [abuildSlice, ty22, ty3]; rw [if_pos ⟨by rfl, by rfl, by decide⟩]; rfl) fun A => ?_
  refine SReg.goG unit26 rfl rfl rfl (by kernel_rfl) ⟨_, .refl _, .cons_cons _ (List.nil_sublist _)⟩ ?_
  rintro _ _ ⟨rfl, rfl⟩
  dsimp only [List.cons_append, List.nil_append]
  first | refine SReg.skipG rfl rfl ?_ | (refine SReg.ex rfl rfl (fun _ _ => by first | exact ex_bool (ex_eql rfl rfl) (by assumption) | exact ex_eql rfl rfl) ?_)
  refine SReg.ex rfl rfl (fun _ _ => by first | exact ex_pickT rfl rfl | exact ex_pickF rfl rfl) ?_
  refine SReg.as rfl rfl rfl ?_
  refine SReg.nil ?_
  repeat (first | refine SGo.seq ?_ | refine SGo.skip ?_ | refine SGo.inBlock ?_ | refine SGo.block ?_ | refine SGo.scope ?_ | refine SGo.inScope ?_ | refine SGo.label ?_ | refine SGo.exit rfl ?_)
  exact SGo.ret Try.func10 (fun τ hτ => ares_tmp rfl ares_nil) fun τ hτ => SRet.mk hτ (List.nil_sublist _) ⟨rfl, rfl⟩
end Go.Abs.Run
