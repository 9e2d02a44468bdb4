/- A part of the proof: contracts of functions of the program, shown by walking through their code in an abstract machine. Condition: none. -/
import Derived.Test.YtipgikhblcfpjaaRunH
import Derived.Test.YtipgikhblcfpjaaAbsGr4
set_option linter.unusedVariables false
set_option linter.unusedSimpArgs false
namespace Go.Abs.Run
open Go Go.Proofs
set_option maxHeartbeats 4000000
set_option maxRecDepth 8000
-- @SEAT 10
theorem gv_cells (c : Option Nat) (off n cap : Nat) : (gv c off n cap).cells.toList = [gv c off n cap] := by cases c <;> rfl
theorem gv_tuple (c : Option Nat) (off n cap : Nat) : isTuple (gv c off n cap) = false := by cases c <;> rfl
theorem gv_size (c : Option Nat) (off n cap : Nat) : (gv c off n cap).cells.size = 1 := by cases c <;> rfl
-- @FN 31
theorem all31 (c : Option Nat) (off n cap : Nat) : SC Try.prog 31 [gv c off n cap] [] fun v l => ∃ B, v = .func (.func 41) #[] #[.pointer (some ⟨B, 0, none⟩)] ∧ l = [(some B, .cells [gv c off n cap] 25 true)] := by
  refine SC.enter Try.func31 rfl (by rw [Try.ntmps31]; simp) fun σ hσ => ?_
  rw [Try.ntmps31]
  repeat (first | refine SGo.seq ?_ | refine SGo.skip ?_ | refine SGo.inBlock ?_ | refine SGo.block ?_ | refine SGo.scope ?_ | refine SGo.inScope ?_ | refine SGo.label ?_ | refine SGo.exit rfl ?_)
  refine SGo.reg ?_
  refine SReg.box rfl rfl (gv_tuple _ _ _ _) (tb rfl) fun B => ?_
  rw [gv_cells]
  refine SReg.as rfl rfl rfl ?_
  refine SReg.nil ?_
  repeat (first | refine SGo.seq ?_ | refine SGo.skip ?_ | refine SGo.inBlock ?_ | refine SGo.block ?_ | refine SGo.scope ?_ | refine SGo.inScope ?_ | refine SGo.label ?_ | refine SGo.exit rfl ?_)
  repeat (first | refine SGo.seq ?_ | refine SGo.skip ?_ | refine SGo.inBlock ?_ | refine SGo.block ?_ | refine SGo.scope ?_ | refine SGo.inScope ?_ | refine SGo.label ?_ | refine SGo.exit rfl ?_)
  refine SGo.reg ?_
  refine SReg.ex rfl rfl (fun _ _ => ex_makeFunc rfl rfl) ?_
  refine SReg.as rfl rfl rfl ?_
  refine SReg.nil ?_
  repeat (first | refine SGo.seq ?_ | refine SGo.skip ?_ | refine SGo.inBlock ?_ | refine SGo.block ?_ | refine SGo.scope ?_ | refine SGo.inScope ?_ | refine SGo.label ?_ | refine SGo.exit rfl ?_)
  exact SGo.ret Try.func31 (fun τ hτ => ares_tmp rfl ares_nil) fun τ hτ => ⟨_, hτ, B, rfl, rfl⟩
/-- Does a run end at an index? -/
def runEnd (row : List Bool) (i : Nat) : Bool := decide (i + 1 = row.length) || decide (row.getD (i + 1) false ≠ row.getD i false)
/-- What Widths has after so many modules: the widths, and where the run begins. -/
def outA (row : List Bool) : Nat → List Int × Nat
  | 0 => ([], 0)
  | i + 1 => if runEnd row i then (if row.getD i false || decide (0 < (outA row i).1.length) then (outA row i).1 ++ [(i : Int) + 1 - ((outA row i).2 : Int)] else (outA row i).1, i + 1) else outA row i
theorem outA_le (row : List Bool) : ∀ i, (outA row i).1.length ≤ i ∧ (outA row i).2 ≤ i
  | 0 => ⟨Nat.le_refl _, Nat.le_refl _⟩
  | i + 1 => by
    have ih := outA_le row i
    simp only [outA]
    split
    · split
      · simp only [List.length_append, List.length_cons, List.length_nil]; omega
      · simp only; omega
    · omega
def trimA (o : List Int) : List Int := o.take (o.length - (o.length + 1) % 2 * min 1 o.length)
theorem bs22 (w : Int) (σ : AHeap) (id : Nat) : abuildSlice Try.prog σ id 22 1 [(0, .int .i64 w)] = some (.slice (some ⟨id, 0, none⟩) 1 1, σ.set id (.cells [.int .i64 w] 3 true)) := abuildSlice_one ty22 ty3 rfl rfl rfl σ id
/-- A slice of numbers is handed back. -/
def RI (w : List Int) (v : Value) (l : SH) : Prop := ∃ c cs, v = gv c 0 w.length cs.length ∧ l = [(c, .cells cs 3 true)] ∧ (cs.drop 0).take w.length = w.map (Value.int .i64) ∧ w.length ≤ cs.length
-- @FN 17
theorem widths17 {c : Option Nat} {off cap : Nat} {cs : List Value} {rw : Bool} {zs : List Bool} (hz : (cs.drop off).take zs.length = zs.map Value.bool) (hl : zs.length ≤ 1000000000) :
    SC Try.prog 17 [gv c off zs.length cap] [(c, .cells cs 4 rw)] (RI (trimA (outA zs zs.length).1)) := by
  refine SC.enter Try.func17 rfl (by rw [Try.ntmps17]; simp) fun σ hσ => ?_
  rw [Try.ntmps17]
  repeat (first | refine SGo.seq ?_ | refine SGo.skip ?_ | refine SGo.inBlock ?_ | refine SGo.block ?_ | refine SGo.scope ?_ | refine SGo.inScope ?_ | refine SGo.label ?_ | refine SGo.exit rfl ?_)
  refine SGo.reg ?_
  refine SReg.as rfl rfl rfl ?_
  refine SReg.nil ?_
  repeat (first | refine SGo.seq ?_ | refine SGo.skip ?_ | refine SGo.inBlock ?_ | refine SGo.block ?_ | refine SGo.scope ?_ | refine SGo.inScope ?_ | refine SGo.label ?_ | refine SGo.exit rfl ?_)
  repeat (first | refine SGo.seq ?_ | refine SGo.skip ?_ | refine SGo.inBlock ?_ | refine SGo.block ?_ | refine SGo.scope ?_ | refine SGo.inScope ?_ | refine SGo.label ?_ | refine SGo.exit rfl ?_)
  refine SGo.reg ?_
  refine SReg.alloc rfl ty22 rfl fun O => ?_
  refine SReg.nil ?_
  repeat (first | refine SGo.seq ?_ | refine SGo.skip ?_ | refine SGo.inBlock ?_ | refine SGo.block ?_ | refine SGo.scope ?_ | refine SGo.inScope ?_ | refine SGo.label ?_ | refine SGo.exit rfl ?_)
  repeat (first | refine SGo.seq ?_ | refine SGo.skip ?_ | refine SGo.inBlock ?_ | refine SGo.block ?_ | refine SGo.scope ?_ | refine SGo.inScope ?_ | refine SGo.label ?_ | refine SGo.exit rfl ?_)
  refine SGo.reg ?_
  refine SReg.mv rfl rfl rfl ?_
  refine SReg.go (all31 c off zs.length cap) rfl rfl (by kernel_rfl) ⟨_, .refl _, List.nil_sublist _⟩ ?_
  rintro _ _ ⟨B, rfl, rfl⟩
  dsimp only [List.cons_append, List.nil_append]
  refine SReg.nil ?_
  repeat (first | refine SGo.seq ?_ | refine SGo.skip ?_ | refine SGo.inBlock ?_ | refine SGo.block ?_ | refine SGo.scope ?_ | refine SGo.inScope ?_ | refine SGo.label ?_ | refine SGo.exit rfl ?_)
  refine SGo.has (F := [(3, .pointer (some ⟨O, 0, none⟩)), (7, .func (.func 41) #[] #[.pointer (some ⟨B, 0, none⟩)])]) ⟨rfl, rfl, trivial⟩ ?_
  refine SGo.nilE 3 true ?_
  refine SGo.rangeFunc rfl (by kernel_rfl) Try.func41 rfl (by rw [Try.ntmps41]; simp) fun L => ?_
  rw [Try.ntmps41]
  -- @FN 41
  refine SGo.has (F := [(0, .func (.yield L) #[] #[]), (1, .pointer (some ⟨B, 0, none⟩))]) ⟨rfl, rfl, trivial⟩ ?_
  repeat (first | refine SGo.seq ?_ | refine SGo.skip ?_ | refine SGo.inBlock ?_ | refine SGo.block ?_ | refine SGo.scope ?_ | refine SGo.inScope ?_ | refine SGo.label ?_ | refine SGo.exit rfl ?_)
  refine SGo.reg ?_
  refine SReg.as rfl rfl rfl ?_
  refine SReg.nil ?_
  repeat (first | refine SGo.seq ?_ | refine SGo.skip ?_ | refine SGo.inBlock ?_ | refine SGo.block ?_ | refine SGo.scope ?_ | refine SGo.inScope ?_ | refine SGo.label ?_ | refine SGo.exit rfl ?_)
  repeat (first | refine SGo.seq ?_ | refine SGo.skip ?_ | refine SGo.inBlock ?_ | refine SGo.block ?_ | refine SGo.scope ?_ | refine SGo.inScope ?_ | refine SGo.label ?_ | refine SGo.exit rfl ?_)
  refine SGo.reg ?_
  refine SReg.ld rfl rfl rfl (by first | exact sld_cell (tf (by rfl)) rfl (by first | assumption | rfl) | exact sld_sub (d := (0 : Int)) (by assumption) (tf (by rfl)) rfl rfl (by omega) | exact sld_at (0 : Int) (tf (by rfl)) rfl rfl (by omega) | exact sld_sub (d := false) (by assumption) (tf (by rfl)) rfl rfl (by omega) | exact sld_at false (tf (by rfl)) rfl rfl (by omega) | exact sld_all (tf (by rfl)) rfl (by first | rfl | (simp; done))) ?_
  refine SReg.valG rfl rfl (sx_lenG rfl (tf (by rfl)) (by first | exact hz_nil (by assumption) | exact map_nil | exact len_nil (by first | assumption | rfl | (simp; done)))) ?_
  refine SReg.mv rfl rfl rfl ?_
  refine SReg.nil ?_
  repeat (first | refine SGo.seq ?_ | refine SGo.skip ?_ | refine SGo.inBlock ?_ | refine SGo.block ?_ | refine SGo.scope ?_ | refine SGo.inScope ?_ | refine SGo.label ?_ | refine SGo.exit rfl ?_)
  refine SGo.loopI (ι := Nat × Option Nat) (F := fun x => [(0, .func (.yield L) #[] #[]), (1, .pointer (some ⟨B, 0, none⟩)), (3, .int .i64 ((outA zs x.1).2 : Nat)), (6, .int .i64 (zs.length : Nat)), (7, .int .i64 (x.1 : Nat))]) (O := fun _ => [(c, .cells cs 4 rw)])
    (l0 := fun x => [(some L, .loop .ready none 17 33 [(3, .pointer (some ⟨O, 0, none⟩)), (7, .func (.func 41) #[] #[.pointer (some ⟨B, 0, none⟩)])] _ _ _), (x.2, .cells ((outA zs x.1).1.map (Value.int .i64)) 3 true), (some B, .cells [gv c off zs.length cap] 25 true), (some O, .cells [sv x.2 (outA zs x.1).1.length] 22 true)])
    (I := fun x => x.1 ≤ zs.length) (μ := fun x => zs.length - x.1) ?_ (x0 := (0, none)) (Nat.zero_le _) ⟨rfl, rfl, rfl, rfl, rfl, trivial⟩ rfl rfl
  rintro ⟨i, c'⟩ hi next
  simp only at hi ⊢
  have hle := outA_le zs i
  repeat (first | refine SGo.seq ?_ | refine SGo.skip ?_ | refine SGo.inBlock ?_ | refine SGo.block ?_ | refine SGo.scope ?_ | refine SGo.inScope ?_ | refine SGo.label ?_ | refine SGo.exit rfl ?_)
  refine SGo.reg ?_
  refine SReg.ex rfl rfl (fun _ _ => by first | exact ex_bool (ex_lss rfl rfl) (by assumption) | exact ex_lss rfl rfl) ?_
  refine SReg.nil ?_
  repeat (first | refine SGo.seq ?_ | refine SGo.skip ?_ | refine SGo.inBlock ?_ | refine SGo.block ?_ | refine SGo.scope ?_ | refine SGo.inScope ?_ | refine SGo.label ?_ | refine SGo.exit rfl ?_)
  refine SGo.condD rfl (fun h => ?_) (fun h => ?_)
  · have hi' : i < zs.length := by omega
    repeat (first | refine SGo.seq ?_ | refine SGo.skip ?_ | refine SGo.inBlock ?_ | refine SGo.block ?_ | refine SGo.scope ?_ | refine SGo.inScope ?_ | refine SGo.label ?_ | refine SGo.exit rfl ?_)
    refine SGo.reg ?_
    refine SReg.mv rfl rfl rfl ?_
    refine SReg.as rfl rfl rfl ?_
    refine SReg.nil ?_
    repeat (first | refine SGo.seq ?_ | refine SGo.skip ?_ | refine SGo.inBlock ?_ | refine SGo.block ?_ | refine SGo.scope ?_ | refine SGo.inScope ?_ | refine SGo.label ?_ | refine SGo.exit rfl ?_)
    -- @EXTRA ex_bin rfl rfl (neqB _ _)
    repeat (first | refine SGo.seq ?_ | refine SGo.skip ?_ | refine SGo.inBlock ?_ | refine SGo.block ?_ | refine SGo.scope ?_ | refine SGo.inScope ?_ | refine SGo.label ?_ | refine SGo.exit rfl ?_)
    refine SGo.draw [] [0, 1, 2, 3, 4, 5, 6, 7, 8, 9, 10, 11, 12, 13, 14, 15, 16] mixed (by kernel_rfl) ?_
    refine SDW.readL rfl rfl rfl rfl (sx_of fun _ _ => ex_move rfl) ?_
    refine SDW.readL rfl rfl rfl rfl (sx_of (fun _ _ => by first | exact ex_add rfl rfl (by first | assumption | omega | decide) | exact ex_bin rfl rfl (neqB _ _))) ?_
    refine SDW.readL rfl rfl rfl rfl (sx_load rfl (by first | exact sld_cell (tf (by rfl)) rfl (by first | assumption | rfl) | exact sld_sub (d := (0 : Int)) (by assumption) (tf (by rfl)) rfl rfl (by omega) | exact sld_at (0 : Int) (tf (by rfl)) rfl rfl (by omega) | exact sld_sub (d := false) (by assumption) (tf (by rfl)) rfl rfl (by omega) | exact sld_at false (tf (by rfl)) rfl rfl (by omega) | exact sld_all (tf (by rfl)) rfl (by first | rfl | (simp; done)))) ?_
    refine SDW.readL rfl rfl rfl rfl (sx_lenG rfl (tf (by rfl)) (by first | exact hz_nil (by assumption) | exact map_nil | exact len_nil (by first | assumption | rfl | (simp; done)))) ?_
    refine SDW.readL rfl rfl rfl rfl (sx_of (fun _ _ => by first | exact ex_bool (ex_eql rfl rfl) (by assumption) | exact ex_eql rfl rfl | exact ex_bin rfl rfl (neqB _ _))) ?_
    refine SDW.readL rfl rfl rfl rfl (sx_of fun _ _ => ex_move rfl) ?_
    refine SDW.join (fun fr' => Has [(0, .func (.yield L) #[] #[]), (1, .pointer (some ⟨B, 0, none⟩)), (3, .int .i64 ((outA zs i).2 : Nat)), (4, .int .i64 (i : Nat)), (6, .int .i64 (zs.length : Nat)), (7, .int .i64 (i : Nat)), (26, .bool (runEnd zs i))] fr') ?_ fun nx => ?_
    rotate_left
    · cases g : decide (((i : Nat) : Int) + 1 = (zs.length : Int)) with
      | true =>
        have g' : i + 1 = zs.length := by have := of_decide_eq_true g; omega
        first | refine SDW.skipL rfl rfl rfl ?_ | (refine SDW.readL rfl rfl rfl rfl (sx_load rfl (by first | exact sld_cell (tf (by rfl)) rfl (by first | assumption | rfl) | exact sld_sub (d := (0 : Int)) (by assumption) (tf (by rfl)) rfl rfl (by omega) | exact sld_at (0 : Int) (tf (by rfl)) rfl rfl (by omega) | exact sld_sub (d := false) (by assumption) (tf (by rfl)) rfl rfl (by omega) | exact sld_at false (tf (by rfl)) rfl rfl (by omega) | exact sld_all (tf (by rfl)) rfl (by first | rfl | (simp; done)))) ?_)
        first | refine SDW.skipL rfl rfl rfl ?_ | (refine SDW.readL rfl rfl rfl rfl (sx_of fun _ _ => ex_move rfl) ?_)
        first | refine SDW.skipL rfl rfl rfl ?_ | (refine SDW.readL rfl rfl rfl rfl (sx_of (fun _ _ => by first | exact ex_add rfl rfl (by first | assumption | omega | decide) | exact ex_bin rfl rfl (neqB _ _))) ?_)
        first | refine SDW.skipL rfl rfl rfl ?_ | (refine SDW.idxL rfl rfl rfl rfl rfl rfl (tf (by rfl)) (tf (by rfl)) (by first | assumption | rfl) (by omega) (by first | exact hz_nil (by assumption) | exact map_nil | exact len_nil (by first | assumption | rfl | (simp; done))) (fun _ hidx => ?_); cases hidx)
        first | refine SDW.skipL rfl rfl rfl ?_ | (refine SDW.readL rfl rfl rfl rfl (sx_load rfl (by first | exact sld_cell (tf (by rfl)) rfl (by first | assumption | rfl) | exact sld_sub (d := (0 : Int)) (by assumption) (tf (by rfl)) rfl rfl (by omega) | exact sld_at (0 : Int) (tf (by rfl)) rfl rfl (by omega) | exact sld_sub (d := false) (by assumption) (tf (by rfl)) rfl rfl (by omega) | exact sld_at false (tf (by rfl)) rfl rfl (by omega) | exact sld_all (tf (by rfl)) rfl (by first | rfl | (simp; done)))) ?_)
        first | refine SDW.skipL rfl rfl rfl ?_ | (refine SDW.readL rfl rfl rfl rfl (sx_load rfl (by first | exact sld_cell (tf (by rfl)) rfl (by first | assumption | rfl) | exact sld_sub (d := (0 : Int)) (by assumption) (tf (by rfl)) rfl rfl (by omega) | exact sld_at (0 : Int) (tf (by rfl)) rfl rfl (by omega) | exact sld_sub (d := false) (by assumption) (tf (by rfl)) rfl rfl (by omega) | exact sld_at false (tf (by rfl)) rfl rfl (by omega) | exact sld_all (tf (by rfl)) rfl (by first | rfl | (simp; done)))) ?_)
        first | refine SDW.skipL rfl rfl rfl ?_ | (refine SDW.readL rfl rfl rfl rfl (sx_of fun _ _ => ex_move rfl) ?_)
        first | refine SDW.skipL rfl rfl rfl ?_ | (refine SDW.idxL rfl rfl rfl rfl rfl rfl (tf (by rfl)) (tf (by rfl)) (by first | assumption | rfl) (by omega) (by first | exact hz_nil (by assumption) | exact map_nil | exact len_nil (by first | assumption | rfl | (simp; done))) (fun _ hidx => ?_); cases hidx)
        first | refine SDW.skipL rfl rfl rfl ?_ | (refine SDW.readL rfl rfl rfl rfl (sx_load rfl (by first | exact sld_cell (tf (by rfl)) rfl (by first | assumption | rfl) | exact sld_sub (d := (0 : Int)) (by assumption) (tf (by rfl)) rfl rfl (by omega) | exact sld_at (0 : Int) (tf (by rfl)) rfl rfl (by omega) | exact sld_sub (d := false) (by assumption) (tf (by rfl)) rfl rfl (by omega) | exact sld_at false (tf (by rfl)) rfl rfl (by omega) | exact sld_all (tf (by rfl)) rfl (by first | rfl | (simp; done)))) ?_)
        first | refine SDW.skipL rfl rfl rfl ?_ | (refine SDW.readL rfl rfl rfl rfl (sx_of (fun _ _ => by first | exact ex_bool (ex_neq rfl rfl) (by assumption) | exact ex_neq rfl rfl | exact ex_bin rfl rfl (neqB _ _))) ?_)
        refine SDW.readL rfl rfl rfl rfl (sx_of (fun _ _ => by first | exact ex_pickT rfl rfl | exact ex_pickF rfl rfl)) ?_
        refine SDW.done ?_
        repeat (first | refine SGo.seq ?_ | refine SGo.skip ?_ | refine SGo.inBlock ?_ | refine SGo.block ?_ | refine SGo.scope ?_ | refine SGo.inScope ?_ | refine SGo.label ?_ | refine SGo.exit rfl ?_)
        exact nx _ ⟨rfl, rfl, rfl, rfl, rfl, rfl, by rw [runEnd, decide_eq_true g', Bool.true_or]; rfl, trivial⟩
      | false =>
        have g' : ¬ i + 1 = zs.length := by have := of_decide_eq_false g; omega
        have hi1 : ((i : Nat) : Int) + 1 = ((i + 1 : Nat) : Int) := by omega
        first | refine SDW.skipL rfl rfl rfl ?_ | (refine SDW.readL rfl rfl rfl rfl (sx_load rfl (by first | exact sld_cell (tf (by rfl)) rfl (by first | assumption | rfl) | exact sld_sub (d := (0 : Int)) (by assumption) (tf (by rfl)) rfl rfl (by omega) | exact sld_at (0 : Int) (tf (by rfl)) rfl rfl (by omega) | exact sld_sub (d := false) (by assumption) (tf (by rfl)) rfl rfl (by omega) | exact sld_at false (tf (by rfl)) rfl rfl (by omega) | exact sld_all (tf (by rfl)) rfl (by first | rfl | (simp; done)))) ?_)
        first | refine SDW.skipL rfl rfl rfl ?_ | (refine SDW.readL rfl rfl rfl rfl (sx_of fun _ _ => ex_move rfl) ?_)
        first | refine SDW.skipL rfl rfl rfl ?_ | (refine SDW.readL rfl rfl rfl rfl (sx_of (fun _ _ => by first | exact ex_add rfl rfl (by first | assumption | omega | decide) | exact ex_bin rfl rfl (neqB _ _))) ?_)
        first | refine SDW.skipL rfl rfl rfl ?_ | (refine SDW.idxL rfl rfl rfl rfl rfl rfl (tf (by rfl)) (tf (by rfl)) (by first | assumption | rfl) (by omega) (by first | exact hz_nil (by assumption) | exact map_nil | exact len_nil (by first | assumption | rfl | (simp; done))) (fun _ hidx => ?_); cases hidx)
        first | refine SDW.skipL rfl rfl rfl ?_ | (refine SDW.readL rfl rfl rfl rfl (sx_load rfl (by first | exact sld_cell (tf (by rfl)) rfl (by first | assumption | rfl) | exact sld_sub (d := (0 : Int)) (by assumption) (tf (by rfl)) rfl rfl (by omega) | exact sld_at (0 : Int) (tf (by rfl)) rfl rfl (by omega) | exact sld_sub (d := false) (by assumption) (tf (by rfl)) rfl rfl (by omega) | exact sld_at false (tf (by rfl)) rfl rfl (by omega) | exact sld_all (tf (by rfl)) rfl (by first | rfl | (simp; done)))) ?_)
        first | refine SDW.skipL rfl rfl rfl ?_ | (refine SDW.readL rfl rfl rfl rfl (sx_load rfl (by first | exact sld_cell (tf (by rfl)) rfl (by first | assumption | rfl) | exact sld_sub (d := (0 : Int)) (by assumption) (tf (by rfl)) rfl rfl (by omega) | exact sld_at (0 : Int) (tf (by rfl)) rfl rfl (by omega) | exact sld_sub (d := false) (by assumption) (tf (by rfl)) rfl rfl (by omega) | exact sld_at false (tf (by rfl)) rfl rfl (by omega) | exact sld_all (tf (by rfl)) rfl (by first | rfl | (simp; done)))) ?_)
        first | refine SDW.skipL rfl rfl rfl ?_ | (refine SDW.readL rfl rfl rfl rfl (sx_of fun _ _ => ex_move rfl) ?_)
        first | refine SDW.skipL rfl rfl rfl ?_ | (refine SDW.idxL rfl rfl rfl rfl rfl rfl (tf (by rfl)) (tf (by rfl)) (by first | assumption | rfl) (by omega) (by first | exact hz_nil (by assumption) | exact map_nil | exact len_nil (by first | assumption | rfl | (simp; done))) (fun _ hidx => ?_); cases hidx)
        first | refine SDW.skipL rfl rfl rfl ?_ | (refine SDW.readL rfl rfl rfl rfl (sx_load rfl (by first | exact sld_cell (tf (by rfl)) rfl (by first | assumption | rfl) | exact sld_sub (d := (0 : Int)) (by assumption) (tf (by rfl)) rfl rfl (by omega) | exact sld_at (0 : Int) (tf (by rfl)) rfl rfl (by omega) | exact sld_sub (d := false) (by assumption) (tf (by rfl)) rfl rfl (by omega) | exact sld_at false (tf (by rfl)) rfl rfl (by omega) | exact sld_all (tf (by rfl)) rfl (by first | rfl | (simp; done)))) ?_)
        first | refine SDW.skipL rfl rfl rfl ?_ | (refine SDW.readL rfl rfl rfl rfl (sx_of (fun _ _ => by first | exact ex_bool (ex_neq rfl rfl) (by assumption) | exact ex_neq rfl rfl | exact ex_bin rfl rfl (neqB _ _))) ?_)
        refine SDW.readL rfl rfl rfl rfl (sx_of (fun _ _ => by first | exact ex_pickT rfl rfl | exact ex_pickF rfl rfl)) ?_
        refine SDW.done ?_
        repeat (first | refine SGo.seq ?_ | refine SGo.skip ?_ | refine SGo.inBlock ?_ | refine SGo.block ?_ | refine SGo.scope ?_ | refine SGo.inScope ?_ | refine SGo.label ?_ | refine SGo.exit rfl ?_)
        exact nx _ ⟨rfl, rfl, rfl, rfl, rfl, rfl, by rw [runEnd, decide_eq_false g', Bool.false_or]; rfl, trivial⟩
    intro fr' hF
    refine SGo.has hF ?_
    refine SGo.condB rfl (fun hb => ?_) (fun hb => ?_)
    · repeat (first | refine SGo.seq ?_ | refine SGo.skip ?_ | refine SGo.inBlock ?_ | refine SGo.block ?_ | refine SGo.scope ?_ | refine SGo.inScope ?_ | refine SGo.label ?_ | refine SGo.exit rfl ?_)
      refine SGo.reg ?_
      refine SReg.mv rfl rfl rfl ?_
      refine SReg.ld rfl rfl rfl (by first | exact sld_cell (tf (by rfl)) rfl (by first | assumption | rfl) | exact sld_sub (d := (0 : Int)) (by assumption) (tf (by rfl)) rfl rfl (by omega) | exact sld_at (0 : Int) (tf (by rfl)) rfl rfl (by omega) | exact sld_sub (d := false) (by assumption) (tf (by rfl)) rfl rfl (by omega) | exact sld_at false (tf (by rfl)) rfl rfl (by omega) | exact sld_all (tf (by rfl)) rfl (by first | rfl | (simp; done))) ?_
      refine SReg.mv rfl rfl rfl ?_
      refine SReg.idxG rfl rfl rfl rfl (tf (by rfl)) (tf (by rfl)) (by first | assumption | rfl) (by omega) (by first | exact hz_nil (by assumption) | exact map_nil | exact len_nil (by first | assumption | rfl | (simp; done))) (fun _ hidx => ?_)
      cases hidx
      refine SReg.ld rfl rfl rfl (by first | exact sld_cell (tf (by rfl)) rfl (by first | assumption | rfl) | exact sld_sub (d := (0 : Int)) (by assumption) (tf (by rfl)) rfl rfl (by omega) | exact sld_at (0 : Int) (tf (by rfl)) rfl rfl (by omega) | exact sld_sub (d := false) (by assumption) (tf (by rfl)) rfl rfl (by omega) | exact sld_at false (tf (by rfl)) rfl rfl (by omega) | exact sld_all (tf (by rfl)) rfl (by first | rfl | (simp; done))) ?_
      refine SReg.mv rfl rfl rfl ?_
      refine SReg.ex rfl rfl (fun _ _ => by first | exact ex_add rfl rfl (by first | assumption | omega | decide) | exact ex_bin rfl rfl (neqB _ _)) ?_
      refine SReg.mv rfl rfl rfl ?_
      refine SReg.ex rfl rfl (fun _ _ => by first | exact ex_sub rfl rfl (by first | assumption | omega | decide) | exact ex_bin rfl rfl (neqB _ _)) ?_
      refine SReg.yield rfl rfl rfl rfl rfl fun l0 => ?_
      refine SGo.has (F := [(3, .pointer (some ⟨O, 0, none⟩)), (8, .bool (zs.getD i false)), (9, .int .i64 ((i : Int) + 1 - ((outA zs i).2 : Int)))]) ⟨rfl, rfl, rfl, trivial⟩ ?_
      -- @FN 17
      repeat (first | refine SGo.seq ?_ | refine SGo.skip ?_ | refine SGo.inBlock ?_ | refine SGo.block ?_ | refine SGo.scope ?_ | refine SGo.inScope ?_ | refine SGo.label ?_ | refine SGo.exit rfl ?_)
      refine SGo.reg ?_
      refine SReg.as rfl rfl rfl ?_
      refine SReg.nil ?_
      repeat (first | refine SGo.seq ?_ | refine SGo.skip ?_ | refine SGo.inBlock ?_ | refine SGo.block ?_ | refine SGo.scope ?_ | refine SGo.inScope ?_ | refine SGo.label ?_ | refine SGo.exit rfl ?_)
      repeat (first | refine SGo.seq ?_ | refine SGo.skip ?_ | refine SGo.inBlock ?_ | refine SGo.block ?_ | refine SGo.scope ?_ | refine SGo.inScope ?_ | refine SGo.label ?_ | refine SGo.exit rfl ?_)
      refine SGo.reg ?_
      refine SReg.as rfl rfl rfl ?_
      refine SReg.nil ?_
      repeat (first | refine SGo.seq ?_ | refine SGo.skip ?_ | refine SGo.inBlock ?_ | refine SGo.block ?_ | refine SGo.scope ?_ | refine SGo.inScope ?_ | refine SGo.label ?_ | refine SGo.exit rfl ?_)
      refine SGo.beginRound (.new (.head _)) ?_
      repeat (first | refine SGo.seq ?_ | refine SGo.skip ?_ | refine SGo.inBlock ?_ | refine SGo.block ?_ | refine SGo.scope ?_ | refine SGo.inScope ?_ | refine SGo.label ?_ | refine SGo.exit rfl ?_)
      refine SGo.reg ?_
      refine SReg.mv rfl rfl rfl ?_
      refine SReg.mv rfl rfl rfl ?_
      refine SReg.join (fun fr' => Has [(3, .pointer (some ⟨O, 0, none⟩)), (5, .int .i64 ((i : Int) + 1 - ((outA zs i).2 : Int))), (15, .bool (zs.getD i false || decide (0 < (outA zs i).1.length)))] fr') ?_ fun nx => ?_
      rotate_left
      · revert nx
        cases g : zs.getD i false with
        | true =>
          intro nx
          first | refine SReg.skipG rfl rfl ?_ | (refine SReg.ld rfl rfl rfl (by first | exact sld_cell (tf (by rfl)) rfl (by first | assumption | rfl) | exact sld_sub (d := (0 : Int)) (by assumption) (tf (by rfl)) rfl rfl (by omega) | exact sld_at (0 : Int) (tf (by rfl)) rfl rfl (by omega) | exact sld_sub (d := false) (by assumption) (tf (by rfl)) rfl rfl (by omega) | exact sld_at false (tf (by rfl)) rfl rfl (by omega) | exact sld_all (tf (by rfl)) rfl (by first | rfl | (simp; done))) ?_)
          first | refine SReg.skipG rfl rfl ?_ | (refine SReg.valG rfl rfl (sx_lenG rfl (tf (by rfl)) (by first | exact hz_nil (by assumption) | exact map_nil | exact len_nil (by first | assumption | rfl | (simp; done)))) ?_)
          first | refine SReg.skipG rfl rfl ?_ | (refine SReg.ex rfl rfl (fun _ _ => by first | exact ex_bool (ex_gtr rfl rfl) (by assumption) | exact ex_gtr rfl rfl) ?_)
          refine SReg.ex rfl rfl (fun _ _ => by first | exact ex_pickT rfl rfl | exact ex_pickF rfl rfl) ?_
          refine SReg.nil ?_
          repeat (first | refine SGo.seq ?_ | refine SGo.skip ?_ | refine SGo.inBlock ?_ | refine SGo.block ?_ | refine SGo.scope ?_ | refine SGo.inScope ?_ | refine SGo.label ?_ | refine SGo.exit rfl ?_)
          exact nx _ ⟨rfl, rfl, rfl, trivial⟩
        | false =>
          intro nx
          first | refine SReg.skipG rfl rfl ?_ | (refine SReg.ld rfl rfl rfl (by first | exact sld_cell (tf (by rfl)) rfl (by first | assumption | rfl) | exact sld_sub (d := (0 : Int)) (by assumption) (tf (by rfl)) rfl rfl (by omega) | exact sld_at (0 : Int) (tf (by rfl)) rfl rfl (by omega) | exact sld_sub (d := false) (by assumption) (tf (by rfl)) rfl rfl (by omega) | exact sld_at false (tf (by rfl)) rfl rfl (by omega) | exact sld_all (tf (by rfl)) rfl (by first | rfl | (simp; done))) ?_)
          first | refine SReg.skipG rfl rfl ?_ | (refine SReg.valG rfl rfl (sx_lenG rfl (tf (by rfl)) (by first | exact hz_nil (by assumption) | exact map_nil | exact len_nil (by first | assumption | rfl | (simp; done)))) ?_)
          first | refine SReg.skipG rfl rfl ?_ | (refine SReg.ex rfl rfl (fun _ _ => by first | exact ex_bool (ex_gtr rfl rfl) (by assumption) | exact ex_gtr rfl rfl) ?_)
          refine SReg.ex rfl rfl (fun _ _ => by first | exact ex_pickT rfl rfl | exact ex_pickF rfl rfl) ?_
          refine SReg.nil ?_
          repeat (first | refine SGo.seq ?_ | refine SGo.skip ?_ | refine SGo.inBlock ?_ | refine SGo.block ?_ | refine SGo.scope ?_ | refine SGo.inScope ?_ | refine SGo.label ?_ | refine SGo.exit rfl ?_)
          refine nx _ ⟨rfl, rfl, ?_, trivial⟩
          show some (Value.bool _) = some (Value.bool (decide _))
          congr 2
          exact decide_eq_decide.2 (by omega)
      intro fr2 hF2
      refine SGo.has hF2 ?_
      refine SGo.condB rfl (fun hb2 => ?_) (fun hb2 => ?_)
      · have e1 : outA zs (i + 1) = ((outA zs i).1 ++ [(i : Int) + 1 - ((outA zs i).2 : Int)], i + 1) := by simp only [outA, hb, hb2, if_true]
        repeat (first | refine SGo.seq ?_ | refine SGo.skip ?_ | refine SGo.inBlock ?_ | refine SGo.block ?_ | refine SGo.scope ?_ | refine SGo.inScope ?_ | refine SGo.label ?_ | refine SGo.exit rfl ?_)
        refine SGo.reg ?_
        refine SReg.ld rfl rfl rfl (by first | exact sld_cell (tf (by rfl)) rfl (by first | assumption | rfl) | exact sld_sub (d := (0 : Int)) (by assumption) (tf (by rfl)) rfl rfl (by omega) | exact sld_at (0 : Int) (tf (by rfl)) rfl rfl (by omega) | exact sld_sub (d := false) (by assumption) (tf (by rfl)) rfl rfl (by omega) | exact sld_at false (tf (by rfl)) rfl rfl (by omega) | exact sld_all (tf (by rfl)) rfl (by first | rfl | (simp; done))) ?_
        refine SReg.mv rfl rfl rfl ?_
        refine SReg.buildSlice rfl rfl (bs22 _) fun A => ?_
        refine SReg.append (m := 1) (news := [.int .i64 ((i : Int) + 1 - ((outA zs i).2 : Int))]) (L := fun c3 => [(some A, _), _, (c3, _), _, _]) rfl rfl (fun c2 => .tail _ (.tail _ (.head _))) ty22 ty3 rfl (fun τ hτ => asrc_sv hτ ty22 (by simp) (by omega)) (by simp) (by simp) (by omega) (by omega) (by omega) fun c3 => ?_
        refine SReg.store rfl rfl (.new (.tail _ (.tail _ (.tail _ (.tail _ (.head _)))))) ty22 (gv_size _ _ _ _) (by simp) (gv_tuple _ _ _ _) ?_
        rw [gv_cells]
        refine SReg.nil ?_
        repeat (first | refine SGo.seq ?_ | refine SGo.skip ?_ | refine SGo.inBlock ?_ | refine SGo.block ?_ | refine SGo.scope ?_ | refine SGo.inScope ?_ | refine SGo.label ?_ | refine SGo.exit rfl ?_)
        refine SGo.less (l' := [(some L, .loop .busy none 17 33 _ _ _ _), (c3, .cells ((outA zs (i + 1)).1.map (Value.int .i64)) 3 true), (some B, _), (some O, .cells [sv c3 (outA zs (i + 1)).1.length] 22 true)]) (by rw [e1]; simp only [List.map_append, List.length_append]; exact .cons _ (.refl _)) ?_
        refine SGo.roundEnd (.new (.head _)) (SReg.out ?_)
        refine SReg.has (F := [(0, .func (.yield L) #[] #[]), (1, .pointer (some ⟨B, 0, none⟩)), (4, .int .i64 (i : Nat)), (6, .int .i64 (zs.length : Nat)), (7, .int .i64 (i : Nat)), (36, .bool true)]) ⟨rfl, rfl, rfl, rfl, rfl, rfl, trivial⟩ ?_
        -- @FN 41
        refine SReg.ex rfl rfl (fun _ _ => by first | exact ex_bool (ex_not rfl) (by assumption) | exact ex_not rfl) ?_
        refine SReg.nil ?_
        repeat (first | refine SGo.seq ?_ | refine SGo.skip ?_ | refine SGo.inBlock ?_ | refine SGo.block ?_ | refine SGo.scope ?_ | refine SGo.inScope ?_ | refine SGo.label ?_ | refine SGo.exit rfl ?_)
        refine SGo.condF rfl ?_
        repeat (first | refine SGo.seq ?_ | refine SGo.skip ?_ | refine SGo.inBlock ?_ | refine SGo.block ?_ | refine SGo.scope ?_ | refine SGo.inScope ?_ | refine SGo.label ?_ | refine SGo.exit rfl ?_)
        refine SGo.reg ?_
        refine SReg.mv rfl rfl rfl ?_
        refine SReg.ex rfl rfl (fun _ _ => ex_add rfl rfl (by first | assumption | omega | decide)) ?_
        refine SReg.as rfl rfl rfl ?_
        refine SReg.nil ?_
        repeat (first | refine SGo.seq ?_ | refine SGo.skip ?_ | refine SGo.inBlock ?_ | refine SGo.block ?_ | refine SGo.scope ?_ | refine SGo.inScope ?_ | refine SGo.label ?_ | refine SGo.exit rfl ?_)
        repeat (first | refine SGo.seq ?_ | refine SGo.skip ?_ | refine SGo.inBlock ?_ | refine SGo.block ?_ | refine SGo.scope ?_ | refine SGo.inScope ?_ | refine SGo.label ?_ | refine SGo.exit rfl ?_)
        refine SGo.reg ?_
        refine SReg.ex rfl rfl (fun _ _ => ex_add rfl rfl (by first | assumption | omega | decide)) ?_
        refine SReg.mv rfl rfl rfl ?_
        refine SReg.nil ?_
        repeat (first | refine SGo.seq ?_ | refine SGo.skip ?_ | refine SGo.inBlock ?_ | refine SGo.block ?_ | refine SGo.scope ?_ | refine SGo.inScope ?_ | refine SGo.label ?_ | refine SGo.exit rfl ?_)
        refine next (i + 1, c3) _ (by simp only; omega) (by simp only; omega) ⟨rfl, rfl, ?_, rfl, rfl, trivial⟩
        simp only [e1]; rfl
      · have e1 : outA zs (i + 1) = ((outA zs i).1, i + 1) := by simp only [outA, hb, hb2, if_true, Bool.false_eq_true, if_false]
        repeat (first | refine SGo.seq ?_ | refine SGo.skip ?_ | refine SGo.inBlock ?_ | refine SGo.block ?_ | refine SGo.scope ?_ | refine SGo.inScope ?_ | refine SGo.label ?_ | refine SGo.exit rfl ?_)
        refine SGo.roundEnd (.new (.head _)) (SReg.out ?_)
        refine SReg.has (F := [(0, .func (.yield L) #[] #[]), (1, .pointer (some ⟨B, 0, none⟩)), (4, .int .i64 (i : Nat)), (6, .int .i64 (zs.length : Nat)), (7, .int .i64 (i : Nat)), (36, .bool true)]) ⟨rfl, rfl, rfl, rfl, rfl, rfl, trivial⟩ ?_
        -- @FN 41
        refine SReg.ex rfl rfl (fun _ _ => by first | exact ex_bool (ex_not rfl) (by assumption) | exact ex_not rfl) ?_
        refine SReg.nil ?_
        repeat (first | refine SGo.seq ?_ | refine SGo.skip ?_ | refine SGo.inBlock ?_ | refine SGo.block ?_ | refine SGo.scope ?_ | refine SGo.inScope ?_ | refine SGo.label ?_ | refine SGo.exit rfl ?_)
        refine SGo.condF rfl ?_
        repeat (first | refine SGo.seq ?_ | refine SGo.skip ?_ | refine SGo.inBlock ?_ | refine SGo.block ?_ | refine SGo.scope ?_ | refine SGo.inScope ?_ | refine SGo.label ?_ | refine SGo.exit rfl ?_)
        refine SGo.reg ?_
        refine SReg.mv rfl rfl rfl ?_
        refine SReg.ex rfl rfl (fun _ _ => ex_add rfl rfl (by first | assumption | omega | decide)) ?_
        refine SReg.as rfl rfl rfl ?_
        refine SReg.nil ?_
        repeat (first | refine SGo.seq ?_ | refine SGo.skip ?_ | refine SGo.inBlock ?_ | refine SGo.block ?_ | refine SGo.scope ?_ | refine SGo.inScope ?_ | refine SGo.label ?_ | refine SGo.exit rfl ?_)
        repeat (first | refine SGo.seq ?_ | refine SGo.skip ?_ | refine SGo.inBlock ?_ | refine SGo.block ?_ | refine SGo.scope ?_ | refine SGo.inScope ?_ | refine SGo.label ?_ | refine SGo.exit rfl ?_)
        refine SGo.reg ?_
        refine SReg.ex rfl rfl (fun _ _ => ex_add rfl rfl (by first | assumption | omega | decide)) ?_
        refine SReg.mv rfl rfl rfl ?_
        refine SReg.nil ?_
        repeat (first | refine SGo.seq ?_ | refine SGo.skip ?_ | refine SGo.inBlock ?_ | refine SGo.block ?_ | refine SGo.scope ?_ | refine SGo.inScope ?_ | refine SGo.label ?_ | refine SGo.exit rfl ?_)
        have hn := next (i + 1, c')
        simp only [e1] at hn
        exact hn _ (by omega) (by omega) ⟨rfl, rfl, rfl, rfl, rfl, trivial⟩
    · have e1 : outA zs (i + 1) = outA zs i := by simp only [outA, hb, Bool.false_eq_true, if_false]
      repeat (first | refine SGo.seq ?_ | refine SGo.skip ?_ | refine SGo.inBlock ?_ | refine SGo.block ?_ | refine SGo.scope ?_ | refine SGo.inScope ?_ | refine SGo.label ?_ | refine SGo.exit rfl ?_)
      refine SGo.reg ?_
      refine SReg.ex rfl rfl (fun _ _ => ex_add rfl rfl (by first | assumption | omega | decide)) ?_
      refine SReg.mv rfl rfl rfl ?_
      refine SReg.nil ?_
      repeat (first | refine SGo.seq ?_ | refine SGo.skip ?_ | refine SGo.inBlock ?_ | refine SGo.block ?_ | refine SGo.scope ?_ | refine SGo.inScope ?_ | refine SGo.label ?_ | refine SGo.exit rfl ?_)
      have hn := next (i + 1, c')
      simp only [e1] at hn
      exact hn _ (by omega) (by omega) ⟨rfl, rfl, rfl, rfl, rfl, trivial⟩
  · have hiz : i = zs.length := by omega
    subst hiz
    repeat (first | refine SGo.seq ?_ | refine SGo.skip ?_ | refine SGo.inBlock ?_ | refine SGo.block ?_ | refine SGo.scope ?_ | refine SGo.inScope ?_ | refine SGo.label ?_ | refine SGo.exit rfl ?_)
    refine SGo.done Try.func41 (fun τ hτ => ares_nil) fun τ hτ => ⟨_, _, _, _, hτ, (by intro h; cases h), fun d => ?_⟩
    -- @FN 17
    obtain ⟨m, hm⟩ : ∃ m, m = (outA zs zs.length).1.length := ⟨_, rfl⟩
    have htm : ((m : Nat) : Int) + 1 = ((m + 1 : Nat) : Int) := by omega
    have htm2 : ((m + 1 : Nat) : Int).tmod 2 = (((m + 1) % 2 : Nat) : Int) := rfl
    have hT : ((m : Nat) : Int) - (((m : Nat) : Int) + 1).tmod 2 * (if ((m : Nat) : Int) < 1 then ((m : Nat) : Int) else 1) = ((m - (m + 1) % 2 * min 1 m : Nat) : Int) := by
      rw [htm, htm2]
      split
      · rw [show m = 0 by omega]; rfl
      · rw [Nat.min_eq_left (by omega)]; omega
    have hmul : -9223372036854775808 ≤ (((m : Nat) : Int) + 1).tmod 2 * (if ((m : Nat) : Int) < 1 then ((m : Nat) : Int) else 1) ∧ (((m : Nat) : Int) + 1).tmod 2 * (if ((m : Nat) : Int) < 1 then ((m : Nat) : Int) else 1) ≤ 9223372036854775807 := by omega
    have hsub : -9223372036854775808 ≤ ((m : Nat) : Int) - (((m : Nat) : Int) + 1).tmod 2 * (if ((m : Nat) : Int) < 1 then ((m : Nat) : Int) else 1) ∧ ((m : Nat) : Int) - (((m : Nat) : Int) + 1).tmod 2 * (if ((m : Nat) : Int) < 1 then ((m : Nat) : Int) else 1) ≤ 9223372036854775807 := by omega
    have hm1 : ((outA zs zs.length).1.map (Value.int .i64)).length = m := by rw [List.length_map]; exact hm.symm
    rw [← hm]
    repeat (first | refine SGo.seq ?_ | refine SGo.skip ?_ | refine SGo.inBlock ?_ | refine SGo.block ?_ | refine SGo.scope ?_ | refine SGo.inScope ?_ | refine SGo.label ?_ | refine SGo.exit rfl ?_)
    refine SGo.reg ?_
    refine SReg.ld rfl rfl rfl (by first | exact sld_cell (tf (by rfl)) rfl (by first | assumption | rfl) | exact sld_sub (d := (0 : Int)) (by assumption) (tf (by rfl)) rfl rfl (by omega) | exact sld_at (0 : Int) (tf (by rfl)) rfl rfl (by omega) | exact sld_sub (d := false) (by assumption) (tf (by rfl)) rfl rfl (by omega) | exact sld_at false (tf (by rfl)) rfl rfl (by omega) | exact sld_all (tf (by rfl)) rfl (by first | rfl | (simp; done))) ?_
    refine SReg.ld rfl rfl rfl (by first | exact sld_cell (tf (by rfl)) rfl (by first | assumption | rfl) | exact sld_sub (d := (0 : Int)) (by assumption) (tf (by rfl)) rfl rfl (by omega) | exact sld_at (0 : Int) (tf (by rfl)) rfl rfl (by omega) | exact sld_sub (d := false) (by assumption) (tf (by rfl)) rfl rfl (by omega) | exact sld_at false (tf (by rfl)) rfl rfl (by omega) | exact sld_all (tf (by rfl)) rfl (by first | rfl | (simp; done))) ?_
    refine SReg.valG rfl rfl (sx_lenG rfl (tf (by rfl)) (by first | exact hz_nil (by assumption) | exact map_nil | exact len_nil (by first | assumption | rfl | (simp; done)))) ?_
    refine SReg.ld rfl rfl rfl (by first | exact sld_cell (tf (by rfl)) rfl (by first | assumption | rfl) | exact sld_sub (d := (0 : Int)) (by assumption) (tf (by rfl)) rfl rfl (by omega) | exact sld_at (0 : Int) (tf (by rfl)) rfl rfl (by omega) | exact sld_sub (d := false) (by assumption) (tf (by rfl)) rfl rfl (by omega) | exact sld_at false (tf (by rfl)) rfl rfl (by omega) | exact sld_all (tf (by rfl)) rfl (by first | rfl | (simp; done))) ?_
    refine SReg.valG rfl rfl (sx_lenG rfl (tf (by rfl)) (by first | exact hz_nil (by assumption) | exact map_nil | exact len_nil (by first | assumption | rfl | (simp; done)))) ?_
    refine SReg.ex rfl rfl (fun _ _ => ex_add rfl rfl (by first | assumption | omega | decide)) ?_
    refine SReg.ex rfl rfl (fun _ _ => ex_rem rfl rfl (by first | assumption | omega | decide)) ?_
    refine SReg.ld rfl rfl rfl (by first | exact sld_cell (tf (by rfl)) rfl (by first | assumption | rfl) | exact sld_sub (d := (0 : Int)) (by assumption) (tf (by rfl)) rfl rfl (by omega) | exact sld_at (0 : Int) (tf (by rfl)) rfl rfl (by omega) | exact sld_sub (d := false) (by assumption) (tf (by rfl)) rfl rfl (by omega) | exact sld_at false (tf (by rfl)) rfl rfl (by omega) | exact sld_all (tf (by rfl)) rfl (by first | rfl | (simp; done))) ?_
    refine SReg.valG rfl rfl (sx_lenG rfl (tf (by rfl)) (by first | exact hz_nil (by assumption) | exact map_nil | exact len_nil (by first | assumption | rfl | (simp; done)))) ?_
    refine SReg.ex rfl rfl (fun _ _ => ex_call rfl (v := .int .i64 (if ((m : Nat) : Int) < 1 then ((m : Nat) : Int) else 1)) rfl) ?_
    refine SReg.ex rfl rfl (fun _ _ => ex_mul rfl rfl (by first | assumption | omega | decide)) ?_
    refine SReg.ex rfl rfl (fun _ _ => ex_sub rfl rfl (by first | assumption | omega | decide)) ?_
    refine SReg.valG rfl rfl (sx_slice (c := c') (off := 0) (n := m) (cap := m) (a := 0) (b' := m - (m + 1) % 2 * min 1 m) rfl rfl rfl ty22 ty3 (by simp [tsz, ty3]) (len_nil hm1) (abound_int hT (by omega)) rfl (.inr rfl) (by omega) (Nat.le_refl _)) ?_
    refine SReg.as rfl rfl rfl ?_
    refine SReg.nil ?_
    repeat (first | refine SGo.seq ?_ | refine SGo.skip ?_ | refine SGo.inBlock ?_ | refine SGo.block ?_ | refine SGo.scope ?_ | refine SGo.inScope ?_ | refine SGo.label ?_ | refine SGo.exit rfl ?_)
    refine SGo.ret Try.func17 (fun τ hτ => ares_tmp rfl ares_nil) fun τ hτ => SRet.mk hτ (l' := [(c', .cells ((outA zs zs.length).1.map (Value.int .i64)) 3 true)]) (.cons_cons _ (.cons _ (.cons _ .slnil))) ⟨c', _, ?_, rfl, ?_, ?_⟩
    · simp only [packResults, trimA, List.length_take, List.length_map, ← hm]
      rw [Nat.min_eq_left (Nat.sub_le _ _)]
      simp
    · rw [List.drop_zero, trimA, List.length_take, List.map_take]
      rw [Nat.min_eq_left (Nat.sub_le _ _)]
    · simp only [trimA, List.length_take, List.length_map]; omega
end Go.Abs.Run
