/- A part of the proof: contracts of functions of the program, shown by walking through their code in an abstract machine. Condition: none. -/
import Derived.Test.YtipgikhblcfpjaaRunA
set_option linter.unusedVariables false
set_option linter.unusedSimpArgs false
namespace Go.Abs.Run
open Go Go.Proofs
set_option maxHeartbeats 4000000
set_option maxRecDepth 8000
-- @SEAT 10
-- @FN 9
/-- barscanlaw10.few -/
theorem few9 {c : Option Nat} {off cap : Nat} {cs : List Value} {rw : Bool} {zs : List Int} (hz : (cs.drop off).take zs.length = zs.map (Value.int .i64)) (hl : zs.length ≤ 9223372036854775807) :
    SC Try.prog 9 [gv c off zs.length cap] [(c, .cells cs 3 rw)] fun v l => (∃ b, v = .bool b ∧ (b = true → zs.length ≤ 60)) ∧ l = [] := by
  refine SC.enter Try.func9 rfl (by rw [Try.ntmps9]; simp) fun σ hσ => ?_
  rw [Try.ntmps9]
  repeat (first | refine SGo.seq ?_ | refine SGo.skip ?_ | refine SGo.inBlock ?_ | refine SGo.block ?_ | refine SGo.scope ?_ | refine SGo.inScope ?_ | refine SGo.label ?_ | refine SGo.exit rfl ?_)
  refine SGo.reg ?_
  refine SReg.as rfl rfl rfl ?_
  refine SReg.nil ?_
  repeat (first | refine SGo.seq ?_ | refine SGo.skip ?_ | refine SGo.inBlock ?_ | refine SGo.block ?_ | refine SGo.scope ?_ | refine SGo.inScope ?_ | refine SGo.label ?_ | refine SGo.exit rfl ?_)
  repeat (first | refine SGo.seq ?_ | refine SGo.skip ?_ | refine SGo.inBlock ?_ | refine SGo.block ?_ | refine SGo.scope ?_ | refine SGo.inScope ?_ | refine SGo.label ?_ | refine SGo.exit rfl ?_)
  refine SGo.reg ?_
  refine SReg.mv rfl rfl rfl ?_
  refine SReg.valG rfl rfl (sx_lenG rfl (tf (by rfl)) (by first | exact hz_nil (by assumption) | exact map_nil | exact len_nil (by first | assumption | rfl | (simp; done)))) ?_
  refine SReg.mv rfl rfl rfl ?_
  refine SReg.nil ?_
  repeat (first | refine SGo.seq ?_ | refine SGo.skip ?_ | refine SGo.inBlock ?_ | refine SGo.block ?_ | refine SGo.scope ?_ | refine SGo.inScope ?_ | refine SGo.label ?_ | refine SGo.exit rfl ?_)
  refine SGo.loopI (ι := Nat) (F := fun k => [(0, gv c off zs.length cap), (5, .int .i64 (zs.length : Nat)), (6, .int .i64 (k : Nat))]) (O := fun _ => [(c, .cells cs 3 rw)]) (l0 := fun _ => []) (I := fun k => k ≤ zs.length ∧ k ≤ 60) (μ := fun k => zs.length - k) ?_ (x0 := 0) ⟨Nat.zero_le _, by omega⟩ ⟨rfl, rfl, rfl, trivial⟩ rfl rfl
  rintro k ⟨hk, hk2⟩ next
  repeat (first | refine SGo.seq ?_ | refine SGo.skip ?_ | refine SGo.inBlock ?_ | refine SGo.block ?_ | refine SGo.scope ?_ | refine SGo.inScope ?_ | refine SGo.label ?_ | refine SGo.exit rfl ?_)
  refine SGo.reg ?_
  refine SReg.ex rfl rfl (fun _ _ => by first | exact ex_bool (ex_lss rfl rfl) (by assumption) | exact ex_lss rfl rfl) ?_
  refine SReg.nil ?_
  repeat (first | refine SGo.seq ?_ | refine SGo.skip ?_ | refine SGo.inBlock ?_ | refine SGo.block ?_ | refine SGo.scope ?_ | refine SGo.inScope ?_ | refine SGo.label ?_ | refine SGo.exit rfl ?_)
  refine SGo.condD rfl (fun h => ?_) (fun h => ?_)
  · repeat (first | refine SGo.seq ?_ | refine SGo.skip ?_ | refine SGo.inBlock ?_ | refine SGo.block ?_ | refine SGo.scope ?_ | refine SGo.inScope ?_ | refine SGo.label ?_ | refine SGo.exit rfl ?_)
    refine SGo.reg ?_
    refine SReg.mv rfl rfl rfl ?_
    refine SReg.as rfl rfl rfl ?_
    refine SReg.nil ?_
    repeat (first | refine SGo.seq ?_ | refine SGo.skip ?_ | refine SGo.inBlock ?_ | refine SGo.block ?_ | refine SGo.scope ?_ | refine SGo.inScope ?_ | refine SGo.label ?_ | refine SGo.exit rfl ?_)
    repeat (first | refine SGo.seq ?_ | refine SGo.skip ?_ | refine SGo.inBlock ?_ | refine SGo.block ?_ | refine SGo.scope ?_ | refine SGo.inScope ?_ | refine SGo.label ?_ | refine SGo.exit rfl ?_)
    refine SGo.reg ?_
    refine SReg.mv rfl rfl rfl ?_
    refine SReg.ex rfl rfl (fun _ _ => by first | exact ex_bool (ex_geq rfl rfl) (by assumption) | exact ex_geq rfl rfl) ?_
    refine SReg.mv rfl rfl rfl ?_
    cases g1 : decide (((k : Nat) : Int) ≥ 60) with
    | true =>
      first | refine SReg.skipG rfl rfl ?_ | (refine SReg.mv rfl rfl rfl ?_)
      first | refine SReg.skipG rfl rfl ?_ | (refine SReg.mv rfl rfl rfl ?_)
      first | refine SReg.skipG rfl rfl ?_ | (refine SReg.idxG rfl rfl rfl rfl (tf (by rfl)) (tf (by rfl)) (by first | assumption | rfl) (by omega) (by first | exact hz_nil (by assumption) | exact map_nil | exact len_nil (by first | assumption | rfl | (simp; done))) (fun _ hidx => ?_); cases hidx)
      first | refine SReg.skipG rfl rfl ?_ | (refine SReg.ld rfl rfl rfl (by first | exact sld_cell (tf (by rfl)) rfl (by first | assumption | rfl) | exact sld_sub (d := (0 : Int)) (by assumption) (tf (by rfl)) rfl rfl (by omega) | exact sld_at (0 : Int) (tf (by rfl)) rfl rfl (by omega) | exact sld_sub (d := false) (by assumption) (tf (by rfl)) rfl rfl (by omega) | exact sld_at false (tf (by rfl)) rfl rfl (by omega) | exact sld_all (tf (by rfl)) rfl (by first | rfl | (simp; done))) ?_)
      first | refine SReg.skipG rfl rfl ?_ | (refine SReg.ex rfl rfl (fun _ _ => by first | exact ex_bool (ex_gtr rfl rfl) (by assumption) | exact ex_gtr rfl rfl) ?_)
      first | refine SReg.skipG rfl rfl ?_ | (refine SReg.mv rfl rfl rfl ?_)
      first | refine SReg.skipG rfl rfl ?_ | (refine SReg.mv rfl rfl rfl ?_)
      first | refine SReg.skipG rfl rfl ?_ | (refine SReg.mv rfl rfl rfl ?_)
      first | refine SReg.skipG rfl rfl ?_ | (refine SReg.idxG rfl rfl rfl rfl (tf (by rfl)) (tf (by rfl)) (by first | assumption | rfl) (by omega) (by first | exact hz_nil (by assumption) | exact map_nil | exact len_nil (by first | assumption | rfl | (simp; done))) (fun _ hidx => ?_); cases hidx)
      first | refine SReg.skipG rfl rfl ?_ | (refine SReg.ld rfl rfl rfl (by first | exact sld_cell (tf (by rfl)) rfl (by first | assumption | rfl) | exact sld_sub (d := (0 : Int)) (by assumption) (tf (by rfl)) rfl rfl (by omega) | exact sld_at (0 : Int) (tf (by rfl)) rfl rfl (by omega) | exact sld_sub (d := false) (by assumption) (tf (by rfl)) rfl rfl (by omega) | exact sld_at false (tf (by rfl)) rfl rfl (by omega) | exact sld_all (tf (by rfl)) rfl (by first | rfl | (simp; done))) ?_)
      first | refine SReg.skipG rfl rfl ?_ | (refine SReg.ex rfl rfl (fun _ _ => by first | exact ex_bool (ex_leq rfl rfl) (by assumption) | exact ex_leq rfl rfl) ?_)
      first | refine SReg.skipG rfl rfl ?_ | (refine SReg.ex rfl rfl (fun _ _ => by first | exact ex_pickT rfl rfl | exact ex_pickF rfl rfl) ?_)
      refine SReg.ex rfl rfl (fun _ _ => by first | exact ex_pickT rfl rfl | exact ex_pickF rfl rfl) ?_
      refine SReg.nil ?_
      repeat (first | refine SGo.seq ?_ | refine SGo.skip ?_ | refine SGo.inBlock ?_ | refine SGo.block ?_ | refine SGo.scope ?_ | refine SGo.inScope ?_ | refine SGo.label ?_ | refine SGo.exit rfl ?_)
      refine SGo.condT rfl ?_
      repeat (first | refine SGo.seq ?_ | refine SGo.skip ?_ | refine SGo.inBlock ?_ | refine SGo.block ?_ | refine SGo.scope ?_ | refine SGo.inScope ?_ | refine SGo.label ?_ | refine SGo.exit rfl ?_)
      refine SGo.reg ?_
      refine SReg.as rfl rfl rfl ?_
      refine SReg.nil ?_
      repeat (first | refine SGo.seq ?_ | refine SGo.skip ?_ | refine SGo.inBlock ?_ | refine SGo.block ?_ | refine SGo.scope ?_ | refine SGo.inScope ?_ | refine SGo.label ?_ | refine SGo.exit rfl ?_)
      exact SGo.ret Try.func9 (fun τ hτ => ares_tmp rfl ares_nil) fun τ hτ => ⟨_, hτ, ⟨_, rfl, fun h => by cases h⟩, rfl⟩
    | false =>
      have g1 : ¬ ((k : Nat) : Int) ≥ 60 := by simpa using g1
      first | refine SReg.skipG rfl rfl ?_ | (refine SReg.mv rfl rfl rfl ?_)
      first | refine SReg.skipG rfl rfl ?_ | (refine SReg.mv rfl rfl rfl ?_)
      first | refine SReg.skipG rfl rfl ?_ | (refine SReg.idxG rfl rfl rfl rfl (tf (by rfl)) (tf (by rfl)) (by first | assumption | rfl) (by omega) (by first | exact hz_nil (by assumption) | exact map_nil | exact len_nil (by first | assumption | rfl | (simp; done))) (fun _ hidx => ?_); cases hidx)
      first | refine SReg.skipG rfl rfl ?_ | (refine SReg.ld rfl rfl rfl (by first | exact sld_cell (tf (by rfl)) rfl (by first | assumption | rfl) | exact sld_sub (d := (0 : Int)) (by assumption) (tf (by rfl)) rfl rfl (by omega) | exact sld_at (0 : Int) (tf (by rfl)) rfl rfl (by omega) | exact sld_sub (d := false) (by assumption) (tf (by rfl)) rfl rfl (by omega) | exact sld_at false (tf (by rfl)) rfl rfl (by omega) | exact sld_all (tf (by rfl)) rfl (by first | rfl | (simp; done))) ?_)
      first | refine SReg.skipG rfl rfl ?_ | (refine SReg.ex rfl rfl (fun _ _ => by first | exact ex_bool (ex_gtr rfl rfl) (by assumption) | exact ex_gtr rfl rfl) ?_)
      first | refine SReg.skipG rfl rfl ?_ | (refine SReg.mv rfl rfl rfl ?_)
      cases g2 : decide ((zs.getD k 0) > 2000) with
      | false =>
        first | refine SReg.skipG rfl rfl ?_ | (refine SReg.mv rfl rfl rfl ?_)
        first | refine SReg.skipG rfl rfl ?_ | (refine SReg.mv rfl rfl rfl ?_)
        first | refine SReg.skipG rfl rfl ?_ | (refine SReg.idxG rfl rfl rfl rfl (tf (by rfl)) (tf (by rfl)) (by first | assumption | rfl) (by omega) (by first | exact hz_nil (by assumption) | exact map_nil | exact len_nil (by first | assumption | rfl | (simp; done))) (fun _ hidx => ?_); cases hidx)
        first | refine SReg.skipG rfl rfl ?_ | (refine SReg.ld rfl rfl rfl (by first | exact sld_cell (tf (by rfl)) rfl (by first | assumption | rfl) | exact sld_sub (d := (0 : Int)) (by assumption) (tf (by rfl)) rfl rfl (by omega) | exact sld_at (0 : Int) (tf (by rfl)) rfl rfl (by omega) | exact sld_sub (d := false) (by assumption) (tf (by rfl)) rfl rfl (by omega) | exact sld_at false (tf (by rfl)) rfl rfl (by omega) | exact sld_all (tf (by rfl)) rfl (by first | rfl | (simp; done))) ?_)
        first | refine SReg.skipG rfl rfl ?_ | (refine SReg.ex rfl rfl (fun _ _ => by first | exact ex_bool (ex_leq rfl rfl) (by assumption) | exact ex_leq rfl rfl) ?_)
        first | refine SReg.skipG rfl rfl ?_ | (refine SReg.ex rfl rfl (fun _ _ => by first | exact ex_pickT rfl rfl | exact ex_pickF rfl rfl) ?_)
        refine SReg.ex rfl rfl (fun _ _ => by first | exact ex_pickT rfl rfl | exact ex_pickF rfl rfl) ?_
        refine SReg.nil ?_
        repeat (first | refine SGo.seq ?_ | refine SGo.skip ?_ | refine SGo.inBlock ?_ | refine SGo.block ?_ | refine SGo.scope ?_ | refine SGo.inScope ?_ | refine SGo.label ?_ | refine SGo.exit rfl ?_)
        refine SGo.condF rfl ?_
        repeat (first | refine SGo.seq ?_ | refine SGo.skip ?_ | refine SGo.inBlock ?_ | refine SGo.block ?_ | refine SGo.scope ?_ | refine SGo.inScope ?_ | refine SGo.label ?_ | refine SGo.exit rfl ?_)
        refine SGo.reg ?_
        refine SReg.ex rfl rfl (fun _ _ => ex_add rfl rfl (by first | assumption | omega | decide)) ?_
        refine SReg.mv rfl rfl rfl ?_
        refine SReg.nil ?_
        repeat (first | refine SGo.seq ?_ | refine SGo.skip ?_ | refine SGo.inBlock ?_ | refine SGo.block ?_ | refine SGo.scope ?_ | refine SGo.inScope ?_ | refine SGo.label ?_ | refine SGo.exit rfl ?_)
        exact next (k + 1) _ (by omega) ⟨by omega, by omega⟩ ⟨rfl, rfl, rfl, trivial⟩
      | true =>
        first | refine SReg.skipG rfl rfl ?_ | (refine SReg.mv rfl rfl rfl ?_)
        first | refine SReg.skipG rfl rfl ?_ | (refine SReg.mv rfl rfl rfl ?_)
        first | refine SReg.skipG rfl rfl ?_ | (refine SReg.idxG rfl rfl rfl rfl (tf (by rfl)) (tf (by rfl)) (by first | assumption | rfl) (by omega) (by first | exact hz_nil (by assumption) | exact map_nil | exact len_nil (by first | assumption | rfl | (simp; done))) (fun _ hidx => ?_); cases hidx)
        first | refine SReg.skipG rfl rfl ?_ | (refine SReg.ld rfl rfl rfl (by first | exact sld_cell (tf (by rfl)) rfl (by first | assumption | rfl) | exact sld_sub (d := (0 : Int)) (by assumption) (tf (by rfl)) rfl rfl (by omega) | exact sld_at (0 : Int) (tf (by rfl)) rfl rfl (by omega) | exact sld_sub (d := false) (by assumption) (tf (by rfl)) rfl rfl (by omega) | exact sld_at false (tf (by rfl)) rfl rfl (by omega) | exact sld_all (tf (by rfl)) rfl (by first | rfl | (simp; done))) ?_)
        first | refine SReg.skipG rfl rfl ?_ | (refine SReg.ex rfl rfl (fun _ _ => by first | exact ex_bool (ex_leq rfl rfl) (by assumption) | exact ex_leq rfl rfl) ?_)
        first | refine SReg.skipG rfl rfl ?_ | (refine SReg.ex rfl rfl (fun _ _ => by first | exact ex_pickT rfl rfl | exact ex_pickF rfl rfl) ?_)
        refine SReg.ex rfl rfl (fun _ _ => by first | exact ex_pickT rfl rfl | exact ex_pickF rfl rfl) ?_
        refine SReg.nil ?_
        repeat (first | refine SGo.seq ?_ | refine SGo.skip ?_ | refine SGo.inBlock ?_ | refine SGo.block ?_ | refine SGo.scope ?_ | refine SGo.inScope ?_ | refine SGo.label ?_ | refine SGo.exit rfl ?_)
        refine SGo.condB rfl (fun h => ?_) (fun h => ?_)
        · repeat (first | refine SGo.seq ?_ | refine SGo.skip ?_ | refine SGo.inBlock ?_ | refine SGo.block ?_ | refine SGo.scope ?_ | refine SGo.inScope ?_ | refine SGo.label ?_ | refine SGo.exit rfl ?_)
          refine SGo.reg ?_
          refine SReg.as rfl rfl rfl ?_
          refine SReg.nil ?_
          repeat (first | refine SGo.seq ?_ | refine SGo.skip ?_ | refine SGo.inBlock ?_ | refine SGo.block ?_ | refine SGo.scope ?_ | refine SGo.inScope ?_ | refine SGo.label ?_ | refine SGo.exit rfl ?_)
          exact SGo.ret Try.func9 (fun τ hτ => ares_tmp rfl ares_nil) fun τ hτ => ⟨_, hτ, ⟨_, rfl, fun h => by cases h⟩, rfl⟩
        · repeat (first | refine SGo.seq ?_ | refine SGo.skip ?_ | refine SGo.inBlock ?_ | refine SGo.block ?_ | refine SGo.scope ?_ | refine SGo.inScope ?_ | refine SGo.label ?_ | refine SGo.exit rfl ?_)
          refine SGo.reg ?_
          refine SReg.ex rfl rfl (fun _ _ => ex_add rfl rfl (by first | assumption | omega | decide)) ?_
          refine SReg.mv rfl rfl rfl ?_
          refine SReg.nil ?_
          repeat (first | refine SGo.seq ?_ | refine SGo.skip ?_ | refine SGo.inBlock ?_ | refine SGo.block ?_ | refine SGo.scope ?_ | refine SGo.inScope ?_ | refine SGo.label ?_ | refine SGo.exit rfl ?_)
          exact next (k + 1) _ (by omega) ⟨by omega, by omega⟩ ⟨rfl, rfl, rfl, trivial⟩
  · repeat (first | refine SGo.seq ?_ | refine SGo.skip ?_ | refine SGo.inBlock ?_ | refine SGo.block ?_ | refine SGo.scope ?_ | refine SGo.inScope ?_ | refine SGo.label ?_ | refine SGo.exit rfl ?_)
    repeat (first | refine SGo.seq ?_ | refine SGo.skip ?_ | refine SGo.inBlock ?_ | refine SGo.block ?_ | refine SGo.scope ?_ | refine SGo.inScope ?_ | refine SGo.label ?_ | refine SGo.exit rfl ?_)
    refine SGo.reg ?_
    refine SReg.as rfl rfl rfl ?_
    refine SReg.nil ?_
    repeat (first | refine SGo.seq ?_ | refine SGo.skip ?_ | refine SGo.inBlock ?_ | refine SGo.block ?_ | refine SGo.scope ?_ | refine SGo.inScope ?_ | refine SGo.label ?_ | refine SGo.exit rfl ?_)
    exact SGo.ret Try.func9 (fun τ hτ => ares_tmp rfl ares_nil) fun τ hτ => ⟨_, hτ, ⟨_, rfl, fun _ => by omega⟩, rfl⟩
end Go.Abs.Run
