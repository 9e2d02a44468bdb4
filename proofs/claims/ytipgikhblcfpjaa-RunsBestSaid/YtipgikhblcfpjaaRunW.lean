/- A part of the proof: contracts of functions of the program, shown by walking through their code in an abstract machine. Condition: none. -/
import Derived.Test.YtipgikhblcfpjaaRunV
import Derived.Test.YtipgikhblcfpjaaRunB
import Derived.Test.YtipgikhblcfpjaaRunG
import Derived.Test.YtipgikhblcfpjaaRunJp
set_option linter.unusedVariables false
set_option linter.unusedSimpArgs false
namespace Go.Abs.Run
open Go Go.Proofs
set_option maxHeartbeats 8000000
set_option maxRecDepth 8000
-- @SEAT 10
def LawT (v : Value) (l : SH) : Prop := v = .bool true ∧ l = []
-- @FN 3
/-- barscanlaw10.RunsModules -/
theorem law3 {c : Option Nat} {off cap : Nat} {cs : List Value} {rw : Bool} {zs : List Int} (hz : (cs.drop off).take zs.length = zs.map (Value.int .i64)) (hl : zs.length ≤ 9223372036854775807) :
    SC Try.prog 3 [gv c off zs.length cap] [(c, .cells cs 3 rw)] LawT := by
  refine SC.enter Try.func3 rfl (by rw [Try.ntmps3]; simp) fun σ hσ => ?_
  rw [Try.ntmps3]
  repeat (first | refine SGo.seq ?_ | refine SGo.skip ?_ | refine SGo.inBlock ?_ | refine SGo.block ?_ | refine SGo.scope ?_ | refine SGo.inScope ?_ | refine SGo.label ?_ | refine SGo.exit rfl ?_)
  refine SGo.reg ?_
  refine SReg.as rfl rfl rfl ?_
  refine SReg.nil ?_
  repeat (first | refine SGo.seq ?_ | refine SGo.skip ?_ | refine SGo.inBlock ?_ | refine SGo.block ?_ | refine SGo.scope ?_ | refine SGo.inScope ?_ | refine SGo.label ?_ | refine SGo.exit rfl ?_)
  repeat (first | refine SGo.seq ?_ | refine SGo.skip ?_ | refine SGo.inBlock ?_ | refine SGo.block ?_ | refine SGo.scope ?_ | refine SGo.inScope ?_ | refine SGo.label ?_ | refine SGo.exit rfl ?_)
  refine SGo.reg ?_
  refine SReg.mv rfl rfl rfl ?_
  refine SReg.go (few9 hz hl) rfl rfl (by kernel_rfl) ⟨_, .refl _, .refl _⟩ ?_
  rintro _ _ ⟨⟨b, rfl, hb⟩, rfl⟩
  dsimp only [List.cons_append, List.nil_append]
  refine SReg.ex rfl rfl (fun _ _ => by first | exact ex_bool (ex_not rfl) (by assumption) | exact ex_not rfl) ?_
  refine SReg.nil ?_
  repeat (first | refine SGo.seq ?_ | refine SGo.skip ?_ | refine SGo.inBlock ?_ | refine SGo.block ?_ | refine SGo.scope ?_ | refine SGo.inScope ?_ | refine SGo.label ?_ | refine SGo.exit rfl ?_)
  cases b with
  | false =>
    refine SGo.condT rfl ?_
    repeat (first | refine SGo.seq ?_ | refine SGo.skip ?_ | refine SGo.inBlock ?_ | refine SGo.block ?_ | refine SGo.scope ?_ | refine SGo.inScope ?_ | refine SGo.label ?_ | refine SGo.exit rfl ?_)
    refine SGo.reg ?_
    refine SReg.go alive10 rfl rfl (by kernel_rfl) ⟨_, .refl _, List.nil_sublist _⟩ ?_
    rintro _ _ ⟨rfl, rfl⟩
    dsimp only [List.cons_append, List.nil_append]
    refine SReg.as rfl rfl rfl ?_
    refine SReg.nil ?_
    repeat (first | refine SGo.seq ?_ | refine SGo.skip ?_ | refine SGo.inBlock ?_ | refine SGo.block ?_ | refine SGo.scope ?_ | refine SGo.inScope ?_ | refine SGo.label ?_ | refine SGo.exit rfl ?_)
    exact SGo.ret Try.func3 (fun τ hτ => ares_tmp rfl ares_nil) fun τ hτ => SRet.mk hτ (List.nil_sublist _) ⟨rfl, rfl⟩
  | true =>
    have hl' := hb rfl
    refine SGo.condF rfl ?_
    repeat (first | refine SGo.seq ?_ | refine SGo.skip ?_ | refine SGo.inBlock ?_ | refine SGo.block ?_ | refine SGo.scope ?_ | refine SGo.inScope ?_ | refine SGo.label ?_ | refine SGo.exit rfl ?_)
    refine SGo.reg ?_
    refine SReg.mv rfl rfl rfl ?_
    refine SReg.go (modules11 hz (by omega)) rfl rfl (by kernel_rfl) ⟨_, .refl _, .refl _⟩ ?_
    rintro _ _ ⟨c1, rfl, rfl⟩
    dsimp only [List.cons_append, List.nil_append]
    refine SReg.mv rfl rfl rfl ?_
    refine SReg.ex rfl rfl (fun _ _ => ex_extract rfl rfl) ?_
    refine SReg.ex rfl rfl (fun _ _ => ex_extract rfl rfl) ?_
    refine SReg.as rfl rfl rfl ?_
    refine SReg.as rfl rfl rfl ?_
    refine SReg.nil ?_
    repeat (first | refine SGo.seq ?_ | refine SGo.skip ?_ | refine SGo.inBlock ?_ | refine SGo.block ?_ | refine SGo.scope ?_ | refine SGo.inScope ?_ | refine SGo.label ?_ | refine SGo.exit rfl ?_)
    repeat (first | refine SGo.seq ?_ | refine SGo.skip ?_ | refine SGo.inBlock ?_ | refine SGo.block ?_ | refine SGo.scope ?_ | refine SGo.inScope ?_ | refine SGo.label ?_ | refine SGo.exit rfl ?_)
    refine SGo.reg ?_
    refine SReg.mv rfl rfl rfl ?_
    refine SReg.go (refModules12 hz (by omega)) rfl rfl (by kernel_rfl) ⟨_, .refl _, .cons_cons _ (List.nil_sublist _)⟩ ?_
    rintro _ _ ⟨c2, rfl, rfl⟩
    dsimp only [List.cons_append, List.nil_append]
    refine SReg.mv rfl rfl rfl ?_
    refine SReg.ex rfl rfl (fun _ _ => ex_extract rfl rfl) ?_
    refine SReg.ex rfl rfl (fun _ _ => ex_extract rfl rfl) ?_
    refine SReg.as rfl rfl rfl ?_
    refine SReg.as rfl rfl rfl ?_
    refine SReg.nil ?_
    repeat (first | refine SGo.seq ?_ | refine SGo.skip ?_ | refine SGo.inBlock ?_ | refine SGo.block ?_ | refine SGo.scope ?_ | refine SGo.inScope ?_ | refine SGo.label ?_ | refine SGo.exit rfl ?_)
    obtain ⟨⟨m, e⟩, hme⟩ : ∃ x, modP zs = x := ⟨_, rfl⟩
    have hlm : m.length ≤ 65536 := by
      unfold modP at hme
      split at hme
      · cases hme; simp
      split at hme
      · cases hme; simp
      split at hme
      · cases hme; simp
      rename_i hok
      split at hme
      · cases hme; simp
      cases hme
      have := exP_len (zs := zs) (i := 0) (by simpa using hok)
      omega
    rw [hme]
    refine SGo.has (F := [(3, sv c1 m.length), (4, .int .i64 e), (5, sv c2 m.length), (6, .int .i64 e)]) ⟨rfl, rfl, rfl, rfl, trivial⟩ ?_
    have g1 : decide (e = e) = true := decide_eq_true rfl
    repeat (first | refine SGo.seq ?_ | refine SGo.skip ?_ | refine SGo.inBlock ?_ | refine SGo.block ?_ | refine SGo.scope ?_ | refine SGo.inScope ?_ | refine SGo.label ?_ | refine SGo.exit rfl ?_)
    refine SGo.reg ?_
    refine SReg.mv rfl rfl rfl ?_
    refine SReg.mv rfl rfl rfl ?_
    refine SReg.go (same13 (hz_full m _) (hz_full m _) (by omega)) rfl rfl (by kernel_rfl) ⟨_, .swap _ _ _, .cons _ (.refl _)⟩ ?_
    rintro _ _ ⟨rfl, rfl⟩
    rw [decide_eq_true (rfl : m = m)]
    dsimp only [List.cons_append, List.nil_append]
    refine SReg.mv rfl rfl rfl ?_
    first | refine SReg.skipG rfl rfl ?_ | (refine SReg.mv rfl rfl rfl ?_)
    first | refine SReg.skipG rfl rfl ?_ | (refine SReg.mv rfl rfl rfl ?_)
    first | refine SReg.skipG rfl rfl ?_ | (refine SReg.ex rfl rfl (fun _ _ => by first | exact ex_bool (ex_eql rfl rfl) (by assumption) | exact ex_eql rfl rfl) ?_)
    refine SReg.ex rfl rfl (fun _ _ => by first | exact ex_pickT rfl rfl | exact ex_pickF rfl rfl) ?_
    refine SReg.mv rfl rfl rfl ?_
    refine SReg.goG alive10 rfl rfl rfl (by kernel_rfl) ⟨_, .refl _, List.nil_sublist _⟩ ?_
    rintro _ _ ⟨rfl, rfl⟩
    dsimp only [List.cons_append, List.nil_append]
    refine SReg.ex rfl rfl (fun _ _ => by first | exact ex_pickT rfl rfl | exact ex_pickF rfl rfl) ?_
    refine SReg.as rfl rfl rfl ?_
    refine SReg.nil ?_
    repeat (first | refine SGo.seq ?_ | refine SGo.skip ?_ | refine SGo.inBlock ?_ | refine SGo.block ?_ | refine SGo.scope ?_ | refine SGo.inScope ?_ | refine SGo.label ?_ | refine SGo.exit rfl ?_)
    exact SGo.ret Try.func3 (fun τ hτ => ares_tmp rfl ares_nil) fun τ hτ => SRet.mk hτ (List.nil_sublist _) ⟨rfl, rfl⟩
-- @FN 4
/-- barscanlaw10.RunsWidths -/
theorem law4 {c : Option Nat} {off cap : Nat} {cs : List Value} {rw : Bool} {zs : List Bool} (hz : (cs.drop off).take zs.length = zs.map Value.bool) (hl : zs.length ≤ 9223372036854775807) :
    SC Try.prog 4 [gv c off zs.length cap] [(c, .cells cs 4 rw)] LawT := by
  refine SC.enter Try.func4 rfl (by rw [Try.ntmps4]; simp) fun σ hσ => ?_
  rw [Try.ntmps4]
  repeat (first | refine SGo.seq ?_ | refine SGo.skip ?_ | refine SGo.inBlock ?_ | refine SGo.block ?_ | refine SGo.scope ?_ | refine SGo.inScope ?_ | refine SGo.label ?_ | refine SGo.exit rfl ?_)
  refine SGo.reg ?_
  refine SReg.as rfl rfl rfl ?_
  refine SReg.nil ?_
  repeat (first | refine SGo.seq ?_ | refine SGo.skip ?_ | refine SGo.inBlock ?_ | refine SGo.block ?_ | refine SGo.scope ?_ | refine SGo.inScope ?_ | refine SGo.label ?_ | refine SGo.exit rfl ?_)
  repeat (first | refine SGo.seq ?_ | refine SGo.skip ?_ | refine SGo.inBlock ?_ | refine SGo.block ?_ | refine SGo.scope ?_ | refine SGo.inScope ?_ | refine SGo.label ?_ | refine SGo.exit rfl ?_)
  refine SGo.reg ?_
  refine SReg.mv rfl rfl rfl ?_
  refine SReg.valG rfl rfl (sx_lenG rfl (tf (by rfl)) (by first | exact hz_nil (by assumption) | exact map_nil | exact len_nil (by first | assumption | rfl | (simp; done)))) ?_
  refine SReg.ex rfl rfl (fun _ _ => by first | exact ex_bool (ex_gtr rfl rfl) (by assumption) | exact ex_gtr rfl rfl) ?_
  refine SReg.nil ?_
  repeat (first | refine SGo.seq ?_ | refine SGo.skip ?_ | refine SGo.inBlock ?_ | refine SGo.block ?_ | refine SGo.scope ?_ | refine SGo.inScope ?_ | refine SGo.label ?_ | refine SGo.exit rfl ?_)
  refine SGo.condD rfl (fun h => ?_) (fun h => ?_)
  · repeat (first | refine SGo.seq ?_ | refine SGo.skip ?_ | refine SGo.inBlock ?_ | refine SGo.block ?_ | refine SGo.scope ?_ | refine SGo.inScope ?_ | refine SGo.label ?_ | refine SGo.exit rfl ?_)
    refine SGo.reg ?_
    refine SReg.go alive10 rfl rfl (by kernel_rfl) ⟨_, .refl _, List.nil_sublist _⟩ ?_
    rintro _ _ ⟨rfl, rfl⟩
    dsimp only [List.cons_append, List.nil_append]
    refine SReg.as rfl rfl rfl ?_
    refine SReg.nil ?_
    repeat (first | refine SGo.seq ?_ | refine SGo.skip ?_ | refine SGo.inBlock ?_ | refine SGo.block ?_ | refine SGo.scope ?_ | refine SGo.inScope ?_ | refine SGo.label ?_ | refine SGo.exit rfl ?_)
    exact SGo.ret Try.func4 (fun τ hτ => ares_tmp rfl ares_nil) fun τ hτ => SRet.mk hτ (List.nil_sublist _) ⟨rfl, rfl⟩
  · have hl' : zs.length ≤ 2000 := by omega
    repeat (first | refine SGo.seq ?_ | refine SGo.skip ?_ | refine SGo.inBlock ?_ | refine SGo.block ?_ | refine SGo.scope ?_ | refine SGo.inScope ?_ | refine SGo.label ?_ | refine SGo.exit rfl ?_)
    refine SGo.reg ?_
    refine SReg.mv rfl rfl rfl ?_
    refine SReg.go (margins14 hz (by omega)) rfl rfl (by kernel_rfl) ⟨_, .refl _, .refl _⟩ ?_
    rintro _ _ ⟨rfl, rfl⟩
    dsimp only [List.cons_append, List.nil_append]
    refine SReg.mv rfl rfl rfl ?_
    refine SReg.ex rfl rfl (fun _ _ => ex_extract rfl rfl) ?_
    refine SReg.ex rfl rfl (fun _ _ => ex_extract rfl rfl) ?_
    refine SReg.as rfl rfl rfl ?_
    refine SReg.as rfl rfl rfl ?_
    refine SReg.nil ?_
    repeat (first | refine SGo.seq ?_ | refine SGo.skip ?_ | refine SGo.inBlock ?_ | refine SGo.block ?_ | refine SGo.scope ?_ | refine SGo.inScope ?_ | refine SGo.label ?_ | refine SGo.exit rfl ?_)
    repeat (first | refine SGo.seq ?_ | refine SGo.skip ?_ | refine SGo.inBlock ?_ | refine SGo.block ?_ | refine SGo.scope ?_ | refine SGo.inScope ?_ | refine SGo.label ?_ | refine SGo.exit rfl ?_)
    refine SGo.reg ?_
    refine SReg.mv rfl rfl rfl ?_
    refine SReg.go (refMargins15 hz (by omega)) rfl rfl (by kernel_rfl) ⟨_, .refl _, .refl _⟩ ?_
    rintro _ _ ⟨rfl, rfl⟩
    dsimp only [List.cons_append, List.nil_append]
    refine SReg.mv rfl rfl rfl ?_
    refine SReg.ex rfl rfl (fun _ _ => ex_extract rfl rfl) ?_
    refine SReg.ex rfl rfl (fun _ _ => ex_extract rfl rfl) ?_
    refine SReg.as rfl rfl rfl ?_
    refine SReg.as rfl rfl rfl ?_
    refine SReg.nil ?_
    repeat (first | refine SGo.seq ?_ | refine SGo.skip ?_ | refine SGo.inBlock ?_ | refine SGo.block ?_ | refine SGo.scope ?_ | refine SGo.inScope ?_ | refine SGo.label ?_ | refine SGo.exit rfl ?_)
    obtain ⟨a, ha⟩ : ∃ a, a = lm zs := ⟨_, rfl⟩
    obtain ⟨b, hb⟩ : ∃ b, b = lm zs.reverse := ⟨_, rfl⟩
    rw [← ha, ← hb]
    refine SGo.has (F := [(0, gv c off zs.length cap), (3, .int .i64 (a : Nat)), (4, .int .i64 (b : Nat)), (5, .int .i64 (a : Nat)), (6, .int .i64 (b : Nat))]) ⟨rfl, rfl, rfl, rfl, rfl, trivial⟩ ?_
    have g1 : decide (((a : Nat) : Int) = ((a : Nat) : Int)) = true := decide_eq_true rfl
    have g2 : decide (((b : Nat) : Int) = ((b : Nat) : Int)) = true := decide_eq_true rfl
    repeat (first | refine SGo.seq ?_ | refine SGo.skip ?_ | refine SGo.inBlock ?_ | refine SGo.block ?_ | refine SGo.scope ?_ | refine SGo.inScope ?_ | refine SGo.label ?_ | refine SGo.exit rfl ?_)
    refine SGo.reg ?_
    refine SReg.mv rfl rfl rfl ?_
    refine SReg.go (widths17 hz (by omega)) rfl rfl (by kernel_rfl) ⟨_, .refl _, .refl _⟩ ?_
    rw [widths_same]
    rintro _ _ ⟨c1, cs1, rfl, rfl, hz1, hc1⟩
    dsimp only [List.cons_append, List.nil_append]
    refine SReg.mv rfl rfl rfl ?_
    refine SReg.go (refWidths18 hz (by omega)) rfl rfl (by kernel_rfl) ⟨_, .refl _, .cons_cons _ (List.nil_sublist _)⟩ ?_
    rintro _ _ ⟨c2, cs2, rfl, rfl, hz2, hc2⟩
    dsimp only [List.cons_append, List.nil_append]
    have hlw : (refW zs).length ≤ 2000 := by
      unfold refW
      have := (outB_le zs (lm zs) (zs.length - lm zs.reverse) (zs.length - lm zs.reverse - lm zs)).1
      omega
    refine SReg.go (ints16 hz1 hz2 (by omega)) rfl rfl (by kernel_rfl) ⟨_, .swap _ _ _, .cons _ (.refl _)⟩ ?_
    rintro _ _ ⟨rfl, rfl⟩
    rw [decide_eq_true (rfl : refW zs = refW zs)]
    dsimp only [List.cons_append, List.nil_append]
    refine SReg.mv rfl rfl rfl ?_
    first | refine SReg.skipG rfl rfl ?_ | (refine SReg.mv rfl rfl rfl ?_)
    first | refine SReg.skipG rfl rfl ?_ | (refine SReg.mv rfl rfl rfl ?_)
    first | refine SReg.skipG rfl rfl ?_ | (refine SReg.ex rfl rfl (fun _ _ => by first | exact ex_bool (ex_eql rfl rfl) (by assumption) | exact ex_eql rfl rfl) ?_)
    refine SReg.ex rfl rfl (fun _ _ => by first | exact ex_pickT rfl rfl | exact ex_pickF rfl rfl) ?_
    refine SReg.mv rfl rfl rfl ?_
    first | refine SReg.skipG rfl rfl ?_ | (refine SReg.mv rfl rfl rfl ?_)
    first | refine SReg.skipG rfl rfl ?_ | (refine SReg.mv rfl rfl rfl ?_)
    first | refine SReg.skipG rfl rfl ?_ | (refine SReg.ex rfl rfl (fun _ _ => by first | exact ex_bool (ex_eql rfl rfl) (by assumption) | exact ex_eql rfl rfl) ?_)
    refine SReg.ex rfl rfl (fun _ _ => by first | exact ex_pickT rfl rfl | exact ex_pickF rfl rfl) ?_
    refine SReg.mv rfl rfl rfl ?_
    refine SReg.goG alive10 rfl rfl rfl (by kernel_rfl) ⟨_, .refl _, List.nil_sublist _⟩ ?_
    rintro _ _ ⟨rfl, rfl⟩
    dsimp only [List.cons_append, List.nil_append]
    refine SReg.ex rfl rfl (fun _ _ => by first | exact ex_pickT rfl rfl | exact ex_pickF rfl rfl) ?_
    refine SReg.as rfl rfl rfl ?_
    refine SReg.nil ?_
    repeat (first | refine SGo.seq ?_ | refine SGo.skip ?_ | refine SGo.inBlock ?_ | refine SGo.block ?_ | refine SGo.scope ?_ | refine SGo.inScope ?_ | refine SGo.label ?_ | refine SGo.exit rfl ?_)
    exact SGo.ret Try.func4 (fun τ hτ => ares_tmp rfl ares_nil) fun τ hτ => SRet.mk hτ (List.nil_sublist _) ⟨rfl, rfl⟩
end Go.Abs.Run
