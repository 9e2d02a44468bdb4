/- A part of the proof: contracts of functions of the program, shown by walking through their code in an abstract machine. Condition: none. -/
import Derived.Test.YtipgikhblcfpjaaRunW
set_option linter.unusedVariables false
set_option linter.unusedSimpArgs false
namespace Go.Abs.Run
open Go Go.Proofs
set_option maxHeartbeats 8000000
set_option maxRecDepth 8000
-- @SEAT 10
theorem strP_len {zs : List Bool} {k : Int} : (strP zs k).1.length ≤ 65536 := by
  unfold strP
  split
  · simp
  split
  · simp
  rename_i h h2
  rw [exR_len]
  obtain ⟨n, rfl⟩ : ∃ n : Nat, k = (n : Int) := ⟨k.toNat, by omega⟩
  have hq : (65536 : Int).tdiv ((n : Nat) : Int) = ((65536 / n : Nat) : Int) := rfl
  rw [hq] at h2
  rw [Int.toNat_natCast]
  exact Nat.le_trans (Nat.mul_le_mul_right n (show zs.length ≤ 65536 / n by omega)) (Nat.div_mul_le_self _ _)
theorem shrP_len {zs : List Bool} {k : Int} : (shrP zs k).1.length ≤ zs.length := by
  unfold shrP
  split
  · simp
  split
  · simp
  split
  · simp
  · rename_i o ho; exact (shr_len ho).1
theorem good_len {zs p : List Int} {T : Int} (h : Good zs T p) : p.length = zs.length := h.len
-- @FN 5
/-- barscanlaw10.RunsQuantizes -/
theorem law5 {c : Option Nat} {off cap : Nat} {cs : List Value} {rw : Bool} {zs : List Int} {T : Int} (hz : (cs.drop off).take zs.length = zs.map (Value.int .i64)) (hl : zs.length ≤ 9223372036854775807) (hT : -9223372036854775808 ≤ T ∧ T ≤ 9223372036854775807) :
    SC Try.prog 5 [gv c off zs.length cap, .int .i64 T] [(c, .cells cs 3 rw)] LawT := by
  refine SC.enter Try.func5 rfl (by rw [Try.ntmps5]; simp) fun σ hσ => ?_
  rw [Try.ntmps5]
  repeat (first | refine SGo.seq ?_ | refine SGo.skip ?_ | refine SGo.inBlock ?_ | refine SGo.block ?_ | refine SGo.scope ?_ | refine SGo.inScope ?_ | refine SGo.label ?_ | refine SGo.exit rfl ?_)
  refine SGo.reg ?_
  refine SReg.as rfl rfl rfl ?_
  refine SReg.nil ?_
  repeat (first | refine SGo.seq ?_ | refine SGo.skip ?_ | refine SGo.inBlock ?_ | refine SGo.block ?_ | refine SGo.scope ?_ | refine SGo.inScope ?_ | refine SGo.label ?_ | refine SGo.exit rfl ?_)
  repeat (first | refine SGo.seq ?_ | refine SGo.skip ?_ | refine SGo.inBlock ?_ | refine SGo.block ?_ | refine SGo.scope ?_ | refine SGo.inScope ?_ | refine SGo.label ?_ | refine SGo.exit rfl ?_)
  refine SGo.reg ?_
  refine SReg.mv rfl rfl rfl ?_
  refine SReg.valG rfl rfl (sx_lenG rfl (tf (by rfl)) (by first | exact hz_nil (by assumption) | exact map_nil | exact len_nil (by first | assumption | rfl | (simp; done)))) ?_
  refine SReg.ex rfl rfl (fun _ _ => by first | exact ex_bool (ex_gtr rfl rfl) (by assumption) | exact ex_gtr rfl rfl) ?_
  refine SReg.mv rfl rfl rfl ?_
  refine SReg.join (fun fr' => Has [(0, gv c off zs.length cap), (1, .int .i64 T), (19, .bool (decide ((zs.length : Int) > 60) || (decide (T > 500) && decide (T ≤ 65536))))] fr') ?_ fun nx => ?_
  rotate_left
  · skip
    cases g : decide ((zs.length : Int) > 60) with
    | true =>
      first | refine SReg.skipG rfl rfl ?_ | (refine SReg.mv rfl rfl rfl ?_)
      first | refine SReg.skipG rfl rfl ?_ | (refine SReg.ex rfl rfl (fun _ _ => by first | exact ex_bool (ex_gtr rfl rfl) (by assumption) | exact ex_gtr rfl rfl) ?_)
      first | refine SReg.skipG rfl rfl ?_ | (refine SReg.mv rfl rfl rfl ?_)
      first | refine SReg.skipG rfl rfl ?_ | (refine SReg.mv rfl rfl rfl ?_)
      first | refine SReg.skipG rfl rfl ?_ | (refine SReg.ex rfl rfl (fun _ _ => by first | exact ex_bool (ex_leq rfl rfl) (by assumption) | exact ex_leq rfl rfl) ?_)
      first | refine SReg.skipG rfl rfl ?_ | (refine SReg.ex rfl rfl (fun _ _ => by first | exact ex_pickT rfl rfl | exact ex_pickF rfl rfl) ?_)
      refine SReg.ex rfl rfl (fun _ _ => by first | exact ex_pickT rfl rfl | exact ex_pickF rfl rfl) ?_
      refine SReg.nil ?_
      repeat (first | refine SGo.seq ?_ | refine SGo.skip ?_ | refine SGo.inBlock ?_ | refine SGo.block ?_ | refine SGo.scope ?_ | refine SGo.inScope ?_ | refine SGo.label ?_ | refine SGo.exit rfl ?_)
      exact nx _ ⟨rfl, rfl, by rw [g, Bool.true_or]; rfl, trivial⟩
    | false =>
      first | refine SReg.skipG rfl rfl ?_ | (refine SReg.mv rfl rfl rfl ?_)
      first | refine SReg.skipG rfl rfl ?_ | (refine SReg.ex rfl rfl (fun _ _ => by first | exact ex_bool (ex_gtr rfl rfl) (by assumption) | exact ex_gtr rfl rfl) ?_)
      first | refine SReg.skipG rfl rfl ?_ | (refine SReg.mv rfl rfl rfl ?_)
      cases g2 : decide (T > 500) with
      | true =>
        first | refine SReg.skipG rfl rfl ?_ | (refine SReg.mv rfl rfl rfl ?_)
        first | refine SReg.skipG rfl rfl ?_ | (refine SReg.ex rfl rfl (fun _ _ => by first | exact ex_bool (ex_leq rfl rfl) (by assumption) | exact ex_leq rfl rfl) ?_)
        first | refine SReg.skipG rfl rfl ?_ | (refine SReg.ex rfl rfl (fun _ _ => by first | exact ex_pickT rfl rfl | exact ex_pickF rfl rfl) ?_)
        refine SReg.ex rfl rfl (fun _ _ => by first | exact ex_pickT rfl rfl | exact ex_pickF rfl rfl) ?_
        refine SReg.nil ?_
        repeat (first | refine SGo.seq ?_ | refine SGo.skip ?_ | refine SGo.inBlock ?_ | refine SGo.block ?_ | refine SGo.scope ?_ | refine SGo.inScope ?_ | refine SGo.label ?_ | refine SGo.exit rfl ?_)
        exact nx _ ⟨rfl, rfl, by rw [g, g2, Bool.false_or, Bool.true_and]; rfl, trivial⟩
      | false =>
        first | refine SReg.skipG rfl rfl ?_ | (refine SReg.mv rfl rfl rfl ?_)
        first | refine SReg.skipG rfl rfl ?_ | (refine SReg.ex rfl rfl (fun _ _ => by first | exact ex_bool (ex_leq rfl rfl) (by assumption) | exact ex_leq rfl rfl) ?_)
        first | refine SReg.skipG rfl rfl ?_ | (refine SReg.ex rfl rfl (fun _ _ => by first | exact ex_pickT rfl rfl | exact ex_pickF rfl rfl) ?_)
        refine SReg.ex rfl rfl (fun _ _ => by first | exact ex_pickT rfl rfl | exact ex_pickF rfl rfl) ?_
        refine SReg.nil ?_
        repeat (first | refine SGo.seq ?_ | refine SGo.skip ?_ | refine SGo.inBlock ?_ | refine SGo.block ?_ | refine SGo.scope ?_ | refine SGo.inScope ?_ | refine SGo.label ?_ | refine SGo.exit rfl ?_)
        exact nx _ ⟨rfl, rfl, by rw [g, g2, Bool.false_or, Bool.false_and]; rfl, trivial⟩
  intro fr' hF
  refine SGo.has hF ?_
  refine SGo.condB rfl (fun h => ?_) (fun h => ?_)
  · repeat (first | refine SGo.seq ?_ | refine SGo.skip ?_ | refine SGo.inBlock ?_ | refine SGo.block ?_ | refine SGo.scope ?_ | refine SGo.inScope ?_ | refine SGo.label ?_ | refine SGo.exit rfl ?_)
    refine SGo.reg ?_
    refine SReg.go alive10 rfl rfl (by kernel_rfl) ⟨_, .refl _, List.nil_sublist _⟩ ?_
    rintro _ _ ⟨rfl, rfl⟩
    dsimp only [List.cons_append, List.nil_append]
    refine SReg.as rfl rfl rfl ?_
    refine SReg.nil ?_
    repeat (first | refine SGo.seq ?_ | refine SGo.skip ?_ | refine SGo.inBlock ?_ | refine SGo.block ?_ | refine SGo.scope ?_ | refine SGo.inScope ?_ | refine SGo.label ?_ | refine SGo.exit rfl ?_)
    exact SGo.ret Try.func5 (fun τ hτ => ares_tmp rfl ares_nil) fun τ hτ => SRet.mk hτ (List.nil_sublist _) ⟨rfl, rfl⟩
  have h' : zs.length ≤ 60 ∧ (T ≤ 500 ∨ T > 65536) := by
    simp only [Bool.or_eq_false_iff, decide_eq_false_iff_not, Bool.and_eq_false_iff] at h
    omega
  repeat (first | refine SGo.seq ?_ | refine SGo.skip ?_ | refine SGo.inBlock ?_ | refine SGo.block ?_ | refine SGo.scope ?_ | refine SGo.inScope ?_ | refine SGo.label ?_ | refine SGo.exit rfl ?_)
  refine SGo.reg ?_
  refine SReg.mv rfl rfl rfl ?_
  refine SReg.mv rfl rfl rfl ?_
  refine SReg.go (quantize19 hz h'.1 h'.2 hT) rfl rfl (by kernel_rfl) ⟨_, .refl _, .refl _⟩ ?_
  intro v l1 hv
  have hv' : ∃ p, (qE zs T = 0 → Good zs T p) ∧ RIE (if qE zs T = 0 then p else []) (qE zs T) v l1 := by
    rcases hv with ⟨h0, h1⟩ | ⟨h0, p, h1, h2⟩
    · exact ⟨[], fun h => absurd h h0, by rw [if_neg h0]; exact h1⟩
    · exact ⟨p, fun _ => h1, by rw [if_pos h0, h0]; exact h2⟩
  clear hv
  obtain ⟨p, hp, c1, rfl, rfl⟩ := hv'
  dsimp only [List.cons_append, List.nil_append]
  refine SReg.mv rfl rfl rfl ?_
  refine SReg.ex rfl rfl (fun _ _ => ex_extract rfl rfl) ?_
  refine SReg.ex rfl rfl (fun _ _ => ex_extract rfl rfl) ?_
  refine SReg.as rfl rfl rfl ?_
  refine SReg.as rfl rfl rfl ?_
  refine SReg.nil ?_
  repeat (first | refine SGo.seq ?_ | refine SGo.skip ?_ | refine SGo.inBlock ?_ | refine SGo.block ?_ | refine SGo.scope ?_ | refine SGo.inScope ?_ | refine SGo.label ?_ | refine SGo.exit rfl ?_)
  repeat (first | refine SGo.seq ?_ | refine SGo.skip ?_ | refine SGo.inBlock ?_ | refine SGo.block ?_ | refine SGo.scope ?_ | refine SGo.inScope ?_ | refine SGo.label ?_ | refine SGo.exit rfl ?_)
  refine SGo.reg ?_
  refine SReg.mv rfl rfl rfl ?_
  refine SReg.mv rfl rfl rfl ?_
  refine SReg.go (refQuantize20 hz h'.1 h'.2 hT hp) rfl rfl (by kernel_rfl) ⟨_, .refl _, .cons_cons _ (List.nil_sublist _)⟩ ?_
  rintro _ _ ⟨c2, rfl, rfl⟩
  dsimp only [List.cons_append, List.nil_append]
  refine SReg.mv rfl rfl rfl ?_
  refine SReg.ex rfl rfl (fun _ _ => ex_extract rfl rfl) ?_
  refine SReg.ex rfl rfl (fun _ _ => ex_extract rfl rfl) ?_
  refine SReg.as rfl rfl rfl ?_
  refine SReg.as rfl rfl rfl ?_
  refine SReg.nil ?_
  repeat (first | refine SGo.seq ?_ | refine SGo.skip ?_ | refine SGo.inBlock ?_ | refine SGo.block ?_ | refine SGo.scope ?_ | refine SGo.inScope ?_ | refine SGo.label ?_ | refine SGo.exit rfl ?_)
  have hml : (if qE zs T = 0 then p else []).length ≤ 60 := by
    split
    · rename_i h0; rw [(hp h0).len]; exact h'.1
    · simp
  generalize (if qE zs T = 0 then p else []) = m at *
  generalize qE zs T = e at *
  refine SGo.has (F := [(5, sv c1 m.length), (6, .int .i64 e), (7, sv c2 m.length), (8, .int .i64 e)]) ⟨rfl, rfl, rfl, rfl, trivial⟩ ?_
  have g1 : decide (e = e) = true := decide_eq_true rfl
  repeat (first | refine SGo.seq ?_ | refine SGo.skip ?_ | refine SGo.inBlock ?_ | refine SGo.block ?_ | refine SGo.scope ?_ | refine SGo.inScope ?_ | refine SGo.label ?_ | refine SGo.exit rfl ?_)
  refine SGo.reg ?_
  refine SReg.mv rfl rfl rfl ?_
  refine SReg.mv rfl rfl rfl ?_
  refine SReg.go (ints16 (hz_full m _) (hz_full m _) (by omega)) rfl rfl (by kernel_rfl) ⟨_, .swap _ _ _, .cons _ (.refl _)⟩ ?_
  rintro _ _ ⟨rfl, rfl⟩
  rw [decide_eq_true (rfl : m = m)]
  dsimp only [List.cons_append, List.nil_append]
  refine SReg.mv rfl rfl rfl ?_
  first | refine SReg.skipG rfl rfl ?_ | (refine SReg.mv rfl rfl rfl ?_)
  first | refine SReg.skipG rfl rfl ?_ | (refine SReg.mv rfl rfl rfl ?_)
  first | refine SReg.skipG rfl rfl ?_ | (refine SReg.ex rfl rfl (fun _ _ => by first | exact ex_bool (ex_eql rfl rfl) (by assumption) | exact ex_eql rfl rfl) ?_)
  refine SReg.ex rfl rfl (fun _ _ => by first | exact ex_pickT rfl rfl | exact ex_pickF rfl rfl) ?_
  refine SReg.mv rfl rfl rfl ?_
  refine SReg.goG alive10 rfl rfl rfl (by kernel_rfl) ⟨_, .refl _, List.nil_sublist _⟩ ?_
  rintro _ _ ⟨rfl, rfl⟩
  dsimp only [List.cons_append, List.nil_append]
  refine SReg.ex rfl rfl (fun _ _ => by first | exact ex_pickT rfl rfl | exact ex_pickF rfl rfl) ?_
  refine SReg.as rfl rfl rfl ?_
  refine SReg.nil ?_
  repeat (first | refine SGo.seq ?_ | refine SGo.skip ?_ | refine SGo.inBlock ?_ | refine SGo.block ?_ | refine SGo.scope ?_ | refine SGo.inScope ?_ | refine SGo.label ?_ | refine SGo.exit rfl ?_)
  exact SGo.ret Try.func5 (fun τ hτ => ares_tmp rfl ares_nil) fun τ hτ => SRet.mk hτ (List.nil_sublist _) ⟨rfl, rfl⟩
-- @FN 7
/-- barscanlaw10.RunsScales -/
theorem law7 {c : Option Nat} {off cap : Nat} {cs : List Value} {rw : Bool} {zs : List Bool} {T : Int} (hz : (cs.drop off).take zs.length = zs.map Value.bool) (hl : zs.length ≤ 9223372036854775807) (hT : -9223372036854775808 ≤ T ∧ T ≤ 9223372036854775807) :
    SC Try.prog 7 [gv c off zs.length cap, .int .i64 T] [(c, .cells cs 4 rw)] LawT := by
  refine SC.enter Try.func7 rfl (by rw [Try.ntmps7]; simp) fun σ hσ => ?_
  rw [Try.ntmps7]
  repeat (first | refine SGo.seq ?_ | refine SGo.skip ?_ | refine SGo.inBlock ?_ | refine SGo.block ?_ | refine SGo.scope ?_ | refine SGo.inScope ?_ | refine SGo.label ?_ | refine SGo.exit rfl ?_)
  refine SGo.reg ?_
  refine SReg.as rfl rfl rfl ?_
  refine SReg.nil ?_
  repeat (first | refine SGo.seq ?_ | refine SGo.skip ?_ | refine SGo.inBlock ?_ | refine SGo.block ?_ | refine SGo.scope ?_ | refine SGo.inScope ?_ | refine SGo.label ?_ | refine SGo.exit rfl ?_)
  repeat (first | refine SGo.seq ?_ | refine SGo.skip ?_ | refine SGo.inBlock ?_ | refine SGo.block ?_ | refine SGo.scope ?_ | refine SGo.inScope ?_ | refine SGo.label ?_ | refine SGo.exit rfl ?_)
  refine SGo.reg ?_
  refine SReg.mv rfl rfl rfl ?_
  refine SReg.valG rfl rfl (sx_lenG rfl (tf (by rfl)) (by first | exact hz_nil (by assumption) | exact map_nil | exact len_nil (by first | assumption | rfl | (simp; done)))) ?_
  refine SReg.ex rfl rfl (fun _ _ => by first | exact ex_bool (ex_gtr rfl rfl) (by assumption) | exact ex_gtr rfl rfl) ?_
  refine SReg.mv rfl rfl rfl ?_
  refine SReg.join (fun fr' => Has [(0, gv c off zs.length cap), (1, .int .i64 T), (23, .bool (decide ((zs.length : Int) > 300) || (decide (T > 100) && decide (T ≤ 65536))))] fr') ?_ fun nx => ?_
  rotate_left
  · skip
    cases g : decide ((zs.length : Int) > 300) with
    | true =>
      first | refine SReg.skipG rfl rfl ?_ | (refine SReg.mv rfl rfl rfl ?_)
      first | refine SReg.skipG rfl rfl ?_ | (refine SReg.ex rfl rfl (fun _ _ => by first | exact ex_bool (ex_gtr rfl rfl) (by assumption) | exact ex_gtr rfl rfl) ?_)
      first | refine SReg.skipG rfl rfl ?_ | (refine SReg.mv rfl rfl rfl ?_)
      first | refine SReg.skipG rfl rfl ?_ | (refine SReg.mv rfl rfl rfl ?_)
      first | refine SReg.skipG rfl rfl ?_ | (refine SReg.ex rfl rfl (fun _ _ => by first | exact ex_bool (ex_leq rfl rfl) (by assumption) | exact ex_leq rfl rfl) ?_)
      first | refine SReg.skipG rfl rfl ?_ | (refine SReg.ex rfl rfl (fun _ _ => by first | exact ex_pickT rfl rfl | exact ex_pickF rfl rfl) ?_)
      refine SReg.ex rfl rfl (fun _ _ => by first | exact ex_pickT rfl rfl | exact ex_pickF rfl rfl) ?_
      refine SReg.nil ?_
      repeat (first | refine SGo.seq ?_ | refine SGo.skip ?_ | refine SGo.inBlock ?_ | refine SGo.block ?_ | refine SGo.scope ?_ | refine SGo.inScope ?_ | refine SGo.label ?_ | refine SGo.exit rfl ?_)
      exact nx _ ⟨rfl, rfl, by rw [g, Bool.true_or]; rfl, trivial⟩
    | false =>
      first | refine SReg.skipG rfl rfl ?_ | (refine SReg.mv rfl rfl rfl ?_)
      first | refine SReg.skipG rfl rfl ?_ | (refine SReg.ex rfl rfl (fun _ _ => by first | exact ex_bool (ex_gtr rfl rfl) (by assumption) | exact ex_gtr rfl rfl) ?_)
      first | refine SReg.skipG rfl rfl ?_ | (refine SReg.mv rfl rfl rfl ?_)
      cases g2 : decide (T > 100) with
      | true =>
        first | refine SReg.skipG rfl rfl ?_ | (refine SReg.mv rfl rfl rfl ?_)
        first | refine SReg.skipG rfl rfl ?_ | (refine SReg.ex rfl rfl (fun _ _ => by first | exact ex_bool (ex_leq rfl rfl) (by assumption) | exact ex_leq rfl rfl) ?_)
        first | refine SReg.skipG rfl rfl ?_ | (refine SReg.ex rfl rfl (fun _ _ => by first | exact ex_pickT rfl rfl | exact ex_pickF rfl rfl) ?_)
        refine SReg.ex rfl rfl (fun _ _ => by first | exact ex_pickT rfl rfl | exact ex_pickF rfl rfl) ?_
        refine SReg.nil ?_
        repeat (first | refine SGo.seq ?_ | refine SGo.skip ?_ | refine SGo.inBlock ?_ | refine SGo.block ?_ | refine SGo.scope ?_ | refine SGo.inScope ?_ | refine SGo.label ?_ | refine SGo.exit rfl ?_)
        exact nx _ ⟨rfl, rfl, by rw [g, g2, Bool.false_or, Bool.true_and]; rfl, trivial⟩
      | false =>
        first | refine SReg.skipG rfl rfl ?_ | (refine SReg.mv rfl rfl rfl ?_)
        first | refine SReg.skipG rfl rfl ?_ | (refine SReg.ex rfl rfl (fun _ _ => by first | exact ex_bool (ex_leq rfl rfl) (by assumption) | exact ex_leq rfl rfl) ?_)
        first | refine SReg.skipG rfl rfl ?_ | (refine SReg.ex rfl rfl (fun _ _ => by first | exact ex_pickT rfl rfl | exact ex_pickF rfl rfl) ?_)
        refine SReg.ex rfl rfl (fun _ _ => by first | exact ex_pickT rfl rfl | exact ex_pickF rfl rfl) ?_
        refine SReg.nil ?_
        repeat (first | refine SGo.seq ?_ | refine SGo.skip ?_ | refine SGo.inBlock ?_ | refine SGo.block ?_ | refine SGo.scope ?_ | refine SGo.inScope ?_ | refine SGo.label ?_ | refine SGo.exit rfl ?_)
        exact nx _ ⟨rfl, rfl, by rw [g, g2, Bool.false_or, Bool.false_and]; rfl, trivial⟩
  intro fr' hF
  refine SGo.has hF ?_
  refine SGo.condB rfl (fun h => ?_) (fun h => ?_)
  · repeat (first | refine SGo.seq ?_ | refine SGo.skip ?_ | refine SGo.inBlock ?_ | refine SGo.block ?_ | refine SGo.scope ?_ | refine SGo.inScope ?_ | refine SGo.label ?_ | refine SGo.exit rfl ?_)
    refine SGo.reg ?_
    refine SReg.go alive10 rfl rfl (by kernel_rfl) ⟨_, .refl _, List.nil_sublist _⟩ ?_
    rintro _ _ ⟨rfl, rfl⟩
    dsimp only [List.cons_append, List.nil_append]
    refine SReg.as rfl rfl rfl ?_
    refine SReg.nil ?_
    repeat (first | refine SGo.seq ?_ | refine SGo.skip ?_ | refine SGo.inBlock ?_ | refine SGo.block ?_ | refine SGo.scope ?_ | refine SGo.inScope ?_ | refine SGo.label ?_ | refine SGo.exit rfl ?_)
    exact SGo.ret Try.func7 (fun τ hτ => ares_tmp rfl ares_nil) fun τ hτ => SRet.mk hτ (List.nil_sublist _) ⟨rfl, rfl⟩
  have h' : zs.length ≤ 300 := by
    simp only [Bool.or_eq_false_iff, decide_eq_false_iff_not] at h
    omega
  repeat (first | refine SGo.seq ?_ | refine SGo.skip ?_ | refine SGo.inBlock ?_ | refine SGo.block ?_ | refine SGo.scope ?_ | refine SGo.inScope ?_ | refine SGo.label ?_ | refine SGo.exit rfl ?_)
  refine SGo.reg ?_
  refine SReg.mv rfl rfl rfl ?_
  refine SReg.mv rfl rfl rfl ?_
  refine SReg.go (stretch21 hz (by omega)) rfl rfl (by kernel_rfl) ⟨_, .refl _, .refl _⟩ ?_
  rintro _ _ ⟨c1, rfl, rfl⟩
  dsimp only [List.cons_append, List.nil_append]
  refine SReg.mv rfl rfl rfl ?_
  refine SReg.ex rfl rfl (fun _ _ => ex_extract rfl rfl) ?_
  refine SReg.ex rfl rfl (fun _ _ => ex_extract rfl rfl) ?_
  refine SReg.as rfl rfl rfl ?_
  refine SReg.as rfl rfl rfl ?_
  refine SReg.nil ?_
  repeat (first | refine SGo.seq ?_ | refine SGo.skip ?_ | refine SGo.inBlock ?_ | refine SGo.block ?_ | refine SGo.scope ?_ | refine SGo.inScope ?_ | refine SGo.label ?_ | refine SGo.exit rfl ?_)
  repeat (first | refine SGo.seq ?_ | refine SGo.skip ?_ | refine SGo.inBlock ?_ | refine SGo.block ?_ | refine SGo.scope ?_ | refine SGo.inScope ?_ | refine SGo.label ?_ | refine SGo.exit rfl ?_)
  refine SGo.reg ?_
  refine SReg.mv rfl rfl rfl ?_
  refine SReg.mv rfl rfl rfl ?_
  refine SReg.go (refStretch22 hz (by omega)) rfl rfl (by kernel_rfl) ⟨_, .refl _, .cons_cons _ (List.nil_sublist _)⟩ ?_
  rintro _ _ ⟨c2, rfl, rfl⟩
  dsimp only [List.cons_append, List.nil_append]
  refine SReg.mv rfl rfl rfl ?_
  refine SReg.ex rfl rfl (fun _ _ => ex_extract rfl rfl) ?_
  refine SReg.ex rfl rfl (fun _ _ => ex_extract rfl rfl) ?_
  refine SReg.as rfl rfl rfl ?_
  refine SReg.as rfl rfl rfl ?_
  refine SReg.nil ?_
  repeat (first | refine SGo.seq ?_ | refine SGo.skip ?_ | refine SGo.inBlock ?_ | refine SGo.block ?_ | refine SGo.scope ?_ | refine SGo.inScope ?_ | refine SGo.label ?_ | refine SGo.exit rfl ?_)
  have hm1 := @strP_len zs T
  obtain ⟨⟨m, e⟩, hme⟩ : ∃ x, strP zs T = x := ⟨_, rfl⟩
  rw [hme] at hm1 ⊢
  simp only at hm1
  refine SGo.has (F := [(0, gv c off zs.length cap), (1, .int .i64 T), (5, sv c1 m.length), (6, .int .i64 e), (7, sv c2 m.length), (8, .int .i64 e)]) ⟨rfl, rfl, rfl, rfl, rfl, rfl, trivial⟩ ?_
  repeat (first | refine SGo.seq ?_ | refine SGo.skip ?_ | refine SGo.inBlock ?_ | refine SGo.block ?_ | refine SGo.scope ?_ | refine SGo.inScope ?_ | refine SGo.label ?_ | refine SGo.exit rfl ?_)
  refine SGo.reg ?_
  refine SReg.mv rfl rfl rfl ?_
  refine SReg.mv rfl rfl rfl ?_
  refine SReg.go (shrink23 hz (by omega)) rfl rfl (by kernel_rfl) ⟨_, .refl _, .cons_cons _ (List.nil_sublist _)⟩ ?_
  rintro _ _ ⟨c3, rfl, rfl⟩
  dsimp only [List.cons_append, List.nil_append]
  refine SReg.mv rfl rfl rfl ?_
  refine SReg.ex rfl rfl (fun _ _ => ex_extract rfl rfl) ?_
  refine SReg.ex rfl rfl (fun _ _ => ex_extract rfl rfl) ?_
  refine SReg.as rfl rfl rfl ?_
  refine SReg.as rfl rfl rfl ?_
  refine SReg.nil ?_
  repeat (first | refine SGo.seq ?_ | refine SGo.skip ?_ | refine SGo.inBlock ?_ | refine SGo.block ?_ | refine SGo.scope ?_ | refine SGo.inScope ?_ | refine SGo.label ?_ | refine SGo.exit rfl ?_)
  repeat (first | refine SGo.seq ?_ | refine SGo.skip ?_ | refine SGo.inBlock ?_ | refine SGo.block ?_ | refine SGo.scope ?_ | refine SGo.inScope ?_ | refine SGo.label ?_ | refine SGo.exit rfl ?_)
  refine SGo.reg ?_
  refine SReg.mv rfl rfl rfl ?_
  refine SReg.mv rfl rfl rfl ?_
  refine SReg.go (refShrink24 hz (by omega)) rfl rfl (by kernel_rfl) ⟨_, .refl _, .cons_cons _ (List.nil_sublist _)⟩ ?_
  rintro _ _ ⟨c4, rfl, rfl⟩
  dsimp only [List.cons_append, List.nil_append]
  refine SReg.mv rfl rfl rfl ?_
  refine SReg.ex rfl rfl (fun _ _ => ex_extract rfl rfl) ?_
  refine SReg.ex rfl rfl (fun _ _ => ex_extract rfl rfl) ?_
  refine SReg.as rfl rfl rfl ?_
  refine SReg.as rfl rfl rfl ?_
  refine SReg.nil ?_
  repeat (first | refine SGo.seq ?_ | refine SGo.skip ?_ | refine SGo.inBlock ?_ | refine SGo.block ?_ | refine SGo.scope ?_ | refine SGo.inScope ?_ | refine SGo.label ?_ | refine SGo.exit rfl ?_)
  have hm2 := @shrP_len zs T
  obtain ⟨⟨n, e2⟩, hne⟩ : ∃ x, shrP zs T = x := ⟨_, rfl⟩
  rw [hne] at hm2 ⊢
  simp only at hm2
  refine SGo.has (F := [(5, sv c1 m.length), (6, .int .i64 e), (7, sv c2 m.length), (8, .int .i64 e), (9, sv c3 n.length), (10, .int .i64 e2), (11, sv c4 n.length), (12, .int .i64 e2)]) ⟨rfl, rfl, rfl, rfl, rfl, rfl, rfl, rfl, trivial⟩ ?_
  have g1 : decide (e = e) = true := decide_eq_true rfl
  have g2 : decide (e2 = e2) = true := decide_eq_true rfl
  repeat (first | refine SGo.seq ?_ | refine SGo.skip ?_ | refine SGo.inBlock ?_ | refine SGo.block ?_ | refine SGo.scope ?_ | refine SGo.inScope ?_ | refine SGo.label ?_ | refine SGo.exit rfl ?_)
  refine SGo.reg ?_
  refine SReg.mv rfl rfl rfl ?_
  refine SReg.mv rfl rfl rfl ?_
  refine SReg.go (same13 (hz_full m _) (hz_full m _) (by omega)) rfl rfl (by kernel_rfl) ⟨_, .swap _ _ _, .cons _ (.cons _ (.cons _ (.refl _)))⟩ ?_
  rintro _ _ ⟨rfl, rfl⟩
  rw [decide_eq_true (rfl : m = m)]
  dsimp only [List.cons_append, List.nil_append]
  refine SReg.mv rfl rfl rfl ?_
  first | refine SReg.skipG rfl rfl ?_ | (refine SReg.mv rfl rfl rfl ?_)
  first | refine SReg.skipG rfl rfl ?_ | (refine SReg.mv rfl rfl rfl ?_)
  first | refine SReg.skipG rfl rfl ?_ | (refine SReg.ex rfl rfl (fun _ _ => by first | exact ex_bool (ex_eql rfl rfl) (by assumption) | exact ex_eql rfl rfl) ?_)
  refine SReg.ex rfl rfl (fun _ _ => by first | exact ex_pickT rfl rfl | exact ex_pickF rfl rfl) ?_
  refine SReg.mv rfl rfl rfl ?_
  first | refine SReg.skipG rfl rfl ?_ | (refine SReg.mv rfl rfl rfl ?_)
  first | refine SReg.skipG rfl rfl ?_ | (refine SReg.mv rfl rfl rfl ?_)
  refine SReg.goG (same13 (hz_full n _) (hz_full n _) (by omega)) rfl rfl rfl (by kernel_rfl) ⟨_, .swap _ _ _, .cons _ (.cons_cons _ (.cons_cons _ (List.nil_sublist _)))⟩ ?_
  rintro _ _ ⟨rfl, rfl⟩
  rw [decide_eq_true (rfl : n = n)]
  dsimp only [List.cons_append, List.nil_append]
  refine SReg.ex rfl rfl (fun _ _ => by first | exact ex_pickT rfl rfl | exact ex_pickF rfl rfl) ?_
  refine SReg.mv rfl rfl rfl ?_
  first | refine SReg.skipG rfl rfl ?_ | (refine SReg.mv rfl rfl rfl ?_)
  first | refine SReg.skipG rfl rfl ?_ | (refine SReg.mv rfl rfl rfl ?_)
  first | refine SReg.skipG rfl rfl ?_ | (refine SReg.ex rfl rfl (fun _ _ => by first | exact ex_bool (ex_eql rfl rfl) (by assumption) | exact ex_eql rfl rfl) ?_)
  refine SReg.ex rfl rfl (fun _ _ => by first | exact ex_pickT rfl rfl | exact ex_pickF rfl rfl) ?_
  refine SReg.mv rfl rfl rfl ?_
  refine SReg.goG alive10 rfl rfl rfl (by kernel_rfl) ⟨_, .refl _, List.nil_sublist _⟩ ?_
  rintro _ _ ⟨rfl, rfl⟩
  dsimp only [List.cons_append, List.nil_append]
  refine SReg.ex rfl rfl (fun _ _ => by first | exact ex_pickT rfl rfl | exact ex_pickF rfl rfl) ?_
  refine SReg.as rfl rfl rfl ?_
  refine SReg.nil ?_
  repeat (first | refine SGo.seq ?_ | refine SGo.skip ?_ | refine SGo.inBlock ?_ | refine SGo.block ?_ | refine SGo.scope ?_ | refine SGo.inScope ?_ | refine SGo.label ?_ | refine SGo.exit rfl ?_)
  exact SGo.ret Try.func7 (fun τ hτ => ares_tmp rfl ares_nil) fun τ hτ => SRet.mk hτ (List.nil_sublist _) ⟨rfl, rfl⟩
end Go.Abs.Run
