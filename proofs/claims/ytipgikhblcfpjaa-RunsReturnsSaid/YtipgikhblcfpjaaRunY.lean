/- A part of the proof: contracts of functions of the program, shown by walking through their code in an abstract machine. Condition: none. -/
import Derived.Test.YtipgikhblcfpjaaRunX
import Derived.Test.YtipgikhblcfpjaaRunZp
set_option linter.unusedVariables false
set_option linter.unusedSimpArgs false
namespace Go.Abs.Run
open Go Go.Proofs
set_option maxHeartbeats 8000000
set_option maxRecDepth 8000
-- @SEAT 10
-- @FN 8
/-- barscanlaw10.RunsReturns -/
theorem law8 {c : Option Nat} {off cap : Nat} {cs : List Value} {rw : Bool} {zs : List Bool} {T : Int} (hz : (cs.drop off).take zs.length = zs.map Value.bool) (hcs : off + cap = cs.length) (hl : zs.length ≤ 9223372036854775807) (hT : -9223372036854775808 ≤ T ∧ T ≤ 9223372036854775807) :
    SC Try.prog 8 [gv c off zs.length cap, .int .i64 T] [(c, .cells cs 4 rw)] LawT := by
  refine SC.enter Try.func8 rfl (by rw [Try.ntmps8]; simp) fun σ hσ => ?_
  rw [Try.ntmps8]
  have hcap : zs.length ≤ cap := by
    have := congrArg List.length hz
    rw [List.length_take, List.length_drop, List.length_map] at this
    omega
  repeat (first | refine SGo.seq ?_ | refine SGo.skip ?_ | refine SGo.inBlock ?_ | refine SGo.block ?_ | refine SGo.scope ?_ | refine SGo.inScope ?_ | refine SGo.label ?_ | refine SGo.exit rfl ?_)
  refine SGo.reg ?_
  refine SReg.as rfl rfl rfl ?_
  refine SReg.nil ?_
  repeat (first | refine SGo.seq ?_ | refine SGo.skip ?_ | refine SGo.inBlock ?_ | refine SGo.block ?_ | refine SGo.scope ?_ | refine SGo.inScope ?_ | refine SGo.label ?_ | refine SGo.exit rfl ?_)
  repeat (first | refine SGo.seq ?_ | refine SGo.skip ?_ | refine SGo.inBlock ?_ | refine SGo.block ?_ | refine SGo.scope ?_ | refine SGo.inScope ?_ | refine SGo.label ?_ | refine SGo.exit rfl ?_)
  refine SGo.reg ?_
  refine SReg.mv rfl rfl rfl ?_
  refine SReg.valG rfl rfl (sx_lenG rfl (tf (by rfl)) (by first | exact hz_nil (by assumption) | exact map_nil | exact len_nil (by first | assumption | rfl | (simp; done)))) ?_
  refine SReg.ex rfl rfl (fun _ _ => by first | exact ex_bool (ex_gtr rfl rfl) (by assumption) | exact ex_gtr rfl rfl) ?_
  refine SReg.mv rfl rfl rfl ?_
  refine SReg.join (fun fr' => Has [(0, gv c off zs.length cap), (1, .int .i64 T), (26, .bool (decide ((zs.length : Int) > 300) || (decide (T < 1) || decide (T > 50))))] fr') ?_ fun nx => ?_
  rotate_left
  · skip
    cases g : decide ((zs.length : Int) > 300) with
    | true =>
      first | refine SReg.skipG rfl rfl ?_ | (refine SReg.mv rfl rfl rfl ?_)
      first | refine SReg.skipG rfl rfl ?_ | (refine SReg.ex rfl rfl (fun _ _ => by first | exact ex_bool (ex_lss rfl rfl) (by assumption) | exact ex_lss rfl rfl) ?_)
      refine SReg.ex rfl rfl (fun _ _ => by first | exact ex_pickT rfl rfl | exact ex_pickF rfl rfl) ?_
      refine SReg.mv rfl rfl rfl ?_
      first | refine SReg.skipG rfl rfl ?_ | (refine SReg.mv rfl rfl rfl ?_)
      first | refine SReg.skipG rfl rfl ?_ | (refine SReg.ex rfl rfl (fun _ _ => by first | exact ex_bool (ex_gtr rfl rfl) (by assumption) | exact ex_gtr rfl rfl) ?_)
      refine SReg.ex rfl rfl (fun _ _ => by first | exact ex_pickT rfl rfl | exact ex_pickF rfl rfl) ?_
      refine SReg.nil ?_
      repeat (first | refine SGo.seq ?_ | refine SGo.skip ?_ | refine SGo.inBlock ?_ | refine SGo.block ?_ | refine SGo.scope ?_ | refine SGo.inScope ?_ | refine SGo.label ?_ | refine SGo.exit rfl ?_)
      exact nx _ ⟨rfl, rfl, by rw [g, Bool.true_or]; rfl, trivial⟩
    | false =>
      first | refine SReg.skipG rfl rfl ?_ | (refine SReg.mv rfl rfl rfl ?_)
      first | refine SReg.skipG rfl rfl ?_ | (refine SReg.ex rfl rfl (fun _ _ => by first | exact ex_bool (ex_lss rfl rfl) (by assumption) | exact ex_lss rfl rfl) ?_)
      refine SReg.ex rfl rfl (fun _ _ => by first | exact ex_pickT rfl rfl | exact ex_pickF rfl rfl) ?_
      refine SReg.mv rfl rfl rfl ?_
      cases g2 : decide (T < 1) with
      | true =>
        first | refine SReg.skipG rfl rfl ?_ | (refine SReg.mv rfl rfl rfl ?_)
        first | refine SReg.skipG rfl rfl ?_ | (refine SReg.ex rfl rfl (fun _ _ => by first | exact ex_bool (ex_gtr rfl rfl) (by assumption) | exact ex_gtr rfl rfl) ?_)
        refine SReg.ex rfl rfl (fun _ _ => by first | exact ex_pickT rfl rfl | exact ex_pickF rfl rfl) ?_
        refine SReg.nil ?_
        repeat (first | refine SGo.seq ?_ | refine SGo.skip ?_ | refine SGo.inBlock ?_ | refine SGo.block ?_ | refine SGo.scope ?_ | refine SGo.inScope ?_ | refine SGo.label ?_ | refine SGo.exit rfl ?_)
        exact nx _ ⟨rfl, rfl, by rw [g, g2, Bool.false_or, Bool.true_or]; rfl, trivial⟩
      | false =>
        first | refine SReg.skipG rfl rfl ?_ | (refine SReg.mv rfl rfl rfl ?_)
        first | refine SReg.skipG rfl rfl ?_ | (refine SReg.ex rfl rfl (fun _ _ => by first | exact ex_bool (ex_gtr rfl rfl) (by assumption) | exact ex_gtr rfl rfl) ?_)
        refine SReg.ex rfl rfl (fun _ _ => by first | exact ex_pickT rfl rfl | exact ex_pickF rfl rfl) ?_
        refine SReg.nil ?_
        repeat (first | refine SGo.seq ?_ | refine SGo.skip ?_ | refine SGo.inBlock ?_ | refine SGo.block ?_ | refine SGo.scope ?_ | refine SGo.inScope ?_ | refine SGo.label ?_ | refine SGo.exit rfl ?_)
        exact nx _ ⟨rfl, rfl, by rw [g, g2, Bool.false_or, Bool.false_or]; rfl, trivial⟩
  intro fr' hF
  refine SGo.has hF ?_
  refine SGo.condB rfl (fun h => ?_) (fun h => ?_)
  · repeat (first | refine SGo.seq ?_ | refine SGo.skip ?_ | refine SGo.inBlock ?_ | refine SGo.block ?_ | refine SGo.scope ?_ | refine SGo.inScope ?_ | refine SGo.label ?_ | refine SGo.exit rfl ?_)
    refine SGo.reg ?_
    refine SReg.go alive10 rfl rfl (by kernel_rfl) ⟨_, .refl _, List.nil_sublist _⟩ ?_
    rintro _ _ ⟨rfl, rfl⟩
    dsimp only [List.cons_append, List.nil_append]
    refine SReg.as rfl rfl rfl ?_
    refine SReg.nil ?_
    repeat (first | refine SGo.seq ?_ | refine SGo.skip ?_ | refine SGo.inBlock ?_ | refine SGo.block ?_ | refine SGo.scope ?_ | refine SGo.inScope ?_ | refine SGo.label ?_ | refine SGo.exit rfl ?_)
    exact SGo.ret Try.func8 (fun τ hτ => ares_tmp rfl ares_nil) fun τ hτ => SRet.mk hτ (List.nil_sublist _) ⟨rfl, rfl⟩
  have h' : zs.length ≤ 300 ∧ 1 ≤ T ∧ T ≤ 50 := by
    simp only [Bool.or_eq_false_iff, decide_eq_false_iff_not] at h
    omega
  clear h
  obtain ⟨n, rfl⟩ : ∃ n : Nat, T = (n : Int) := ⟨T.toNat, by omega⟩
  repeat (first | refine SGo.seq ?_ | refine SGo.skip ?_ | refine SGo.inBlock ?_ | refine SGo.block ?_ | refine SGo.scope ?_ | refine SGo.inScope ?_ | refine SGo.label ?_ | refine SGo.exit rfl ?_)
  refine SGo.reg ?_
  refine SReg.mv rfl rfl rfl ?_
  refine SReg.go (widths17 hz (by omega)) rfl rfl (by kernel_rfl) ⟨_, .refl _, .refl _⟩ ?_
  rw [widths_same]
  rintro _ _ ⟨c1, cs1, rfl, rfl, hz1, hc1⟩
  dsimp only [List.cons_append, List.nil_append]
  refine SReg.as rfl rfl rfl ?_
  refine SReg.nil ?_
  repeat (first | refine SGo.seq ?_ | refine SGo.skip ?_ | refine SGo.inBlock ?_ | refine SGo.block ?_ | refine SGo.scope ?_ | refine SGo.inScope ?_ | refine SGo.label ?_ | refine SGo.exit rfl ?_)
  repeat (first | refine SGo.seq ?_ | refine SGo.skip ?_ | refine SGo.inBlock ?_ | refine SGo.block ?_ | refine SGo.scope ?_ | refine SGo.inScope ?_ | refine SGo.label ?_ | refine SGo.exit rfl ?_)
  refine SGo.reg ?_
  refine SReg.mv rfl rfl rfl ?_
  refine SReg.go (margins14 hz (by omega)) rfl rfl (by kernel_rfl) ⟨_, .refl _, .cons_cons _ (List.nil_sublist _)⟩ ?_
  rintro _ _ ⟨rfl, rfl⟩
  dsimp only [List.cons_append, List.nil_append]
  refine SReg.mv rfl rfl rfl ?_
  refine SReg.ex rfl rfl (fun _ _ => ex_extract rfl rfl) ?_
  refine SReg.ex rfl rfl (fun _ _ => ex_extract rfl rfl) ?_
  refine SReg.as rfl rfl rfl ?_
  refine SReg.as rfl rfl rfl ?_
  refine SReg.nil ?_
  repeat (first | refine SGo.seq ?_ | refine SGo.skip ?_ | refine SGo.inBlock ?_ | refine SGo.block ?_ | refine SGo.scope ?_ | refine SGo.inScope ?_ | refine SGo.label ?_ | refine SGo.exit rfl ?_)
  obtain ⟨a, ha⟩ : ∃ a, a = lm zs := ⟨_, rfl⟩
  obtain ⟨b, hb⟩ : ∃ b, b = lm zs.reverse := ⟨_, rfl⟩
  have hal := lm_le zs
  rw [← ha] at hal
  rw [← ha, ← hb]
  refine SGo.has (F := [(0, gv c off zs.length cap), (1, .int .i64 (n : Nat)), (5, gv c1 0 (refW zs).length cs1.length), (6, .int .i64 (a : Nat)), (7, .int .i64 (b : Nat))]) ⟨rfl, rfl, rfl, rfl, rfl, trivial⟩ ?_
  repeat (first | refine SGo.seq ?_ | refine SGo.skip ?_ | refine SGo.inBlock ?_ | refine SGo.block ?_ | refine SGo.scope ?_ | refine SGo.inScope ?_ | refine SGo.label ?_ | refine SGo.exit rfl ?_)
  refine SGo.reg ?_
  refine SReg.mv rfl rfl rfl ?_
  refine SReg.valG rfl rfl (sx_lenG rfl (tf (by rfl)) (by first | exact hz_nil (by assumption) | exact map_nil | exact len_nil (by first | assumption | rfl | (simp; done)))) ?_
  refine SReg.ex rfl rfl (fun _ _ => by first | exact ex_bool (ex_eql rfl rfl) (by assumption) | exact ex_eql rfl rfl) ?_
  refine SReg.nil ?_
  repeat (first | refine SGo.seq ?_ | refine SGo.skip ?_ | refine SGo.inBlock ?_ | refine SGo.block ?_ | refine SGo.scope ?_ | refine SGo.inScope ?_ | refine SGo.label ?_ | refine SGo.exit rfl ?_)
  by_cases hall : lm zs = zs.length
  · have hw0 : refW zs = [] := refW_light hall
    have hb0 : b = zs.length := hb.trans (lm_light hall)
    refine SGo.condT (by rw [hw0]; rfl) ?_
    have g1 : decide (((a : Nat) : Int) = ((zs.length : Nat) : Int)) = true := decide_eq_true (by omega)
    have g2 : decide (((b : Nat) : Int) = ((zs.length : Nat) : Int)) = true := decide_eq_true (by omega)
    repeat (first | refine SGo.seq ?_ | refine SGo.skip ?_ | refine SGo.inBlock ?_ | refine SGo.block ?_ | refine SGo.scope ?_ | refine SGo.inScope ?_ | refine SGo.label ?_ | refine SGo.exit rfl ?_)
    refine SGo.reg ?_
    refine SReg.mv rfl rfl rfl ?_
    refine SReg.mv rfl rfl rfl ?_
    refine SReg.valG rfl rfl (sx_lenG rfl (tf (by rfl)) (by first | exact hz_nil (by assumption) | exact map_nil | exact len_nil (by first | assumption | rfl | (simp; done)))) ?_
    refine SReg.ex rfl rfl (fun _ _ => by first | exact ex_bool (ex_eql rfl rfl) (by assumption) | exact ex_eql rfl rfl) ?_
    refine SReg.mv rfl rfl rfl ?_
    first | refine SReg.skipG rfl rfl ?_ | (refine SReg.mv rfl rfl rfl ?_)
    first | refine SReg.skipG rfl rfl ?_ | (refine SReg.mv rfl rfl rfl ?_)
    first | refine SReg.skipG rfl rfl ?_ | (refine SReg.valG rfl rfl (sx_lenG rfl (tf (by rfl)) (by first | exact hz_nil (by assumption) | exact map_nil | exact len_nil (by first | assumption | rfl | (simp; done)))) ?_)
    first | refine SReg.skipG rfl rfl ?_ | (refine SReg.ex rfl rfl (fun _ _ => by first | exact ex_bool (ex_eql rfl rfl) (by assumption) | exact ex_eql rfl rfl) ?_)
    refine SReg.ex rfl rfl (fun _ _ => by first | exact ex_pickT rfl rfl | exact ex_pickF rfl rfl) ?_
    refine SReg.mv rfl rfl rfl ?_
    refine SReg.goG alive10 rfl rfl rfl (by kernel_rfl) ⟨_, .refl _, List.nil_sublist _⟩ ?_
    rintro _ _ ⟨rfl, rfl⟩
    dsimp only [List.cons_append, List.nil_append]
    refine SReg.ex rfl rfl (fun _ _ => by first | exact ex_pickT rfl rfl | exact ex_pickF rfl rfl) ?_
    refine SReg.as rfl rfl rfl ?_
    refine SReg.nil ?_
    repeat (first | refine SGo.seq ?_ | refine SGo.skip ?_ | refine SGo.inBlock ?_ | refine SGo.block ?_ | refine SGo.scope ?_ | refine SGo.inScope ?_ | refine SGo.label ?_ | refine SGo.exit rfl ?_)
    exact SGo.ret Try.func8 (fun τ hτ => ares_tmp rfl ares_nil) fun τ hτ => SRet.mk hτ (List.nil_sublist _) ⟨rfl, rfl⟩
  obtain ⟨hd, hlt, hrl, hr2, hae, hr1⟩ := ends_of hall
  obtain ⟨w0, w1, w2, w3⟩ := refW_spec hall
  have hmod := modP_widths (by omega) hall
  obtain ⟨hst1, hst2⟩ := stretch_widths (n := n) (by omega) hall
  rw [← ha, ← hb] at hmod w0 w2
  rw [← ha, ← hb] at hae
  refine SGo.condF (by rw [decide_eq_false (by omega)]; rfl) ?_
  have hwl : (refW zs).length ≤ 300 := by
    have := (outB_le zs (lm zs) (zs.length - lm zs.reverse) (zs.length - lm zs.reverse - lm zs)).1
    have e : (outB zs (lm zs) (zs.length - lm zs.reverse) (zs.length - lm zs.reverse - lm zs)).1 = refW zs := rfl
    rw [e] at this; omega
  generalize hwd : refW zs = w at *
  obtain ⟨m, hm⟩ : ∃ m, m = (zs.drop a).take (zs.length - b - a) := ⟨_, rfl⟩
  have hml : m.length = zs.length - b - a := by rw [hm, List.length_take, List.length_drop]; omega
  rw [← hm] at hmod
  repeat (first | refine SGo.seq ?_ | refine SGo.skip ?_ | refine SGo.inBlock ?_ | refine SGo.block ?_ | refine SGo.scope ?_ | refine SGo.inScope ?_ | refine SGo.label ?_ | refine SGo.exit rfl ?_)
  refine SGo.reg ?_
  refine SReg.mv rfl rfl rfl ?_
  refine SReg.go (modules11 hz1 (by omega)) rfl rfl (by kernel_rfl) ⟨_, .refl _, .cons _ (.refl _)⟩ ?_
  rw [hmod]
  rintro _ _ ⟨c2, rfl, rfl⟩
  dsimp only [List.cons_append, List.nil_append]
  refine SReg.mv rfl rfl rfl ?_
  refine SReg.ex rfl rfl (fun _ _ => ex_extract rfl rfl) ?_
  refine SReg.ex rfl rfl (fun _ _ => ex_extract rfl rfl) ?_
  refine SReg.as rfl rfl rfl ?_
  refine SReg.as rfl rfl rfl ?_
  refine SReg.nil ?_
  repeat (first | refine SGo.seq ?_ | refine SGo.skip ?_ | refine SGo.inBlock ?_ | refine SGo.block ?_ | refine SGo.scope ?_ | refine SGo.inScope ?_ | refine SGo.label ?_ | refine SGo.exit rfl ?_)
  refine SGo.has (F := [(0, gv c off zs.length cap), (1, .int .i64 (n : Nat)), (5, gv c1 0 w.length cs1.length), (6, .int .i64 (a : Nat)), (7, .int .i64 (b : Nat)), (8, sv c2 m.length), (9, .int .i64 0)]) ⟨rfl, rfl, rfl, rfl, rfl, rfl, rfl, trivial⟩ ?_
  have hzm : (cs.drop (off + a * 1)).take m.length = m.map Value.bool := by
    have h1 : cs.drop (off + a * 1) = (cs.drop off).drop a := by rw [List.drop_drop, Nat.mul_one]
    have h2 : ((cs.drop off).take zs.length).drop a = (zs.map Value.bool).drop a := by rw [hz]
    rw [List.drop_take] at h2
    rw [h1, hm, List.map_take, List.map_drop, ← h2, List.take_take, List.length_take, List.length_drop]
  have g1 : decide (((a : Nat) : Int) < 0) = false := decide_eq_false (by omega)
  have g2 : decide (((b : Nat) : Int) < 0) = false := decide_eq_false (by omega)
  have g3 : decide (((a : Nat) : Int) + ((m.length : Nat) : Int) + ((b : Nat) : Int) ≠ ((zs.length : Nat) : Int)) = false := decide_eq_false (by omega)
  have g4 : decide (((w.length : Nat) : Int).tmod 2 = 0) = false := by rw [dec_tmod]; exact decide_eq_false (by omega)
  repeat (first | refine SGo.seq ?_ | refine SGo.skip ?_ | refine SGo.inBlock ?_ | refine SGo.block ?_ | refine SGo.scope ?_ | refine SGo.inScope ?_ | refine SGo.label ?_ | refine SGo.exit rfl ?_)
  refine SGo.reg ?_
  refine SReg.mv rfl rfl rfl ?_
  refine SReg.ex rfl rfl (fun _ _ => by first | exact ex_bool (ex_neq rfl rfl) (by assumption) | exact ex_neq rfl rfl) ?_
  refine SReg.mv rfl rfl rfl ?_
  first | refine SReg.skipG rfl rfl ?_ | (refine SReg.mv rfl rfl rfl ?_)
  first | refine SReg.skipG rfl rfl ?_ | (refine SReg.ex rfl rfl (fun _ _ => by first | exact ex_bool (ex_lss rfl rfl) (by assumption) | exact ex_lss rfl rfl) ?_)
  refine SReg.ex rfl rfl (fun _ _ => by first | exact ex_pickT rfl rfl | exact ex_pickF rfl rfl) ?_
  refine SReg.mv rfl rfl rfl ?_
  first | refine SReg.skipG rfl rfl ?_ | (refine SReg.mv rfl rfl rfl ?_)
  first | refine SReg.skipG rfl rfl ?_ | (refine SReg.ex rfl rfl (fun _ _ => by first | exact ex_bool (ex_lss rfl rfl) (by assumption) | exact ex_lss rfl rfl) ?_)
  refine SReg.ex rfl rfl (fun _ _ => by first | exact ex_pickT rfl rfl | exact ex_pickF rfl rfl) ?_
  refine SReg.mv rfl rfl rfl ?_
  first | refine SReg.skipG rfl rfl ?_ | (refine SReg.mv rfl rfl rfl ?_)
  first | refine SReg.skipG rfl rfl ?_ | (refine SReg.mv rfl rfl rfl ?_)
  first | refine SReg.skipG rfl rfl ?_ | (refine SReg.valG rfl rfl (sx_lenG rfl (tf (by rfl)) (by first | exact hz_nil (by assumption) | exact map_nil | exact len_nil (by first | assumption | rfl | (simp; done)))) ?_)
  first | refine SReg.skipG rfl rfl ?_ | (refine SReg.ex rfl rfl (fun _ _ => ex_add rfl rfl (by first | assumption | omega | decide)) ?_)
  first | refine SReg.skipG rfl rfl ?_ | (refine SReg.mv rfl rfl rfl ?_)
  first | refine SReg.skipG rfl rfl ?_ | (refine SReg.ex rfl rfl (fun _ _ => ex_add rfl rfl (by first | assumption | omega | decide)) ?_)
  first | refine SReg.skipG rfl rfl ?_ | (refine SReg.mv rfl rfl rfl ?_)
  first | refine SReg.skipG rfl rfl ?_ | (refine SReg.valG rfl rfl (sx_lenG rfl (tf (by rfl)) (by first | exact hz_nil (by assumption) | exact map_nil | exact len_nil (by first | assumption | rfl | (simp; done)))) ?_)
  first | refine SReg.skipG rfl rfl ?_ | (refine SReg.ex rfl rfl (fun _ _ => by first | exact ex_bool (ex_neq rfl rfl) (by assumption) | exact ex_neq rfl rfl) ?_)
  refine SReg.ex rfl rfl (fun _ _ => by first | exact ex_pickT rfl rfl | exact ex_pickF rfl rfl) ?_
  refine SReg.mv rfl rfl rfl ?_
  first | refine SReg.skipG rfl rfl ?_ | (refine SReg.mv rfl rfl rfl ?_)
  first | refine SReg.skipG rfl rfl ?_ | (refine SReg.mv rfl rfl rfl ?_)
  first | refine SReg.skipG rfl rfl ?_ | (refine SReg.mv rfl rfl rfl ?_)
  first | refine SReg.skipG rfl rfl ?_ | (refine SReg.mv rfl rfl rfl ?_)
  first | refine SReg.skipG rfl rfl ?_ | (refine SReg.mv rfl rfl rfl ?_)
  first | refine SReg.skipG rfl rfl ?_ | (refine SReg.valG rfl rfl (sx_lenG rfl (tf (by rfl)) (by first | exact hz_nil (by assumption) | exact map_nil | exact len_nil (by first | assumption | rfl | (simp; done)))) ?_)
  first | refine SReg.skipG rfl rfl ?_ | (refine SReg.ex rfl rfl (fun _ _ => ex_add rfl rfl (by first | assumption | omega | decide)) ?_)
  refine SReg.valG rfl rfl (sx_slice (c := c) (off := off) (n := zs.length) (cap := cap) (a := a) (b' := a + m.length) rfl rfl rfl ty25 ty4 (by simp [tsz, ty4]) (fun hnil => by rw [hnil] at hcs; simp at hcs; omega) (abound_int (by omega) (by omega)) (abound_int rfl (by omega)) (.inl (by omega)) (by omega) hcap) ?_
  have e1 : gv c (off + a * ATy.size ⟨.bool, 1, 1, some (.bool false)⟩) (a + m.length - a) (cap - a) = gv c (off + a * 1) m.length (cap - a) := by rw [Nat.add_sub_cancel_left]
  rw [e1]
  refine SReg.goG (same13 (hz_full m _) hzm (by omega)) rfl rfl rfl (by kernel_rfl) ⟨_, .swap _ _ _, .cons_cons _ (.cons_cons _ (List.nil_sublist _))⟩ ?_
  rintro _ _ ⟨rfl, rfl⟩
  rw [decide_eq_true (rfl : m = m)]
  dsimp only [List.cons_append, List.nil_append]
  first | refine SReg.skipG rfl rfl ?_ | (refine SReg.ex rfl rfl (fun _ _ => by first | exact ex_bool (ex_not rfl) (by assumption) | exact ex_not rfl) ?_)
  refine SReg.ex rfl rfl (fun _ _ => by first | exact ex_pickT rfl rfl | exact ex_pickF rfl rfl) ?_
  refine SReg.mv rfl rfl rfl ?_
  first | refine SReg.skipG rfl rfl ?_ | (refine SReg.mv rfl rfl rfl ?_)
  first | refine SReg.skipG rfl rfl ?_ | (refine SReg.valG rfl rfl (sx_lenG rfl (tf (by rfl)) (by first | exact hz_nil (by assumption) | exact map_nil | exact len_nil (by first | assumption | rfl | (simp; done)))) ?_)
  first | refine SReg.skipG rfl rfl ?_ | (refine SReg.ex rfl rfl (fun _ _ => ex_rem rfl rfl (by first | assumption | omega | decide)) ?_)
  first | refine SReg.skipG rfl rfl ?_ | (refine SReg.ex rfl rfl (fun _ _ => by first | exact ex_bool (ex_eql rfl rfl) (by assumption) | exact ex_eql rfl rfl) ?_)
  refine SReg.ex rfl rfl (fun _ _ => by first | exact ex_pickT rfl rfl | exact ex_pickF rfl rfl) ?_
  refine SReg.nil ?_
  repeat (first | refine SGo.seq ?_ | refine SGo.skip ?_ | refine SGo.inBlock ?_ | refine SGo.block ?_ | refine SGo.scope ?_ | refine SGo.inScope ?_ | refine SGo.label ?_ | refine SGo.exit rfl ?_)
  refine SGo.condF rfl ?_
  have hmul : zs.length * n ≤ 15000 := Nat.le_trans (Nat.mul_le_mul (show zs.length ≤ 300 by omega) (show n ≤ 50 by omega)) (by decide)
  have hstr : strP zs n = (exR n zs, 0) := by
    have hq : (65536 : Int).tdiv ((n : Nat) : Int) = ((65536 / n : Nat) : Int) := rfl
    have h1 : zs.length ≤ 65536 / n := (Nat.le_div_iff_mul_le (by omega)).2 (by omega)
    rw [strP, if_neg (by omega), if_neg (by rw [hq]; omega)]; rfl
  have hxl := exR_len n zs
  refine SGo.has (F := [(0, gv c off zs.length cap), (1, .int .i64 (n : Nat)), (5, gv c1 0 w.length cs1.length)]) ⟨rfl, rfl, rfl, trivial⟩ ?_
  repeat (first | refine SGo.seq ?_ | refine SGo.skip ?_ | refine SGo.inBlock ?_ | refine SGo.block ?_ | refine SGo.scope ?_ | refine SGo.inScope ?_ | refine SGo.label ?_ | refine SGo.exit rfl ?_)
  refine SGo.reg ?_
  refine SReg.mv rfl rfl rfl ?_
  refine SReg.mv rfl rfl rfl ?_
  refine SReg.go (stretch21 hz (by omega)) rfl rfl (by kernel_rfl) ⟨_, .refl _, .cons_cons _ (List.nil_sublist _)⟩ ?_
  rw [hstr]
  rintro _ _ ⟨c3, rfl, rfl⟩
  dsimp only [List.cons_append, List.nil_append]
  refine SReg.mv rfl rfl rfl ?_
  refine SReg.ex rfl rfl (fun _ _ => ex_extract rfl rfl) ?_
  refine SReg.ex rfl rfl (fun _ _ => ex_extract rfl rfl) ?_
  refine SReg.as rfl rfl rfl ?_
  refine SReg.as rfl rfl rfl ?_
  refine SReg.nil ?_
  repeat (first | refine SGo.seq ?_ | refine SGo.skip ?_ | refine SGo.inBlock ?_ | refine SGo.block ?_ | refine SGo.scope ?_ | refine SGo.inScope ?_ | refine SGo.label ?_ | refine SGo.exit rfl ?_)
  refine SGo.has (F := [(0, gv c off zs.length cap), (1, .int .i64 (n : Nat)), (5, gv c1 0 w.length cs1.length), (10, sv c3 (exR n zs).length), (11, .int .i64 0)]) ⟨rfl, rfl, rfl, rfl, rfl, trivial⟩ ?_
  repeat (first | refine SGo.seq ?_ | refine SGo.skip ?_ | refine SGo.inBlock ?_ | refine SGo.block ?_ | refine SGo.scope ?_ | refine SGo.inScope ?_ | refine SGo.label ?_ | refine SGo.exit rfl ?_)
  refine SGo.reg ?_
  refine SReg.mv rfl rfl rfl ?_
  refine SReg.mv rfl rfl rfl ?_
  refine SReg.go (shrink23 (hz_full (exR n zs) _) (by omega)) rfl rfl (by kernel_rfl) ⟨_, .refl _, .cons _ (.cons_cons _ (List.nil_sublist _))⟩ ?_
  rw [shrP_stretch (by omega)]
  rintro _ _ ⟨c4, rfl, rfl⟩
  dsimp only [List.cons_append, List.nil_append]
  refine SReg.mv rfl rfl rfl ?_
  refine SReg.ex rfl rfl (fun _ _ => ex_extract rfl rfl) ?_
  refine SReg.ex rfl rfl (fun _ _ => ex_extract rfl rfl) ?_
  refine SReg.as rfl rfl rfl ?_
  refine SReg.as rfl rfl rfl ?_
  refine SReg.nil ?_
  repeat (first | refine SGo.seq ?_ | refine SGo.skip ?_ | refine SGo.inBlock ?_ | refine SGo.block ?_ | refine SGo.scope ?_ | refine SGo.inScope ?_ | refine SGo.label ?_ | refine SGo.exit rfl ?_)
  refine SGo.has (F := [(0, gv c off zs.length cap), (1, .int .i64 (n : Nat)), (5, gv c1 0 w.length cs1.length), (10, sv c3 (exR n zs).length), (11, .int .i64 0), (12, sv c4 zs.length), (13, .int .i64 0)]) ⟨rfl, rfl, rfl, rfl, rfl, rfl, rfl, trivial⟩ ?_
  repeat (first | refine SGo.seq ?_ | refine SGo.skip ?_ | refine SGo.inBlock ?_ | refine SGo.block ?_ | refine SGo.scope ?_ | refine SGo.inScope ?_ | refine SGo.label ?_ | refine SGo.exit rfl ?_)
  refine SGo.reg ?_
  refine SReg.mv rfl rfl rfl ?_
  refine SReg.go (widths17 (hz_full (exR n zs) _) (by omega)) rfl rfl (by kernel_rfl) ⟨_, .refl _, .cons _ (.cons _ (.cons_cons _ (List.nil_sublist _)))⟩ ?_
  rw [widths_same, hst2]
  rintro _ _ ⟨c5, cs5, rfl, rfl, hz5, hc5⟩
  dsimp only [List.cons_append, List.nil_append]
  refine SReg.as rfl rfl rfl ?_
  refine SReg.nil ?_
  repeat (first | refine SGo.seq ?_ | refine SGo.skip ?_ | refine SGo.inBlock ?_ | refine SGo.block ?_ | refine SGo.scope ?_ | refine SGo.inScope ?_ | refine SGo.label ?_ | refine SGo.exit rfl ?_)
  obtain ⟨v, hv⟩ : ∃ v, v = w.map ((n : Int) * ·) := ⟨_, rfl⟩
  have hvl : v.length = w.length := by rw [hv, List.length_map]
  rw [← hv] at hz5 hc5 ⊢
  refine SGo.has (F := [(0, gv c off zs.length cap), (1, .int .i64 (n : Nat)), (5, gv c1 0 w.length cs1.length), (11, .int .i64 0), (12, sv c4 zs.length), (13, .int .i64 0), (14, gv c5 0 v.length cs5.length)]) ⟨rfl, rfl, rfl, rfl, rfl, rfl, rfl, trivial⟩ ?_
  have g5 : decide (((v.length : Nat) : Int) ≠ ((w.length : Nat) : Int)) = false := decide_eq_false (by omega)
  repeat (first | refine SGo.seq ?_ | refine SGo.skip ?_ | refine SGo.inBlock ?_ | refine SGo.block ?_ | refine SGo.scope ?_ | refine SGo.inScope ?_ | refine SGo.label ?_ | refine SGo.exit rfl ?_)
  refine SGo.reg ?_
  refine SReg.mv rfl rfl rfl ?_
  refine SReg.ex rfl rfl (fun _ _ => by first | exact ex_bool (ex_neq rfl rfl) (by assumption) | exact ex_neq rfl rfl) ?_
  refine SReg.mv rfl rfl rfl ?_
  first | refine SReg.skipG rfl rfl ?_ | (refine SReg.mv rfl rfl rfl ?_)
  first | refine SReg.skipG rfl rfl ?_ | (refine SReg.ex rfl rfl (fun _ _ => by first | exact ex_bool (ex_neq rfl rfl) (by assumption) | exact ex_neq rfl rfl) ?_)
  refine SReg.ex rfl rfl (fun _ _ => by first | exact ex_pickT rfl rfl | exact ex_pickF rfl rfl) ?_
  refine SReg.mv rfl rfl rfl ?_
  first | refine SReg.skipG rfl rfl ?_ | (refine SReg.mv rfl rfl rfl ?_)
  first | refine SReg.skipG rfl rfl ?_ | (refine SReg.mv rfl rfl rfl ?_)
  refine SReg.goG (same13 (hz_full zs _) hz (by omega)) rfl rfl rfl (by kernel_rfl) ⟨_, .swap _ _ _, .cons_cons _ (.cons _ (.cons_cons _ (List.nil_sublist _)))⟩ ?_
  rintro _ _ ⟨rfl, rfl⟩
  rw [decide_eq_true (rfl : zs = zs)]
  dsimp only [List.cons_append, List.nil_append]
  first | refine SReg.skipG rfl rfl ?_ | (refine SReg.ex rfl rfl (fun _ _ => by first | exact ex_bool (ex_not rfl) (by assumption) | exact ex_not rfl) ?_)
  refine SReg.ex rfl rfl (fun _ _ => by first | exact ex_pickT rfl rfl | exact ex_pickF rfl rfl) ?_
  refine SReg.mv rfl rfl rfl ?_
  first | refine SReg.skipG rfl rfl ?_ | (refine SReg.mv rfl rfl rfl ?_)
  first | refine SReg.skipG rfl rfl ?_ | (refine SReg.valG rfl rfl (sx_lenG rfl (tf (by rfl)) (by first | exact hz_nil (by assumption) | exact map_nil | exact len_nil (by first | assumption | rfl | (simp; done)))) ?_)
  first | refine SReg.skipG rfl rfl ?_ | (refine SReg.mv rfl rfl rfl ?_)
  first | refine SReg.skipG rfl rfl ?_ | (refine SReg.valG rfl rfl (sx_lenG rfl (tf (by rfl)) (by first | exact hz_nil (by assumption) | exact map_nil | exact len_nil (by first | assumption | rfl | (simp; done)))) ?_)
  first | refine SReg.skipG rfl rfl ?_ | (refine SReg.ex rfl rfl (fun _ _ => by first | exact ex_bool (ex_neq rfl rfl) (by assumption) | exact ex_neq rfl rfl) ?_)
  refine SReg.ex rfl rfl (fun _ _ => by first | exact ex_pickT rfl rfl | exact ex_pickF rfl rfl) ?_
  refine SReg.nil ?_
  repeat (first | refine SGo.seq ?_ | refine SGo.skip ?_ | refine SGo.inBlock ?_ | refine SGo.block ?_ | refine SGo.scope ?_ | refine SGo.inScope ?_ | refine SGo.label ?_ | refine SGo.exit rfl ?_)
  refine SGo.condF rfl ?_
  refine SGo.less (l' := [(c5, .cells cs5 3 true), (c1, .cells cs1 3 true)]) (.cons_cons _ (.cons _ (.cons _ (.cons _ (.refl _))))) ?_
  refine SGo.has (F := [(1, .int .i64 (n : Nat)), (5, gv c1 0 w.length cs1.length), (14, gv c5 0 v.length cs5.length)]) ⟨rfl, rfl, rfl, trivial⟩ ?_
  have hws : ∀ x ∈ w, 1 ≤ x ∧ x ≤ 300 := fun x hx => by
    have h1 := w1 x hx
    obtain ⟨i, hi, rfl⟩ := List.getElem_of_mem hx
    have h3 := (sum_ge (p := w) fun j hj => by rw [List.getD_eq_getElem?_getD, List.getElem?_eq_getElem hj]; exact w1 _ (List.getElem_mem hj)).2 i hi
    rw [List.getD_eq_getElem?_getD, List.getElem?_eq_getElem hi] at h3
    simp only [Option.getD_some] at h3
    omega
  repeat (first | refine SGo.seq ?_ | refine SGo.skip ?_ | refine SGo.inBlock ?_ | refine SGo.block ?_ | refine SGo.scope ?_ | refine SGo.inScope ?_ | refine SGo.label ?_ | refine SGo.exit rfl ?_)
  refine SGo.reg ?_
  refine SReg.mv rfl rfl rfl ?_
  refine SReg.valG rfl rfl (sx_lenG rfl (tf (by rfl)) (by first | exact hz_nil (by assumption) | exact map_nil | exact len_nil (by first | assumption | rfl | (simp; done)))) ?_
  refine SReg.mv rfl rfl rfl ?_
  refine SReg.nil ?_
  repeat (first | refine SGo.seq ?_ | refine SGo.skip ?_ | refine SGo.inBlock ?_ | refine SGo.block ?_ | refine SGo.scope ?_ | refine SGo.inScope ?_ | refine SGo.label ?_ | refine SGo.exit rfl ?_)
  refine SGo.loopI (ι := Nat) (F := fun k => [(1, .int .i64 (n : Nat)), (5, gv c1 0 w.length cs1.length), (14, gv c5 0 v.length cs5.length), (129, .int .i64 (v.length : Nat)), (130, .int .i64 (k : Nat))]) (O := fun _ => [(c, .cells cs 4 rw)]) (l0 := fun _ => [(c5, .cells cs5 3 true), (c1, .cells cs1 3 true)]) (I := fun k => k ≤ v.length) (μ := fun k => v.length - k) ?_ (x0 := 0) (Nat.zero_le _) ⟨rfl, rfl, rfl, rfl, rfl, trivial⟩ rfl rfl
  rintro k hk next
  repeat (first | refine SGo.seq ?_ | refine SGo.skip ?_ | refine SGo.inBlock ?_ | refine SGo.block ?_ | refine SGo.scope ?_ | refine SGo.inScope ?_ | refine SGo.label ?_ | refine SGo.exit rfl ?_)
  refine SGo.reg ?_
  refine SReg.ex rfl rfl (fun _ _ => by first | exact ex_bool (ex_lss rfl rfl) (by assumption) | exact ex_lss rfl rfl) ?_
  refine SReg.nil ?_
  repeat (first | refine SGo.seq ?_ | refine SGo.skip ?_ | refine SGo.inBlock ?_ | refine SGo.block ?_ | refine SGo.scope ?_ | refine SGo.inScope ?_ | refine SGo.label ?_ | refine SGo.exit rfl ?_)
  refine SGo.condD rfl (fun h => ?_) (fun h => ?_)
  · have hk' : k < v.length := by omega
    have hkw : k < w.length := by omega
    have hvk : v.getD k 0 = (n : Int) * w.getD k 0 := by
      rw [hv, List.getD_eq_getElem?_getD, List.getElem?_map, List.getElem?_eq_getElem hkw, List.getD_eq_getElem?_getD, List.getElem?_eq_getElem hkw]; rfl
    have hwk := hws (w.getD k 0) (by rw [List.getD_eq_getElem?_getD, List.getElem?_eq_getElem hkw]; exact List.getElem_mem hkw)
    have hnw : -9223372036854775808 ≤ (n : Int) * w.getD k 0 ∧ (n : Int) * w.getD k 0 ≤ 9223372036854775807 := by
      have h1 := Int.mul_le_mul (show (n : Int) ≤ 50 by omega) hwk.2 (by omega) (by omega)
      have h2 := Int.mul_nonneg (show (0 : Int) ≤ n by omega) (show 0 ≤ w.getD k 0 by omega)
      omega
    repeat (first | refine SGo.seq ?_ | refine SGo.skip ?_ | refine SGo.inBlock ?_ | refine SGo.block ?_ | refine SGo.scope ?_ | refine SGo.inScope ?_ | refine SGo.label ?_ | refine SGo.exit rfl ?_)
    refine SGo.reg ?_
    refine SReg.mv rfl rfl rfl ?_
    refine SReg.as rfl rfl rfl ?_
    refine SReg.nil ?_
    repeat (first | refine SGo.seq ?_ | refine SGo.skip ?_ | refine SGo.inBlock ?_ | refine SGo.block ?_ | refine SGo.scope ?_ | refine SGo.inScope ?_ | refine SGo.label ?_ | refine SGo.exit rfl ?_)
    repeat (first | refine SGo.seq ?_ | refine SGo.skip ?_ | refine SGo.inBlock ?_ | refine SGo.block ?_ | refine SGo.scope ?_ | refine SGo.inScope ?_ | refine SGo.label ?_ | refine SGo.exit rfl ?_)
    refine SGo.draw [] [0, 1, 2, 3, 4, 5, 6, 7, 8, 9, 10] mixed (by kernel_rfl) ?_
    refine SDW.readL rfl rfl rfl rfl (sx_of fun _ _ => ex_move rfl) ?_
    refine SDW.readL rfl rfl rfl rfl (sx_of fun _ _ => ex_move rfl) ?_
    refine SDW.idxL rfl rfl rfl rfl rfl rfl (tf (by rfl)) (tf (by rfl)) (by first | assumption | rfl) (by omega) (by first | exact hz_nil (by assumption) | exact map_nil | exact len_nil (by first | assumption | rfl | (simp; done))) (fun _ hidx => ?_)
    cases hidx
    refine SDW.readL rfl rfl rfl rfl (sx_load rfl (by first | exact sld_cell (tf (by rfl)) rfl (by first | assumption | rfl) | exact sld_sub (d := (0 : Int)) (by assumption) (tf (by rfl)) rfl rfl (by omega) | exact sld_at (0 : Int) (tf (by rfl)) rfl rfl (by omega) | exact sld_sub (d := false) (by assumption) (tf (by rfl)) rfl rfl (by omega) | exact sld_at false (tf (by rfl)) rfl rfl (by omega) | exact sld_all (tf (by rfl)) rfl (by first | rfl | (simp; done)))) ?_
    refine SDW.readL rfl rfl rfl rfl (sx_of fun _ _ => ex_move rfl) ?_
    refine SDW.readL rfl rfl rfl rfl (sx_of fun _ _ => ex_move rfl) ?_
    refine SDW.readL rfl rfl rfl rfl (sx_of fun _ _ => ex_move rfl) ?_
    refine SDW.idxL rfl rfl rfl rfl rfl rfl (tf (by rfl)) (tf (by rfl)) (by first | assumption | rfl) (by omega) (by first | exact hz_nil (by assumption) | exact map_nil | exact len_nil (by first | assumption | rfl | (simp; done))) (fun _ hidx => ?_)
    cases hidx
    refine SDW.readL rfl rfl rfl rfl (sx_load rfl (by first | exact sld_cell (tf (by rfl)) rfl (by first | assumption | rfl) | exact sld_sub (d := (0 : Int)) (by assumption) (tf (by rfl)) rfl rfl (by omega) | exact sld_at (0 : Int) (tf (by rfl)) rfl rfl (by omega) | exact sld_sub (d := false) (by assumption) (tf (by rfl)) rfl rfl (by omega) | exact sld_at false (tf (by rfl)) rfl rfl (by omega) | exact sld_all (tf (by rfl)) rfl (by first | rfl | (simp; done)))) ?_
    refine SDW.readL rfl rfl rfl rfl (sx_of (fun _ _ => ex_mul rfl rfl (by first | assumption | omega | decide))) ?_
    refine SDW.readL rfl rfl rfl rfl (sx_of (fun _ _ => by first | exact ex_bool (ex_neq rfl rfl) (by assumption) | exact ex_neq rfl rfl)) ?_
    refine SDW.done ?_
    repeat (first | refine SGo.seq ?_ | refine SGo.skip ?_ | refine SGo.inBlock ?_ | refine SGo.block ?_ | refine SGo.scope ?_ | refine SGo.inScope ?_ | refine SGo.label ?_ | refine SGo.exit rfl ?_)
    rw [hvk]
    refine SGo.condF (by rw [decide_eq_false (fun h => h rfl)]; rfl) ?_
    repeat (first | refine SGo.seq ?_ | refine SGo.skip ?_ | refine SGo.inBlock ?_ | refine SGo.block ?_ | refine SGo.scope ?_ | refine SGo.inScope ?_ | refine SGo.label ?_ | refine SGo.exit rfl ?_)
    refine SGo.reg ?_
    refine SReg.ex rfl rfl (fun _ _ => ex_add rfl rfl (by first | assumption | omega | decide)) ?_
    refine SReg.mv rfl rfl rfl ?_
    refine SReg.nil ?_
    repeat (first | refine SGo.seq ?_ | refine SGo.skip ?_ | refine SGo.inBlock ?_ | refine SGo.block ?_ | refine SGo.scope ?_ | refine SGo.inScope ?_ | refine SGo.label ?_ | refine SGo.exit rfl ?_)
    exact next (k + 1) _ (by omega) (by omega) ⟨rfl, rfl, rfl, rfl, rfl, trivial⟩
  · repeat (first | refine SGo.seq ?_ | refine SGo.skip ?_ | refine SGo.inBlock ?_ | refine SGo.block ?_ | refine SGo.scope ?_ | refine SGo.inScope ?_ | refine SGo.label ?_ | refine SGo.exit rfl ?_)
    repeat (first | refine SGo.seq ?_ | refine SGo.skip ?_ | refine SGo.inBlock ?_ | refine SGo.block ?_ | refine SGo.scope ?_ | refine SGo.inScope ?_ | refine SGo.label ?_ | refine SGo.exit rfl ?_)
    refine SGo.reg ?_
    refine SReg.go alive10 rfl rfl (by kernel_rfl) ⟨_, .refl _, List.nil_sublist _⟩ ?_
    rintro _ _ ⟨rfl, rfl⟩
    dsimp only [List.cons_append, List.nil_append]
    refine SReg.as rfl rfl rfl ?_
    refine SReg.nil ?_
    repeat (first | refine SGo.seq ?_ | refine SGo.skip ?_ | refine SGo.inBlock ?_ | refine SGo.block ?_ | refine SGo.scope ?_ | refine SGo.inScope ?_ | refine SGo.label ?_ | refine SGo.exit rfl ?_)
    exact SGo.ret Try.func8 (fun τ hτ => ares_tmp rfl ares_nil) fun τ hτ => SRet.mk hτ (List.nil_sublist _) ⟨rfl, rfl⟩
end Go.Abs.Run
