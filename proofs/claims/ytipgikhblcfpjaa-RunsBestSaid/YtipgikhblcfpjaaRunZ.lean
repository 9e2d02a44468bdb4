/- A part of the proof: contracts of functions of the program, shown by walking through their code in an abstract machine. Condition: none. -/
import Derived.Test.YtipgikhblcfpjaaRunX
set_option linter.unusedVariables false
set_option linter.unusedSimpArgs false
namespace Go.Abs.Run
open Go Go.Proofs
set_option maxHeartbeats 8000000
set_option maxRecDepth 8000
-- @SEAT 10
theorem sum_mapm (k : Int) : ∀ p : List Int, (p.map (k * ·)).sum = k * p.sum
  | [] => by simp
  | a :: p => by simp only [List.map_cons, List.sum_cons, sum_mapm k p, Int.mul_add]
theorem getD_mapm (k : Int) (p : List Int) (i : Nat) : (p.map (k * ·)).getD i 0 = k * p.getD i 0 := by
  rw [List.getD_eq_getElem?_getD, List.getElem?_map, List.getD_eq_getElem?_getD]
  cases p[i]? with
  | none => simp
  | some x => rfl
/-- A multiple of the numbers is quantized to the numbers. -/
theorem good_many {zs p : List Int} {T k : Int} (h : Good zs T p) (hk : 1 ≤ k) (hT : 1 ≤ T) : Good (p.map (k * ·)) T p where
  len := by simp
  pos := h.pos
  sum := h.sum
  ord i j hi hj _ := by
    refine .inl ?_
    rw [sum_mapm, h.sum, getD_mapm, getD_mapm]
    unfold cst
    have e : ∀ r : Int, 2 * T * (k * r) = k * T * (2 * r) := fun r => by ac_rfl
    have hkT := Int.mul_pos (show 0 < k by omega) (show 0 < T by omega)
    rw [e, e, ← Int.mul_sub, ← Int.mul_sub]
    have e1 : 2 * (p.getD i 0 - 1) + 1 - 2 * p.getD i 0 = -1 := by omega
    have e2 : 2 * p.getD j 0 + 1 - 2 * p.getD j 0 = 1 := by omega
    rw [e1, e2]
    omega
theorem any_take {zs : List Int} (h : zs.any (fun w => !wOk w) = false) (k : Nat) : (zs.take k).any (fun w => !wOk w) = false := by
  rw [List.any_eq_false] at h ⊢
  exact fun x hx => h x (List.mem_of_mem_take hx)
theorem getD_mem {zs : List Int} {i : Nat} (hi : i < zs.length) : zs.getD i 0 ∈ zs := by
  rw [List.getD_eq_getElem?_getD, List.getElem?_eq_getElem hi]; exact List.getElem_mem hi
theorem any_of {zs : List Int} (h : ∀ i, i < zs.length → 1 ≤ zs.getD i 0 ∧ zs.getD i 0 ≤ 65536) : zs.any (fun w => !wOk w) = false := by
  rw [List.any_eq_false]
  intro x hx
  obtain ⟨i, hi, rfl⟩ := List.getElem_of_mem hx
  have := h i hi
  rw [List.getD_eq_getElem?_getD, List.getElem?_eq_getElem hi] at this
  simp only [Option.getD_some] at this
  simp only [wOk, Bool.not_eq_true', Bool.not_eq_false, Bool.and_eq_true, decide_eq_true_eq]
  omega
-- @FN 6
/-- barscanlaw10.RunsBest -/
theorem law6 {c : Option Nat} {off cap : Nat} {cs : List Value} {rw : Bool} {zs : List Int} {T K : Int} (hz : (cs.drop off).take zs.length = zs.map (Value.int .i64)) (hl : zs.length ≤ 9223372036854775807) (hT : -9223372036854775808 ≤ T ∧ T ≤ 9223372036854775807) (hK : -9223372036854775808 ≤ K ∧ K ≤ 9223372036854775807) :
    SC Try.prog 6 [gv c off zs.length cap, .int .i64 T, .int .i64 K] [(c, .cells cs 3 rw)] LawT := by
  refine SC.enter Try.func6 rfl (by rw [Try.ntmps6]; simp) fun σ hσ => ?_
  rw [Try.ntmps6]
  repeat (first | refine SGo.seq ?_ | refine SGo.skip ?_ | refine SGo.inBlock ?_ | refine SGo.block ?_ | refine SGo.scope ?_ | refine SGo.inScope ?_ | refine SGo.label ?_ | refine SGo.exit rfl ?_)
  refine SGo.reg ?_
  refine SReg.as rfl rfl rfl ?_
  refine SReg.nil ?_
  repeat (first | refine SGo.seq ?_ | refine SGo.skip ?_ | refine SGo.inBlock ?_ | refine SGo.block ?_ | refine SGo.scope ?_ | refine SGo.inScope ?_ | refine SGo.label ?_ | refine SGo.exit rfl ?_)
  repeat (first | refine SGo.seq ?_ | refine SGo.skip ?_ | refine SGo.inBlock ?_ | refine SGo.block ?_ | refine SGo.scope ?_ | refine SGo.inScope ?_ | refine SGo.label ?_ | refine SGo.exit rfl ?_)
  refine SGo.reg ?_
  refine SReg.mv rfl rfl rfl ?_
  refine SReg.valG rfl rfl (sx_lenG rfl (tf (by rfl)) (by first | exact hz_nil (by assumption) | exact map_nil | exact len_nil (by first | assumption | rfl | (simp; done)))) ?_
  refine SReg.ex rfl rfl (fun _ _ => by first | exact ex_bool (ex_gtr rfl rfl) (by assumption) | exact ex_gtr rfl rfl) ?_
  refine SReg.mv rfl rfl rfl ?_
  refine SReg.join (fun fr' => Has [(0, gv c off zs.length cap), (1, .int .i64 T), (2, .int .i64 K), (32, .bool (decide ((zs.length : Int) > 60) || (decide (T > 500) || (decide (K < 1) || decide (K > 100)))))] fr') ?_ fun nx => ?_
  rotate_left
  · skip
    cases g : decide ((zs.length : Int) > 60) with
    | true =>
      first | refine SReg.skipG rfl rfl ?_ | (refine SReg.mv rfl rfl rfl ?_)
      first | refine SReg.skipG rfl rfl ?_ | (refine SReg.ex rfl rfl (fun _ _ => by first | exact ex_bool (ex_gtr rfl rfl) (by assumption) | exact ex_gtr rfl rfl) ?_)
      refine SReg.ex rfl rfl (fun _ _ => by first | exact ex_pickT rfl rfl | exact ex_pickF rfl rfl) ?_
      refine SReg.mv rfl rfl rfl ?_
      first | refine SReg.skipG rfl rfl ?_ | (refine SReg.mv rfl rfl rfl ?_)
      first | refine SReg.skipG rfl rfl ?_ | (refine SReg.ex rfl rfl (fun _ _ => by first | exact ex_bool (ex_lss rfl rfl) (by assumption) | exact ex_lss rfl rfl) ?_)
      refine SReg.ex rfl rfl (fun _ _ => by first | exact ex_pickT rfl rfl | exact ex_pickF rfl rfl) ?_
      refine SReg.mv rfl rfl rfl ?_
      first | refine SReg.skipG rfl rfl ?_ | (refine SReg.mv rfl rfl rfl ?_)
      first | refine SReg.skipG rfl rfl ?_ | (refine SReg.ex rfl rfl (fun _ _ => by first | exact ex_bool (ex_gtr rfl rfl) (by assumption) | exact ex_gtr rfl rfl) ?_)
      refine SReg.ex rfl rfl (fun _ _ => by first | exact ex_pickT rfl rfl | exact ex_pickF rfl rfl) ?_
      refine SReg.nil ?_
      repeat (first | refine SGo.seq ?_ | refine SGo.skip ?_ | refine SGo.inBlock ?_ | refine SGo.block ?_ | refine SGo.scope ?_ | refine SGo.inScope ?_ | refine SGo.label ?_ | refine SGo.exit rfl ?_)
      exact nx _ ⟨rfl, rfl, rfl, by rw [g, Bool.true_or]; rfl, trivial⟩
    | false =>
      first | refine SReg.skipG rfl rfl ?_ | (refine SReg.mv rfl rfl rfl ?_)
      first | refine SReg.skipG rfl rfl ?_ | (refine SReg.ex rfl rfl (fun _ _ => by first | exact ex_bool (ex_gtr rfl rfl) (by assumption) | exact ex_gtr rfl rfl) ?_)
      refine SReg.ex rfl rfl (fun _ _ => by first | exact ex_pickT rfl rfl | exact ex_pickF rfl rfl) ?_
      refine SReg.mv rfl rfl rfl ?_
      cases g2 : decide (T > 500) with
      | true =>
        first | refine SReg.skipG rfl rfl ?_ | (refine SReg.mv rfl rfl rfl ?_)
        first | refine SReg.skipG rfl rfl ?_ | (refine SReg.ex rfl rfl (fun _ _ => by first | exact ex_bool (ex_lss rfl rfl) (by assumption) | exact ex_lss rfl rfl) ?_)
        refine SReg.ex rfl rfl (fun _ _ => by first | exact ex_pickT rfl rfl | exact ex_pickF rfl rfl) ?_
        refine SReg.mv rfl rfl rfl ?_
        first | refine SReg.skipG rfl rfl ?_ | (refine SReg.mv rfl rfl rfl ?_)
        first | refine SReg.skipG rfl rfl ?_ | (refine SReg.ex rfl rfl (fun _ _ => by first | exact ex_bool (ex_gtr rfl rfl) (by assumption) | exact ex_gtr rfl rfl) ?_)
        refine SReg.ex rfl rfl (fun _ _ => by first | exact ex_pickT rfl rfl | exact ex_pickF rfl rfl) ?_
        refine SReg.nil ?_
        repeat (first | refine SGo.seq ?_ | refine SGo.skip ?_ | refine SGo.inBlock ?_ | refine SGo.block ?_ | refine SGo.scope ?_ | refine SGo.inScope ?_ | refine SGo.label ?_ | refine SGo.exit rfl ?_)
        exact nx _ ⟨rfl, rfl, rfl, by rw [g, g2, Bool.false_or, Bool.true_or]; rfl, trivial⟩
      | false =>
        first | refine SReg.skipG rfl rfl ?_ | (refine SReg.mv rfl rfl rfl ?_)
        first | refine SReg.skipG rfl rfl ?_ | (refine SReg.ex rfl rfl (fun _ _ => by first | exact ex_bool (ex_lss rfl rfl) (by assumption) | exact ex_lss rfl rfl) ?_)
        refine SReg.ex rfl rfl (fun _ _ => by first | exact ex_pickT rfl rfl | exact ex_pickF rfl rfl) ?_
        refine SReg.mv rfl rfl rfl ?_
        cases g3 : decide (K < 1) with
        | true =>
          first | refine SReg.skipG rfl rfl ?_ | (refine SReg.mv rfl rfl rfl ?_)
          first | refine SReg.skipG rfl rfl ?_ | (refine SReg.ex rfl rfl (fun _ _ => by first | exact ex_bool (ex_gtr rfl rfl) (by assumption) | exact ex_gtr rfl rfl) ?_)
          refine SReg.ex rfl rfl (fun _ _ => by first | exact ex_pickT rfl rfl | exact ex_pickF rfl rfl) ?_
          refine SReg.nil ?_
          repeat (first | refine SGo.seq ?_ | refine SGo.skip ?_ | refine SGo.inBlock ?_ | refine SGo.block ?_ | refine SGo.scope ?_ | refine SGo.inScope ?_ | refine SGo.label ?_ | refine SGo.exit rfl ?_)
          exact nx _ ⟨rfl, rfl, rfl, by rw [g, g2, g3, Bool.false_or, Bool.false_or, Bool.true_or]; rfl, trivial⟩
        | false =>
          first | refine SReg.skipG rfl rfl ?_ | (refine SReg.mv rfl rfl rfl ?_)
          first | refine SReg.skipG rfl rfl ?_ | (refine SReg.ex rfl rfl (fun _ _ => by first | exact ex_bool (ex_gtr rfl rfl) (by assumption) | exact ex_gtr rfl rfl) ?_)
          refine SReg.ex rfl rfl (fun _ _ => by first | exact ex_pickT rfl rfl | exact ex_pickF rfl rfl) ?_
          refine SReg.nil ?_
          repeat (first | refine SGo.seq ?_ | refine SGo.skip ?_ | refine SGo.inBlock ?_ | refine SGo.block ?_ | refine SGo.scope ?_ | refine SGo.inScope ?_ | refine SGo.label ?_ | refine SGo.exit rfl ?_)
          exact nx _ ⟨rfl, rfl, rfl, by rw [g, g2, g3, Bool.false_or, Bool.false_or, Bool.false_or]; rfl, trivial⟩
  intro fr' hF
  refine SGo.has hF ?_
  refine SGo.condB rfl (fun h => ?_) (fun h => ?_)
  · repeat (first | refine SGo.seq ?_ | refine SGo.skip ?_ | refine SGo.inBlock ?_ | refine SGo.block ?_ | refine SGo.scope ?_ | refine SGo.inScope ?_ | refine SGo.label ?_ | refine SGo.exit rfl ?_)
    refine SGo.reg ?_
    refine SReg.go alive10 rfl rfl (by kernel_rfl) ⟨_, .refl _, List.nil_sublist _⟩ ?_
    rintro _ _ ⟨rfl, rfl⟩
    dsimp only [List.cons_append, List.nil_append]
    refine SReg.as rfl rfl rfl ?_
    refine SReg.nil ?_
    repeat (first | refine SGo.seq ?_ | refine SGo.skip ?_ | refine SGo.inBlock ?_ | refine SGo.block ?_ | refine SGo.scope ?_ | refine SGo.inScope ?_ | refine SGo.label ?_ | refine SGo.exit rfl ?_)
    exact SGo.ret Try.func6 (fun τ hτ => ares_tmp rfl ares_nil) fun τ hτ => SRet.mk hτ (List.nil_sublist _) ⟨rfl, rfl⟩
  have h' : zs.length ≤ 60 ∧ T ≤ 500 ∧ 1 ≤ K ∧ K ≤ 100 := by
    simp only [Bool.or_eq_false_iff, decide_eq_false_iff_not] at h
    omega
  clear h
  obtain ⟨hn, hT5, hK1, hK2⟩ := h'
  repeat (first | refine SGo.seq ?_ | refine SGo.skip ?_ | refine SGo.inBlock ?_ | refine SGo.block ?_ | refine SGo.scope ?_ | refine SGo.inScope ?_ | refine SGo.label ?_ | refine SGo.exit rfl ?_)
  refine SGo.reg ?_
  refine SReg.mv rfl rfl rfl ?_
  refine SReg.mv rfl rfl rfl ?_
  refine SReg.go (quantize19 hz hn (.inl hT5) hT) rfl rfl (by kernel_rfl) ⟨_, .refl _, .refl _⟩ ?_
  rintro v l1 (⟨he, c1, rfl, rfl⟩ | ⟨he, p, hp, c1, rfl, rfl⟩)
  · skip
    dsimp only [List.cons_append, List.nil_append]
    refine SReg.mv rfl rfl rfl ?_
    refine SReg.ex rfl rfl (fun _ _ => ex_extract rfl rfl) ?_
    refine SReg.ex rfl rfl (fun _ _ => ex_extract rfl rfl) ?_
    refine SReg.as rfl rfl rfl ?_
    refine SReg.as rfl rfl rfl ?_
    refine SReg.nil ?_
    repeat (first | refine SGo.seq ?_ | refine SGo.skip ?_ | refine SGo.inBlock ?_ | refine SGo.block ?_ | refine SGo.scope ?_ | refine SGo.inScope ?_ | refine SGo.label ?_ | refine SGo.exit rfl ?_)
    generalize qE zs T = e at *
    repeat (first | refine SGo.seq ?_ | refine SGo.skip ?_ | refine SGo.inBlock ?_ | refine SGo.block ?_ | refine SGo.scope ?_ | refine SGo.inScope ?_ | refine SGo.label ?_ | refine SGo.exit rfl ?_)
    refine SGo.reg ?_
    refine SReg.mv rfl rfl rfl ?_
    refine SReg.ex rfl rfl (fun _ _ => by first | exact ex_bool (ex_neq rfl rfl) (by assumption) | exact ex_neq rfl rfl) ?_
    refine SReg.nil ?_
    repeat (first | refine SGo.seq ?_ | refine SGo.skip ?_ | refine SGo.inBlock ?_ | refine SGo.block ?_ | refine SGo.scope ?_ | refine SGo.inScope ?_ | refine SGo.label ?_ | refine SGo.exit rfl ?_)
    refine SGo.condT (by rw [decide_eq_true he]; rfl) ?_
    have g0 : decide ((((([] : List Int).length : Nat)) : Int) = 0) = true := rfl
    repeat (first | refine SGo.seq ?_ | refine SGo.skip ?_ | refine SGo.inBlock ?_ | refine SGo.block ?_ | refine SGo.scope ?_ | refine SGo.inScope ?_ | refine SGo.label ?_ | refine SGo.exit rfl ?_)
    refine SGo.reg ?_
    refine SReg.mv rfl rfl rfl ?_
    refine SReg.valG rfl rfl (sx_lenG rfl (tf (by rfl)) (by first | exact hz_nil (by assumption) | exact map_nil | exact len_nil (by first | assumption | rfl | (simp; done)))) ?_
    refine SReg.ex rfl rfl (fun _ _ => by first | exact ex_bool (ex_eql rfl rfl) (by assumption) | exact ex_eql rfl rfl) ?_
    refine SReg.mv rfl rfl rfl ?_
    refine SReg.goG alive10 rfl rfl rfl (by kernel_rfl) ⟨_, .refl _, List.nil_sublist _⟩ ?_
    rintro _ _ ⟨rfl, rfl⟩
    dsimp only [List.cons_append, List.nil_append]
    refine SReg.ex rfl rfl (fun _ _ => by first | exact ex_pickT rfl rfl | exact ex_pickF rfl rfl) ?_
    refine SReg.as rfl rfl rfl ?_
    refine SReg.nil ?_
    repeat (first | refine SGo.seq ?_ | refine SGo.skip ?_ | refine SGo.inBlock ?_ | refine SGo.block ?_ | refine SGo.scope ?_ | refine SGo.inScope ?_ | refine SGo.label ?_ | refine SGo.exit rfl ?_)
    exact SGo.ret Try.func6 (fun τ hτ => ares_tmp rfl ares_nil) fun τ hτ => SRet.mk hτ (List.nil_sublist _) ⟨rfl, rfl⟩
  dsimp only [List.cons_append, List.nil_append]
  refine SReg.mv rfl rfl rfl ?_
  refine SReg.ex rfl rfl (fun _ _ => ex_extract rfl rfl) ?_
  refine SReg.ex rfl rfl (fun _ _ => ex_extract rfl rfl) ?_
  refine SReg.as rfl rfl rfl ?_
  refine SReg.as rfl rfl rfl ?_
  refine SReg.nil ?_
  repeat (first | refine SGo.seq ?_ | refine SGo.skip ?_ | refine SGo.inBlock ?_ | refine SGo.block ?_ | refine SGo.scope ?_ | refine SGo.inScope ?_ | refine SGo.label ?_ | refine SGo.exit rfl ?_)
  repeat (first | refine SGo.seq ?_ | refine SGo.skip ?_ | refine SGo.inBlock ?_ | refine SGo.block ?_ | refine SGo.scope ?_ | refine SGo.inScope ?_ | refine SGo.label ?_ | refine SGo.exit rfl ?_)
  refine SGo.reg ?_
  refine SReg.mv rfl rfl rfl ?_
  refine SReg.ex rfl rfl (fun _ _ => by first | exact ex_bool (ex_neq rfl rfl) (by assumption) | exact ex_neq rfl rfl) ?_
  refine SReg.nil ?_
  repeat (first | refine SGo.seq ?_ | refine SGo.skip ?_ | refine SGo.inBlock ?_ | refine SGo.block ?_ | refine SGo.scope ?_ | refine SGo.inScope ?_ | refine SGo.label ?_ | refine SGo.exit rfl ?_)
  refine SGo.condF rfl ?_
  have hq : zs.length ≠ 0 ∧ chkE zs = 0 ∧ (zs.length : Int) ≤ T := by
    unfold qE at he
    split at he
    · omega
    split at he
    · omega
    · omega
  obtain ⟨h0, hc0, hzT⟩ := hq
  obtain ⟨_, hok⟩ := chk_ok hc0
  have hw := wOk_all hok
  have hwi : ∀ i, i < zs.length → 1 ≤ zs.getD i 0 ∧ zs.getD i 0 ≤ 65536 := fun i hi => hw _ (getD_mem hi)
  have hpl := hp.len
  have hps := hp.sum
  have hpg := sum_ge (p := p) hp.pos
  have hpi : ∀ i, i < zs.length → 1 ≤ p.getD i 0 ∧ p.getD i 0 ≤ 500 := fun i hi => ⟨hp.pos i (by omega), by have := hpg.2 i (by omega); omega⟩
  have hpok : p.any (fun w => !wOk w) = false := any_of fun i hi => by have := hpi i (by omega); omega
  have hsb := sum_bnd hok
  have hs : 1 ≤ zs.sum ∧ zs.sum ≤ 3932160 := by omega
  refine SGo.has (F := [(0, gv c off zs.length cap), (1, .int .i64 T), (2, .int .i64 K), (7, sv c1 p.length)]) ⟨rfl, rfl, rfl, rfl, trivial⟩ ?_
  repeat (first | refine SGo.seq ?_ | refine SGo.skip ?_ | refine SGo.inBlock ?_ | refine SGo.block ?_ | refine SGo.scope ?_ | refine SGo.inScope ?_ | refine SGo.label ?_ | refine SGo.exit rfl ?_)
  refine SGo.reg ?_
  refine SReg.as rfl rfl rfl ?_
  refine SReg.as rfl rfl rfl ?_
  refine SReg.nil ?_
  repeat (first | refine SGo.seq ?_ | refine SGo.skip ?_ | refine SGo.inBlock ?_ | refine SGo.block ?_ | refine SGo.scope ?_ | refine SGo.inScope ?_ | refine SGo.label ?_ | refine SGo.exit rfl ?_)
  repeat (first | refine SGo.seq ?_ | refine SGo.skip ?_ | refine SGo.inBlock ?_ | refine SGo.block ?_ | refine SGo.scope ?_ | refine SGo.inScope ?_ | refine SGo.label ?_ | refine SGo.exit rfl ?_)
  refine SGo.reg ?_
  refine SReg.mv rfl rfl rfl ?_
  refine SReg.valG rfl rfl (sx_lenG rfl (tf (by rfl)) (by first | exact hz_nil (by assumption) | exact map_nil | exact len_nil (by first | assumption | rfl | (simp; done)))) ?_
  refine SReg.mv rfl rfl rfl ?_
  refine SReg.valG rfl rfl (sx_lenG rfl (tf (by rfl)) (by first | exact hz_nil (by assumption) | exact map_nil | exact len_nil (by first | assumption | rfl | (simp; done)))) ?_
  refine SReg.ex rfl rfl (fun _ _ => by first | exact ex_bool (ex_neq rfl rfl) (by assumption) | exact ex_neq rfl rfl) ?_
  refine SReg.nil ?_
  repeat (first | refine SGo.seq ?_ | refine SGo.skip ?_ | refine SGo.inBlock ?_ | refine SGo.block ?_ | refine SGo.scope ?_ | refine SGo.inScope ?_ | refine SGo.label ?_ | refine SGo.exit rfl ?_)
  refine SGo.condF (by rw [decide_eq_false (by omega)]; rfl) ?_
  repeat (first | refine SGo.seq ?_ | refine SGo.skip ?_ | refine SGo.inBlock ?_ | refine SGo.block ?_ | refine SGo.scope ?_ | refine SGo.inScope ?_ | refine SGo.label ?_ | refine SGo.exit rfl ?_)
  refine SGo.reg ?_
  refine SReg.mv rfl rfl rfl ?_
  refine SReg.valG rfl rfl (sx_lenG rfl (tf (by rfl)) (by first | exact hz_nil (by assumption) | exact map_nil | exact len_nil (by first | assumption | rfl | (simp; done)))) ?_
  refine SReg.mv rfl rfl rfl ?_
  refine SReg.nil ?_
  repeat (first | refine SGo.seq ?_ | refine SGo.skip ?_ | refine SGo.inBlock ?_ | refine SGo.block ?_ | refine SGo.scope ?_ | refine SGo.inScope ?_ | refine SGo.label ?_ | refine SGo.exit rfl ?_)
  refine SGo.loopI (ι := Nat) (F := fun i => [(0, gv c off zs.length cap), (1, .int .i64 T), (2, .int .i64 K), (7, sv c1 p.length), (9, .int .i64 (zs.take i).sum), (10, .int .i64 (p.take i).sum), (54, .int .i64 (zs.length : Nat)), (55, .int .i64 (i : Nat))]) (O := fun _ => [(c, .cells cs 3 rw)]) (l0 := fun _ => [(c1, .cells (p.map (Value.int .i64)) 3 true)])
    (I := fun i => i ≤ zs.length) (μ := fun i => zs.length - i) ?_ (x0 := 0) (Nat.zero_le _) ⟨rfl, rfl, rfl, rfl, rfl, rfl, rfl, rfl, trivial⟩ rfl rfl
  rintro i hi next
  repeat (first | refine SGo.seq ?_ | refine SGo.skip ?_ | refine SGo.inBlock ?_ | refine SGo.block ?_ | refine SGo.scope ?_ | refine SGo.inScope ?_ | refine SGo.label ?_ | refine SGo.exit rfl ?_)
  refine SGo.reg ?_
  refine SReg.ex rfl rfl (fun _ _ => by first | exact ex_bool (ex_lss rfl rfl) (by assumption) | exact ex_lss rfl rfl) ?_
  refine SReg.nil ?_
  repeat (first | refine SGo.seq ?_ | refine SGo.skip ?_ | refine SGo.inBlock ?_ | refine SGo.block ?_ | refine SGo.scope ?_ | refine SGo.inScope ?_ | refine SGo.label ?_ | refine SGo.exit rfl ?_)
  refine SGo.condD rfl (fun h => ?_) (fun h => ?_)
  · have hi' : i < zs.length := by omega
    have b1 := sum_bnd (any_take hok i)
    have b2 := sum_bnd (any_take hpok i)
    have b3 := sum_bnd (any_take hok (i + 1))
    have b4 := sum_bnd (any_take hpok (i + 1))
    have t1 := take_sum hi'
    have t2 := take_sum (zs := p) (k := i) (by omega)
    rw [List.length_take] at b1 b2 b3 b4
    repeat (first | refine SGo.seq ?_ | refine SGo.skip ?_ | refine SGo.inBlock ?_ | refine SGo.block ?_ | refine SGo.scope ?_ | refine SGo.inScope ?_ | refine SGo.label ?_ | refine SGo.exit rfl ?_)
    refine SGo.reg ?_
    refine SReg.mv rfl rfl rfl ?_
    refine SReg.as rfl rfl rfl ?_
    refine SReg.nil ?_
    repeat (first | refine SGo.seq ?_ | refine SGo.skip ?_ | refine SGo.inBlock ?_ | refine SGo.block ?_ | refine SGo.scope ?_ | refine SGo.inScope ?_ | refine SGo.label ?_ | refine SGo.exit rfl ?_)
    repeat (first | refine SGo.seq ?_ | refine SGo.skip ?_ | refine SGo.inBlock ?_ | refine SGo.block ?_ | refine SGo.scope ?_ | refine SGo.inScope ?_ | refine SGo.label ?_ | refine SGo.exit rfl ?_)
    refine SGo.reg ?_
    refine SReg.mv rfl rfl rfl ?_
    refine SReg.mv rfl rfl rfl ?_
    refine SReg.mv rfl rfl rfl ?_
    refine SReg.idxG rfl rfl rfl rfl (tf (by rfl)) (tf (by rfl)) (by first | assumption | rfl) (by omega) (by first | exact hz_nil (by assumption) | exact map_nil | exact len_nil (by first | assumption | rfl | (simp; done))) (fun _ hidx => ?_)
    cases hidx
    refine SReg.ld rfl rfl rfl (by first | exact sld_cell (tf (by rfl)) rfl (by first | assumption | rfl) | exact sld_sub (d := (0 : Int)) (by assumption) (tf (by rfl)) rfl rfl (by omega) | exact sld_at (0 : Int) (tf (by rfl)) rfl rfl (by omega) | exact sld_sub (d := false) (by assumption) (tf (by rfl)) rfl rfl (by omega) | exact sld_at false (tf (by rfl)) rfl rfl (by omega) | exact sld_all (tf (by rfl)) rfl (by first | rfl | (simp; done))) ?_
    refine SReg.ex rfl rfl (fun _ _ => ex_add rfl rfl (by first | assumption | omega | decide)) ?_
    refine SReg.as rfl rfl rfl ?_
    refine SReg.nil ?_
    repeat (first | refine SGo.seq ?_ | refine SGo.skip ?_ | refine SGo.inBlock ?_ | refine SGo.block ?_ | refine SGo.scope ?_ | refine SGo.inScope ?_ | refine SGo.label ?_ | refine SGo.exit rfl ?_)
    repeat (first | refine SGo.seq ?_ | refine SGo.skip ?_ | refine SGo.inBlock ?_ | refine SGo.block ?_ | refine SGo.scope ?_ | refine SGo.inScope ?_ | refine SGo.label ?_ | refine SGo.exit rfl ?_)
    refine SGo.reg ?_
    refine SReg.mv rfl rfl rfl ?_
    refine SReg.mv rfl rfl rfl ?_
    refine SReg.mv rfl rfl rfl ?_
    refine SReg.idxG rfl rfl rfl rfl (tf (by rfl)) (tf (by rfl)) (by first | assumption | rfl) (by omega) (by first | exact hz_nil (by assumption) | exact map_nil | exact len_nil (by first | assumption | rfl | (simp; done))) (fun _ hidx => ?_)
    cases hidx
    refine SReg.ld rfl rfl rfl (by first | exact sld_cell (tf (by rfl)) rfl (by first | assumption | rfl) | exact sld_sub (d := (0 : Int)) (by assumption) (tf (by rfl)) rfl rfl (by omega) | exact sld_at (0 : Int) (tf (by rfl)) rfl rfl (by omega) | exact sld_sub (d := false) (by assumption) (tf (by rfl)) rfl rfl (by omega) | exact sld_at false (tf (by rfl)) rfl rfl (by omega) | exact sld_all (tf (by rfl)) rfl (by first | rfl | (simp; done))) ?_
    refine SReg.ex rfl rfl (fun _ _ => ex_add rfl rfl (by first | assumption | omega | decide)) ?_
    refine SReg.as rfl rfl rfl ?_
    refine SReg.nil ?_
    repeat (first | refine SGo.seq ?_ | refine SGo.skip ?_ | refine SGo.inBlock ?_ | refine SGo.block ?_ | refine SGo.scope ?_ | refine SGo.inScope ?_ | refine SGo.label ?_ | refine SGo.exit rfl ?_)
    repeat (first | refine SGo.seq ?_ | refine SGo.skip ?_ | refine SGo.inBlock ?_ | refine SGo.block ?_ | refine SGo.scope ?_ | refine SGo.inScope ?_ | refine SGo.label ?_ | refine SGo.exit rfl ?_)
    refine SGo.reg ?_
    refine SReg.mv rfl rfl rfl ?_
    refine SReg.mv rfl rfl rfl ?_
    refine SReg.idxG rfl rfl rfl rfl (tf (by rfl)) (tf (by rfl)) (by first | assumption | rfl) (by omega) (by first | exact hz_nil (by assumption) | exact map_nil | exact len_nil (by first | assumption | rfl | (simp; done))) (fun _ hidx => ?_)
    cases hidx
    refine SReg.ld rfl rfl rfl (by first | exact sld_cell (tf (by rfl)) rfl (by first | assumption | rfl) | exact sld_sub (d := (0 : Int)) (by assumption) (tf (by rfl)) rfl rfl (by omega) | exact sld_at (0 : Int) (tf (by rfl)) rfl rfl (by omega) | exact sld_sub (d := false) (by assumption) (tf (by rfl)) rfl rfl (by omega) | exact sld_at false (tf (by rfl)) rfl rfl (by omega) | exact sld_all (tf (by rfl)) rfl (by first | rfl | (simp; done))) ?_
    refine SReg.ex rfl rfl (fun _ _ => by first | exact ex_bool (ex_lss rfl rfl) (by assumption) | exact ex_lss rfl rfl) ?_
    refine SReg.nil ?_
    repeat (first | refine SGo.seq ?_ | refine SGo.skip ?_ | refine SGo.inBlock ?_ | refine SGo.block ?_ | refine SGo.scope ?_ | refine SGo.inScope ?_ | refine SGo.label ?_ | refine SGo.exit rfl ?_)
    refine SGo.condF (by rw [decide_eq_false (by have := hpi i hi'; omega)]; rfl) ?_
    repeat (first | refine SGo.seq ?_ | refine SGo.skip ?_ | refine SGo.inBlock ?_ | refine SGo.block ?_ | refine SGo.scope ?_ | refine SGo.inScope ?_ | refine SGo.label ?_ | refine SGo.exit rfl ?_)
    refine SGo.reg ?_
    refine SReg.ex rfl rfl (fun _ _ => ex_add rfl rfl (by first | assumption | omega | decide)) ?_
    refine SReg.mv rfl rfl rfl ?_
    refine SReg.nil ?_
    repeat (first | refine SGo.seq ?_ | refine SGo.skip ?_ | refine SGo.inBlock ?_ | refine SGo.block ?_ | refine SGo.scope ?_ | refine SGo.inScope ?_ | refine SGo.label ?_ | refine SGo.exit rfl ?_)
    refine next (i + 1) _ (by omega) (by omega) ⟨rfl, rfl, rfl, rfl, ?_, ?_, rfl, rfl, trivial⟩
    · rw [t1]; rfl
    · rw [t2]; rfl
  clear next
  have hiz : i = zs.length := by omega
  subst hiz
  rw [List.take_of_length_le (Nat.le_refl _), List.take_of_length_le (show p.length ≤ zs.length by omega), hps]
  refine SGo.has (F := [(0, gv c off zs.length cap), (1, .int .i64 T), (2, .int .i64 K), (7, sv c1 p.length), (9, .int .i64 zs.sum), (10, .int .i64 T)]) ⟨rfl, rfl, rfl, rfl, rfl, rfl, trivial⟩ ?_
  repeat (first | refine SGo.seq ?_ | refine SGo.skip ?_ | refine SGo.inBlock ?_ | refine SGo.block ?_ | refine SGo.scope ?_ | refine SGo.inScope ?_ | refine SGo.label ?_ | refine SGo.exit rfl ?_)
  repeat (first | refine SGo.seq ?_ | refine SGo.skip ?_ | refine SGo.inBlock ?_ | refine SGo.block ?_ | refine SGo.scope ?_ | refine SGo.inScope ?_ | refine SGo.label ?_ | refine SGo.exit rfl ?_)
  refine SGo.reg ?_
  refine SReg.mv rfl rfl rfl ?_
  refine SReg.valG rfl rfl (sx_lenG rfl (tf (by rfl)) (by first | exact hz_nil (by assumption) | exact map_nil | exact len_nil (by first | assumption | rfl | (simp; done)))) ?_
  refine SReg.mv rfl rfl rfl ?_
  refine SReg.nil ?_
  repeat (first | refine SGo.seq ?_ | refine SGo.skip ?_ | refine SGo.inBlock ?_ | refine SGo.block ?_ | refine SGo.scope ?_ | refine SGo.inScope ?_ | refine SGo.label ?_ | refine SGo.exit rfl ?_)
  refine SGo.loopI (ι := Nat) (F := fun i => [(0, gv c off zs.length cap), (1, .int .i64 T), (2, .int .i64 K), (7, sv c1 p.length), (9, .int .i64 zs.sum), (10, .int .i64 T), (77, .int .i64 (zs.length : Nat)), (78, .int .i64 (i : Nat))]) (O := fun _ => [(c, .cells cs 3 rw)]) (l0 := fun _ => [(c1, .cells (p.map (Value.int .i64)) 3 true)])
    (I := fun i => i ≤ zs.length) (μ := fun i => zs.length - i) ?_ (x0 := 0) (Nat.zero_le _) ⟨rfl, rfl, rfl, rfl, rfl, rfl, rfl, rfl, trivial⟩ rfl rfl
  rintro i hi next
  repeat (first | refine SGo.seq ?_ | refine SGo.skip ?_ | refine SGo.inBlock ?_ | refine SGo.block ?_ | refine SGo.scope ?_ | refine SGo.inScope ?_ | refine SGo.label ?_ | refine SGo.exit rfl ?_)
  refine SGo.reg ?_
  refine SReg.ex rfl rfl (fun _ _ => by first | exact ex_bool (ex_lss rfl rfl) (by assumption) | exact ex_lss rfl rfl) ?_
  refine SReg.nil ?_
  repeat (first | refine SGo.seq ?_ | refine SGo.skip ?_ | refine SGo.inBlock ?_ | refine SGo.block ?_ | refine SGo.scope ?_ | refine SGo.inScope ?_ | refine SGo.label ?_ | refine SGo.exit rfl ?_)
  refine SGo.condD rfl (fun h => ?_) (fun h => ?_)
  · have hi' : i < zs.length := by omega
    repeat (first | refine SGo.seq ?_ | refine SGo.skip ?_ | refine SGo.inBlock ?_ | refine SGo.block ?_ | refine SGo.scope ?_ | refine SGo.inScope ?_ | refine SGo.label ?_ | refine SGo.exit rfl ?_)
    refine SGo.reg ?_
    refine SReg.mv rfl rfl rfl ?_
    refine SReg.as rfl rfl rfl ?_
    refine SReg.nil ?_
    repeat (first | refine SGo.seq ?_ | refine SGo.skip ?_ | refine SGo.inBlock ?_ | refine SGo.block ?_ | refine SGo.scope ?_ | refine SGo.inScope ?_ | refine SGo.label ?_ | refine SGo.exit rfl ?_)
    repeat (first | refine SGo.seq ?_ | refine SGo.skip ?_ | refine SGo.inBlock ?_ | refine SGo.block ?_ | refine SGo.scope ?_ | refine SGo.inScope ?_ | refine SGo.label ?_ | refine SGo.exit rfl ?_)
    refine SGo.reg ?_
    refine SReg.mv rfl rfl rfl ?_
    refine SReg.valG rfl rfl (sx_lenG rfl (tf (by rfl)) (by first | exact hz_nil (by assumption) | exact map_nil | exact len_nil (by first | assumption | rfl | (simp; done)))) ?_
    refine SReg.mv rfl rfl rfl ?_
    refine SReg.nil ?_
    repeat (first | refine SGo.seq ?_ | refine SGo.skip ?_ | refine SGo.inBlock ?_ | refine SGo.block ?_ | refine SGo.scope ?_ | refine SGo.inScope ?_ | refine SGo.label ?_ | refine SGo.exit rfl ?_)
    refine SGo.loopI (ι := Nat) (F := fun j => [(0, gv c off zs.length cap), (1, .int .i64 T), (2, .int .i64 K), (7, sv c1 p.length), (9, .int .i64 zs.sum), (10, .int .i64 T), (77, .int .i64 (zs.length : Nat)), (78, .int .i64 (i : Nat)), (12, .int .i64 (i : Nat)), (82, .int .i64 (zs.length : Nat)), (83, .int .i64 (j : Nat))]) (O := fun _ => [(c, .cells cs 3 rw)]) (l0 := fun _ => [(c1, .cells (p.map (Value.int .i64)) 3 true)])
      (I := fun j => j ≤ zs.length) (μ := fun j => zs.length - j) ?_ (x0 := 0) (Nat.zero_le _) ⟨rfl, rfl, rfl, rfl, rfl, rfl, rfl, rfl, rfl, rfl, rfl, trivial⟩ rfl rfl
    rintro j hj next2
    repeat (first | refine SGo.seq ?_ | refine SGo.skip ?_ | refine SGo.inBlock ?_ | refine SGo.block ?_ | refine SGo.scope ?_ | refine SGo.inScope ?_ | refine SGo.label ?_ | refine SGo.exit rfl ?_)
    refine SGo.reg ?_
    refine SReg.ex rfl rfl (fun _ _ => by first | exact ex_bool (ex_lss rfl rfl) (by assumption) | exact ex_lss rfl rfl) ?_
    refine SReg.nil ?_
    repeat (first | refine SGo.seq ?_ | refine SGo.skip ?_ | refine SGo.inBlock ?_ | refine SGo.block ?_ | refine SGo.scope ?_ | refine SGo.inScope ?_ | refine SGo.label ?_ | refine SGo.exit rfl ?_)
    refine SGo.condD rfl (fun h2 => ?_) (fun h2 => ?_)
    · have hj' : j < zs.length := by omega
      have mulb : ∀ a b : Int, 0 ≤ a → a ≤ 3932160 → 0 ≤ b → b ≤ 65536 → 0 ≤ a * b ∧ a * b ≤ 257698037760 := fun a b a1 a2 b1 b2 => by
        have h1 := Int.mul_le_mul a2 b2 b1 (by omega)
        exact ⟨Int.mul_nonneg a1 b1, by omega⟩
      have pi := hpi i hi'
      have pj := hpi j hj'
      have wi := hwi i hi'
      have wj := hwi j hj'
      have m1 := mulb zs.sum (p.getD j 0) (by omega) (by omega) (by omega) (by omega)
      have m2 := mulb T (zs.getD j 0) (by omega) (by omega) (by omega) (by omega)
      have m3 := mulb zs.sum (p.getD i 0 - 1) (by omega) (by omega) (by omega) (by omega)
      have m4 := mulb T (zs.getD i 0) (by omega) (by omega) (by omega) (by omega)
      repeat (first | refine SGo.seq ?_ | refine SGo.skip ?_ | refine SGo.inBlock ?_ | refine SGo.block ?_ | refine SGo.scope ?_ | refine SGo.inScope ?_ | refine SGo.label ?_ | refine SGo.exit rfl ?_)
      refine SGo.reg ?_
      refine SReg.mv rfl rfl rfl ?_
      refine SReg.as rfl rfl rfl ?_
      refine SReg.nil ?_
      repeat (first | refine SGo.seq ?_ | refine SGo.skip ?_ | refine SGo.inBlock ?_ | refine SGo.block ?_ | refine SGo.scope ?_ | refine SGo.inScope ?_ | refine SGo.label ?_ | refine SGo.exit rfl ?_)
      repeat (first | refine SGo.seq ?_ | refine SGo.skip ?_ | refine SGo.inBlock ?_ | refine SGo.block ?_ | refine SGo.scope ?_ | refine SGo.inScope ?_ | refine SGo.label ?_ | refine SGo.exit rfl ?_)
      refine SGo.draw [] [0, 1, 2, 3, 4, 5, 6, 7, 8, 9, 10, 11, 12, 13, 14, 15, 16, 17, 18, 19, 20, 21, 22, 23, 24, 25, 26, 27, 28, 29, 30, 31, 32, 33, 34] mixed (by kernel_rfl) ?_
      refine SDW.readL rfl rfl rfl rfl (sx_of fun _ _ => ex_move rfl) ?_
      refine SDW.readL rfl rfl rfl rfl (sx_of fun _ _ => ex_move rfl) ?_
      refine SDW.idxL rfl rfl rfl rfl rfl rfl (tf (by rfl)) (tf (by rfl)) (by first | assumption | rfl) (by omega) (by first | exact hz_nil (by assumption) | exact map_nil | exact len_nil (by first | assumption | rfl | (simp; done))) (fun _ hidx => ?_)
      cases hidx
      refine SDW.readL rfl rfl rfl rfl (sx_load rfl (by first | exact sld_cell (tf (by rfl)) rfl (by first | assumption | rfl) | exact sld_sub (d := (0 : Int)) (by assumption) (tf (by rfl)) rfl rfl (by omega) | exact sld_at (0 : Int) (tf (by rfl)) rfl rfl (by omega) | exact sld_sub (d := false) (by assumption) (tf (by rfl)) rfl rfl (by omega) | exact sld_at false (tf (by rfl)) rfl rfl (by omega) | exact sld_all (tf (by rfl)) rfl (by first | rfl | (simp; done)))) ?_
      refine SDW.readL rfl rfl rfl rfl (sx_of (fun _ _ => by first | exact ex_bool (ex_gtr rfl rfl) (by assumption) | exact ex_gtr rfl rfl)) ?_
      refine SDW.readL rfl rfl rfl rfl (sx_of fun _ _ => ex_move rfl) ?_
      rename_i C1
      refine SDW.join (fun fr' => Has [(0, gv c off zs.length cap), (1, .int .i64 T), (2, .int .i64 K), (7, sv (some C1) p.length), (9, .int .i64 zs.sum), (10, .int .i64 T), (77, .int .i64 (zs.length : Nat)), (78, .int .i64 (i : Nat)), (12, .int .i64 (i : Nat)), (82, .int .i64 (zs.length : Nat)), (83, .int .i64 (j : Nat)), (120, .bool false)] fr') ?_ fun nx => ?_
      rotate_left
      · cases g : decide (p.getD i 0 > 1) with
        | true =>
          have g' : 1 < p.getD i 0 := of_decide_eq_true g
          have g2 : decide (zs.sum * p.getD j 0 - T * zs.getD j 0 < zs.sum * (p.getD i 0 - 1) - T * zs.getD i 0) = false := by
            have ho := hp.ord i j (by omega) (by omega) g'
            rw [cst_vl, cst_vl] at ho
            exact decide_eq_false (by omega)
          first | refine SDW.skipL rfl rfl rfl ?_ | (refine SDW.readL rfl rfl rfl rfl (sx_of fun _ _ => ex_move rfl) ?_)
          first | refine SDW.skipL rfl rfl rfl ?_ | (refine SDW.readL rfl rfl rfl rfl (sx_of fun _ _ => ex_move rfl) ?_)
          first | refine SDW.skipL rfl rfl rfl ?_ | (refine SDW.readL rfl rfl rfl rfl (sx_of fun _ _ => ex_move rfl) ?_)
          first | refine SDW.skipL rfl rfl rfl ?_ | (refine SDW.idxL rfl rfl rfl rfl rfl rfl (tf (by rfl)) (tf (by rfl)) (by first | assumption | rfl) (by omega) (by first | exact hz_nil (by assumption) | exact map_nil | exact len_nil (by first | assumption | rfl | (simp; done))) (fun _ hidx => ?_); cases hidx)
          first | refine SDW.skipL rfl rfl rfl ?_ | (refine SDW.readL rfl rfl rfl rfl (sx_load rfl (by first | exact sld_cell (tf (by rfl)) rfl (by first | assumption | rfl) | exact sld_sub (d := (0 : Int)) (by assumption) (tf (by rfl)) rfl rfl (by omega) | exact sld_at (0 : Int) (tf (by rfl)) rfl rfl (by omega) | exact sld_sub (d := false) (by assumption) (tf (by rfl)) rfl rfl (by omega) | exact sld_at false (tf (by rfl)) rfl rfl (by omega) | exact sld_all (tf (by rfl)) rfl (by first | rfl | (simp; done)))) ?_)
          first | refine SDW.skipL rfl rfl rfl ?_ | (refine SDW.readL rfl rfl rfl rfl (sx_of (fun _ _ => ex_mul rfl rfl (by first | assumption | omega | decide))) ?_)
          first | refine SDW.skipL rfl rfl rfl ?_ | (refine SDW.readL rfl rfl rfl rfl (sx_of fun _ _ => ex_move rfl) ?_)
          first | refine SDW.skipL rfl rfl rfl ?_ | (refine SDW.readL rfl rfl rfl rfl (sx_of fun _ _ => ex_move rfl) ?_)
          first | refine SDW.skipL rfl rfl rfl ?_ | (refine SDW.readL rfl rfl rfl rfl (sx_of fun _ _ => ex_move rfl) ?_)
          first | refine SDW.skipL rfl rfl rfl ?_ | (refine SDW.idxL rfl rfl rfl rfl rfl rfl (tf (by rfl)) (tf (by rfl)) (by first | assumption | rfl) (by omega) (by first | exact hz_nil (by assumption) | exact map_nil | exact len_nil (by first | assumption | rfl | (simp; done))) (fun _ hidx => ?_); cases hidx)
          first | refine SDW.skipL rfl rfl rfl ?_ | (refine SDW.readL rfl rfl rfl rfl (sx_load rfl (by first | exact sld_cell (tf (by rfl)) rfl (by first | assumption | rfl) | exact sld_sub (d := (0 : Int)) (by assumption) (tf (by rfl)) rfl rfl (by omega) | exact sld_at (0 : Int) (tf (by rfl)) rfl rfl (by omega) | exact sld_sub (d := false) (by assumption) (tf (by rfl)) rfl rfl (by omega) | exact sld_at false (tf (by rfl)) rfl rfl (by omega) | exact sld_all (tf (by rfl)) rfl (by first | rfl | (simp; done)))) ?_)
          first | refine SDW.skipL rfl rfl rfl ?_ | (refine SDW.readL rfl rfl rfl rfl (sx_of (fun _ _ => ex_mul rfl rfl (by first | assumption | omega | decide))) ?_)
          first | refine SDW.skipL rfl rfl rfl ?_ | (refine SDW.readL rfl rfl rfl rfl (sx_of (fun _ _ => ex_sub rfl rfl (by first | assumption | omega | decide))) ?_)
          first | refine SDW.skipL rfl rfl rfl ?_ | (refine SDW.readL rfl rfl rfl rfl (sx_of fun _ _ => ex_move rfl) ?_)
          first | refine SDW.skipL rfl rfl rfl ?_ | (refine SDW.readL rfl rfl rfl rfl (sx_of fun _ _ => ex_move rfl) ?_)
          first | refine SDW.skipL rfl rfl rfl ?_ | (refine SDW.readL rfl rfl rfl rfl (sx_of fun _ _ => ex_move rfl) ?_)
          first | refine SDW.skipL rfl rfl rfl ?_ | (refine SDW.idxL rfl rfl rfl rfl rfl rfl (tf (by rfl)) (tf (by rfl)) (by first | assumption | rfl) (by omega) (by first | exact hz_nil (by assumption) | exact map_nil | exact len_nil (by first | assumption | rfl | (simp; done))) (fun _ hidx => ?_); cases hidx)
          first | refine SDW.skipL rfl rfl rfl ?_ | (refine SDW.readL rfl rfl rfl rfl (sx_load rfl (by first | exact sld_cell (tf (by rfl)) rfl (by first | assumption | rfl) | exact sld_sub (d := (0 : Int)) (by assumption) (tf (by rfl)) rfl rfl (by omega) | exact sld_at (0 : Int) (tf (by rfl)) rfl rfl (by omega) | exact sld_sub (d := false) (by assumption) (tf (by rfl)) rfl rfl (by omega) | exact sld_at false (tf (by rfl)) rfl rfl (by omega) | exact sld_all (tf (by rfl)) rfl (by first | rfl | (simp; done)))) ?_)
          first | refine SDW.skipL rfl rfl rfl ?_ | (refine SDW.readL rfl rfl rfl rfl (sx_of (fun _ _ => ex_sub rfl rfl (by first | assumption | omega | decide))) ?_)
          first | refine SDW.skipL rfl rfl rfl ?_ | (refine SDW.readL rfl rfl rfl rfl (sx_of (fun _ _ => ex_mul rfl rfl (by first | assumption | omega | decide))) ?_)
          first | refine SDW.skipL rfl rfl rfl ?_ | (refine SDW.readL rfl rfl rfl rfl (sx_of fun _ _ => ex_move rfl) ?_)
          first | refine SDW.skipL rfl rfl rfl ?_ | (refine SDW.readL rfl rfl rfl rfl (sx_of fun _ _ => ex_move rfl) ?_)
          first | refine SDW.skipL rfl rfl rfl ?_ | (refine SDW.readL rfl rfl rfl rfl (sx_of fun _ _ => ex_move rfl) ?_)
          first | refine SDW.skipL rfl rfl rfl ?_ | (refine SDW.idxL rfl rfl rfl rfl rfl rfl (tf (by rfl)) (tf (by rfl)) (by first | assumption | rfl) (by omega) (by first | exact hz_nil (by assumption) | exact map_nil | exact len_nil (by first | assumption | rfl | (simp; done))) (fun _ hidx => ?_); cases hidx)
          first | refine SDW.skipL rfl rfl rfl ?_ | (refine SDW.readL rfl rfl rfl rfl (sx_load rfl (by first | exact sld_cell (tf (by rfl)) rfl (by first | assumption | rfl) | exact sld_sub (d := (0 : Int)) (by assumption) (tf (by rfl)) rfl rfl (by omega) | exact sld_at (0 : Int) (tf (by rfl)) rfl rfl (by omega) | exact sld_sub (d := false) (by assumption) (tf (by rfl)) rfl rfl (by omega) | exact sld_at false (tf (by rfl)) rfl rfl (by omega) | exact sld_all (tf (by rfl)) rfl (by first | rfl | (simp; done)))) ?_)
          first | refine SDW.skipL rfl rfl rfl ?_ | (refine SDW.readL rfl rfl rfl rfl (sx_of (fun _ _ => ex_mul rfl rfl (by first | assumption | omega | decide))) ?_)
          first | refine SDW.skipL rfl rfl rfl ?_ | (refine SDW.readL rfl rfl rfl rfl (sx_of (fun _ _ => ex_sub rfl rfl (by first | assumption | omega | decide))) ?_)
          first | refine SDW.skipL rfl rfl rfl ?_ | (refine SDW.readL rfl rfl rfl rfl (sx_of (fun _ _ => by first | exact ex_bool (ex_lss rfl rfl) (by assumption) | exact ex_lss rfl rfl)) ?_)
          refine SDW.readL rfl rfl rfl rfl (sx_of (fun _ _ => by first | exact ex_pickT rfl rfl | exact ex_pickF rfl rfl)) ?_
          refine SDW.done ?_
          repeat (first | refine SGo.seq ?_ | refine SGo.skip ?_ | refine SGo.inBlock ?_ | refine SGo.block ?_ | refine SGo.scope ?_ | refine SGo.inScope ?_ | refine SGo.label ?_ | refine SGo.exit rfl ?_)
          exact nx _ ⟨rfl, rfl, rfl, rfl, rfl, rfl, rfl, rfl, rfl, rfl, rfl, rfl, trivial⟩
        | false =>
          first | refine SDW.skipL rfl rfl rfl ?_ | (refine SDW.readL rfl rfl rfl rfl (sx_of fun _ _ => ex_move rfl) ?_)
          first | refine SDW.skipL rfl rfl rfl ?_ | (refine SDW.readL rfl rfl rfl rfl (sx_of fun _ _ => ex_move rfl) ?_)
          first | refine SDW.skipL rfl rfl rfl ?_ | (refine SDW.readL rfl rfl rfl rfl (sx_of fun _ _ => ex_move rfl) ?_)
          first | refine SDW.skipL rfl rfl rfl ?_ | (refine SDW.idxL rfl rfl rfl rfl rfl rfl (tf (by rfl)) (tf (by rfl)) (by first | assumption | rfl) (by omega) (by first | exact hz_nil (by assumption) | exact map_nil | exact len_nil (by first | assumption | rfl | (simp; done))) (fun _ hidx => ?_); cases hidx)
          first | refine SDW.skipL rfl rfl rfl ?_ | (refine SDW.readL rfl rfl rfl rfl (sx_load rfl (by first | exact sld_cell (tf (by rfl)) rfl (by first | assumption | rfl) | exact sld_sub (d := (0 : Int)) (by assumption) (tf (by rfl)) rfl rfl (by omega) | exact sld_at (0 : Int) (tf (by rfl)) rfl rfl (by omega) | exact sld_sub (d := false) (by assumption) (tf (by rfl)) rfl rfl (by omega) | exact sld_at false (tf (by rfl)) rfl rfl (by omega) | exact sld_all (tf (by rfl)) rfl (by first | rfl | (simp; done)))) ?_)
          first | refine SDW.skipL rfl rfl rfl ?_ | (refine SDW.readL rfl rfl rfl rfl (sx_of (fun _ _ => ex_mul rfl rfl (by first | assumption | omega | decide))) ?_)
          first | refine SDW.skipL rfl rfl rfl ?_ | (refine SDW.readL rfl rfl rfl rfl (sx_of fun _ _ => ex_move rfl) ?_)
          first | refine SDW.skipL rfl rfl rfl ?_ | (refine SDW.readL rfl rfl rfl rfl (sx_of fun _ _ => ex_move rfl) ?_)
          first | refine SDW.skipL rfl rfl rfl ?_ | (refine SDW.readL rfl rfl rfl rfl (sx_of fun _ _ => ex_move rfl) ?_)
          first | refine SDW.skipL rfl rfl rfl ?_ | (refine SDW.idxL rfl rfl rfl rfl rfl rfl (tf (by rfl)) (tf (by rfl)) (by first | assumption | rfl) (by omega) (by first | exact hz_nil (by assumption) | exact map_nil | exact len_nil (by first | assumption | rfl | (simp; done))) (fun _ hidx => ?_); cases hidx)
          first | refine SDW.skipL rfl rfl rfl ?_ | (refine SDW.readL rfl rfl rfl rfl (sx_load rfl (by first | exact sld_cell (tf (by rfl)) rfl (by first | assumption | rfl) | exact sld_sub (d := (0 : Int)) (by assumption) (tf (by rfl)) rfl rfl (by omega) | exact sld_at (0 : Int) (tf (by rfl)) rfl rfl (by omega) | exact sld_sub (d := false) (by assumption) (tf (by rfl)) rfl rfl (by omega) | exact sld_at false (tf (by rfl)) rfl rfl (by omega) | exact sld_all (tf (by rfl)) rfl (by first | rfl | (simp; done)))) ?_)
          first | refine SDW.skipL rfl rfl rfl ?_ | (refine SDW.readL rfl rfl rfl rfl (sx_of (fun _ _ => ex_mul rfl rfl (by first | assumption | omega | decide))) ?_)
          first | refine SDW.skipL rfl rfl rfl ?_ | (refine SDW.readL rfl rfl rfl rfl (sx_of (fun _ _ => ex_sub rfl rfl (by first | assumption | omega | decide))) ?_)
          first | refine SDW.skipL rfl rfl rfl ?_ | (refine SDW.readL rfl rfl rfl rfl (sx_of fun _ _ => ex_move rfl) ?_)
          first | refine SDW.skipL rfl rfl rfl ?_ | (refine SDW.readL rfl rfl rfl rfl (sx_of fun _ _ => ex_move rfl) ?_)
          first | refine SDW.skipL rfl rfl rfl ?_ | (refine SDW.readL rfl rfl rfl rfl (sx_of fun _ _ => ex_move rfl) ?_)
          first | refine SDW.skipL rfl rfl rfl ?_ | (refine SDW.idxL rfl rfl rfl rfl rfl rfl (tf (by rfl)) (tf (by rfl)) (by first | assumption | rfl) (by omega) (by first | exact hz_nil (by assumption) | exact map_nil | exact len_nil (by first | assumption | rfl | (simp; done))) (fun _ hidx => ?_); cases hidx)
          first | refine SDW.skipL rfl rfl rfl ?_ | (refine SDW.readL rfl rfl rfl rfl (sx_load rfl (by first | exact sld_cell (tf (by rfl)) rfl (by first | assumption | rfl) | exact sld_sub (d := (0 : Int)) (by assumption) (tf (by rfl)) rfl rfl (by omega) | exact sld_at (0 : Int) (tf (by rfl)) rfl rfl (by omega) | exact sld_sub (d := false) (by assumption) (tf (by rfl)) rfl rfl (by omega) | exact sld_at false (tf (by rfl)) rfl rfl (by omega) | exact sld_all (tf (by rfl)) rfl (by first | rfl | (simp; done)))) ?_)
          first | refine SDW.skipL rfl rfl rfl ?_ | (refine SDW.readL rfl rfl rfl rfl (sx_of (fun _ _ => ex_sub rfl rfl (by first | assumption | omega | decide))) ?_)
          first | refine SDW.skipL rfl rfl rfl ?_ | (refine SDW.readL rfl rfl rfl rfl (sx_of (fun _ _ => ex_mul rfl rfl (by first | assumption | omega | decide))) ?_)
          first | refine SDW.skipL rfl rfl rfl ?_ | (refine SDW.readL rfl rfl rfl rfl (sx_of fun _ _ => ex_move rfl) ?_)
          first | refine SDW.skipL rfl rfl rfl ?_ | (refine SDW.readL rfl rfl rfl rfl (sx_of fun _ _ => ex_move rfl) ?_)
          first | refine SDW.skipL rfl rfl rfl ?_ | (refine SDW.readL rfl rfl rfl rfl (sx_of fun _ _ => ex_move rfl) ?_)
          first | refine SDW.skipL rfl rfl rfl ?_ | (refine SDW.idxL rfl rfl rfl rfl rfl rfl (tf (by rfl)) (tf (by rfl)) (by first | assumption | rfl) (by omega) (by first | exact hz_nil (by assumption) | exact map_nil | exact len_nil (by first | assumption | rfl | (simp; done))) (fun _ hidx => ?_); cases hidx)
          first | refine SDW.skipL rfl rfl rfl ?_ | (refine SDW.readL rfl rfl rfl rfl (sx_load rfl (by first | exact sld_cell (tf (by rfl)) rfl (by first | assumption | rfl) | exact sld_sub (d := (0 : Int)) (by assumption) (tf (by rfl)) rfl rfl (by omega) | exact sld_at (0 : Int) (tf (by rfl)) rfl rfl (by omega) | exact sld_sub (d := false) (by assumption) (tf (by rfl)) rfl rfl (by omega) | exact sld_at false (tf (by rfl)) rfl rfl (by omega) | exact sld_all (tf (by rfl)) rfl (by first | rfl | (simp; done)))) ?_)
          first | refine SDW.skipL rfl rfl rfl ?_ | (refine SDW.readL rfl rfl rfl rfl (sx_of (fun _ _ => ex_mul rfl rfl (by first | assumption | omega | decide))) ?_)
          first | refine SDW.skipL rfl rfl rfl ?_ | (refine SDW.readL rfl rfl rfl rfl (sx_of (fun _ _ => ex_sub rfl rfl (by first | assumption | omega | decide))) ?_)
          first | refine SDW.skipL rfl rfl rfl ?_ | (refine SDW.readL rfl rfl rfl rfl (sx_of (fun _ _ => by first | exact ex_bool (ex_lss rfl rfl) (by assumption) | exact ex_lss rfl rfl)) ?_)
          refine SDW.readL rfl rfl rfl rfl (sx_of (fun _ _ => by first | exact ex_pickT rfl rfl | exact ex_pickF rfl rfl)) ?_
          refine SDW.done ?_
          repeat (first | refine SGo.seq ?_ | refine SGo.skip ?_ | refine SGo.inBlock ?_ | refine SGo.block ?_ | refine SGo.scope ?_ | refine SGo.inScope ?_ | refine SGo.label ?_ | refine SGo.exit rfl ?_)
          exact nx _ ⟨rfl, rfl, rfl, rfl, rfl, rfl, rfl, rfl, rfl, rfl, rfl, rfl, trivial⟩
      intro fr' hF
      refine SGo.has hF ?_
      refine SGo.condF rfl ?_
      repeat (first | refine SGo.seq ?_ | refine SGo.skip ?_ | refine SGo.inBlock ?_ | refine SGo.block ?_ | refine SGo.scope ?_ | refine SGo.inScope ?_ | refine SGo.label ?_ | refine SGo.exit rfl ?_)
      refine SGo.reg ?_
      refine SReg.ex rfl rfl (fun _ _ => ex_add rfl rfl (by first | assumption | omega | decide)) ?_
      refine SReg.mv rfl rfl rfl ?_
      refine SReg.nil ?_
      repeat (first | refine SGo.seq ?_ | refine SGo.skip ?_ | refine SGo.inBlock ?_ | refine SGo.block ?_ | refine SGo.scope ?_ | refine SGo.inScope ?_ | refine SGo.label ?_ | refine SGo.exit rfl ?_)
      exact next2 (j + 1) _ (by omega) (by omega) ⟨rfl, rfl, rfl, rfl, rfl, rfl, rfl, rfl, rfl, rfl, rfl, trivial⟩
    · clear next2
      repeat (first | refine SGo.seq ?_ | refine SGo.skip ?_ | refine SGo.inBlock ?_ | refine SGo.block ?_ | refine SGo.scope ?_ | refine SGo.inScope ?_ | refine SGo.label ?_ | refine SGo.exit rfl ?_)
      repeat (first | refine SGo.seq ?_ | refine SGo.skip ?_ | refine SGo.inBlock ?_ | refine SGo.block ?_ | refine SGo.scope ?_ | refine SGo.inScope ?_ | refine SGo.label ?_ | refine SGo.exit rfl ?_)
      refine SGo.reg ?_
      refine SReg.ex rfl rfl (fun _ _ => ex_add rfl rfl (by first | assumption | omega | decide)) ?_
      refine SReg.mv rfl rfl rfl ?_
      refine SReg.nil ?_
      repeat (first | refine SGo.seq ?_ | refine SGo.skip ?_ | refine SGo.inBlock ?_ | refine SGo.block ?_ | refine SGo.scope ?_ | refine SGo.inScope ?_ | refine SGo.label ?_ | refine SGo.exit rfl ?_)
      exact next (i + 1) _ (by omega) (by omega) ⟨rfl, rfl, rfl, rfl, rfl, rfl, rfl, rfl, trivial⟩
  clear next
  refine SGo.has (F := [(0, gv c off zs.length cap), (1, .int .i64 T), (2, .int .i64 K), (7, sv c1 p.length), (10, .int .i64 T)]) ⟨rfl, rfl, rfl, rfl, rfl, trivial⟩ ?_
  obtain ⟨q, hqd⟩ : ∃ q, q = p.map (K * ·) := ⟨_, rfl⟩
  have hql : q.length = p.length := by rw [hqd, List.length_map]
  have hqi : ∀ i, i < zs.length → q.getD i 0 = K * p.getD i 0 ∧ 1 ≤ K * p.getD i 0 ∧ K * p.getD i 0 ≤ 65536 := fun i hi => by
    have h1 := hpi i hi
    have h2 := Int.mul_le_mul hK2 h1.2 (by omega) (by omega)
    have h3 := Int.mul_pos (show 0 < K by omega) (show 0 < p.getD i 0 by omega)
    exact ⟨by rw [hqd, getD_mapm], by omega, by omega⟩
  have hqok : q.any (fun w => !wOk w) = false := any_of fun i hi => by have := hqi i (by omega); omega
  have hqs := sum_bnd hqok
  have hqE : qE q T = 0 := by
    have hck : chkE q = 0 := by rw [chkE, if_neg (by omega), hqok, if_neg (by simp)]
    rw [qE, if_neg (by omega), if_neg (by omega)]
  have hqg : Good q T p := by rw [hqd]; exact good_many hp hK1 (by omega)
  repeat (first | refine SGo.seq ?_ | refine SGo.skip ?_ | refine SGo.inBlock ?_ | refine SGo.block ?_ | refine SGo.scope ?_ | refine SGo.inScope ?_ | refine SGo.label ?_ | refine SGo.exit rfl ?_)
  repeat (first | refine SGo.seq ?_ | refine SGo.skip ?_ | refine SGo.inBlock ?_ | refine SGo.block ?_ | refine SGo.scope ?_ | refine SGo.inScope ?_ | refine SGo.label ?_ | refine SGo.exit rfl ?_)
  refine SGo.reg ?_
  refine SReg.as rfl rfl rfl ?_
  refine SReg.nil ?_
  repeat (first | refine SGo.seq ?_ | refine SGo.skip ?_ | refine SGo.inBlock ?_ | refine SGo.block ?_ | refine SGo.scope ?_ | refine SGo.inScope ?_ | refine SGo.label ?_ | refine SGo.exit rfl ?_)
  repeat (first | refine SGo.seq ?_ | refine SGo.skip ?_ | refine SGo.inBlock ?_ | refine SGo.block ?_ | refine SGo.scope ?_ | refine SGo.inScope ?_ | refine SGo.label ?_ | refine SGo.exit rfl ?_)
  refine SGo.reg ?_
  refine SReg.mv rfl rfl rfl ?_
  refine SReg.valG rfl rfl (sx_lenG rfl (tf (by rfl)) (by first | exact hz_nil (by assumption) | exact map_nil | exact len_nil (by first | assumption | rfl | (simp; done)))) ?_
  refine SReg.mv rfl rfl rfl ?_
  refine SReg.nil ?_
  repeat (first | refine SGo.seq ?_ | refine SGo.skip ?_ | refine SGo.inBlock ?_ | refine SGo.block ?_ | refine SGo.scope ?_ | refine SGo.inScope ?_ | refine SGo.label ?_ | refine SGo.exit rfl ?_)
  refine SGo.nilE 3 true ?_
  refine SGo.loopI (ι := Nat × Option Nat) (F := fun x => [(1, .int .i64 T), (2, .int .i64 K), (7, sv c1 p.length), (10, .int .i64 T), (14, sv x.2 (q.take x.1).length), (124, .int .i64 (p.length : Nat)), (125, .int .i64 (x.1 : Nat))]) (O := fun _ => [(c, .cells cs 3 rw)]) (l0 := fun x => [(x.2, .cells ((q.take x.1).map (Value.int .i64)) 3 true), (c1, .cells (p.map (Value.int .i64)) 3 true)])
    (I := fun x => x.1 ≤ p.length) (μ := fun x => p.length - x.1) ?_ (x0 := (0, none)) (Nat.zero_le _) ⟨rfl, rfl, rfl, rfl, rfl, rfl, rfl, trivial⟩ rfl rfl
  rintro ⟨k, c'⟩ hk next
  simp only at hk ⊢
  have htl : (q.take k).length = k := by rw [List.length_take]; omega
  repeat (first | refine SGo.seq ?_ | refine SGo.skip ?_ | refine SGo.inBlock ?_ | refine SGo.block ?_ | refine SGo.scope ?_ | refine SGo.inScope ?_ | refine SGo.label ?_ | refine SGo.exit rfl ?_)
  refine SGo.reg ?_
  refine SReg.ex rfl rfl (fun _ _ => by first | exact ex_bool (ex_lss rfl rfl) (by assumption) | exact ex_lss rfl rfl) ?_
  refine SReg.nil ?_
  repeat (first | refine SGo.seq ?_ | refine SGo.skip ?_ | refine SGo.inBlock ?_ | refine SGo.block ?_ | refine SGo.scope ?_ | refine SGo.inScope ?_ | refine SGo.label ?_ | refine SGo.exit rfl ?_)
  refine SGo.condD rfl (fun h => ?_) (fun h => ?_)
  · have hkp : k < p.length := by omega
    have hqk := hqi k (by omega)
    repeat (first | refine SGo.seq ?_ | refine SGo.skip ?_ | refine SGo.inBlock ?_ | refine SGo.block ?_ | refine SGo.scope ?_ | refine SGo.inScope ?_ | refine SGo.label ?_ | refine SGo.exit rfl ?_)
    refine SGo.reg ?_
    refine SReg.mv rfl rfl rfl ?_
    refine SReg.as rfl rfl rfl ?_
    refine SReg.nil ?_
    repeat (first | refine SGo.seq ?_ | refine SGo.skip ?_ | refine SGo.inBlock ?_ | refine SGo.block ?_ | refine SGo.scope ?_ | refine SGo.inScope ?_ | refine SGo.label ?_ | refine SGo.exit rfl ?_)
    repeat (first | refine SGo.seq ?_ | refine SGo.skip ?_ | refine SGo.inBlock ?_ | refine SGo.block ?_ | refine SGo.scope ?_ | refine SGo.inScope ?_ | refine SGo.label ?_ | refine SGo.exit rfl ?_)
    refine SGo.reg ?_
    refine SReg.mv rfl rfl rfl ?_
    refine SReg.mv rfl rfl rfl ?_
    refine SReg.mv rfl rfl rfl ?_
    refine SReg.mv rfl rfl rfl ?_
    refine SReg.idxG rfl rfl rfl rfl (tf (by rfl)) (tf (by rfl)) (by first | assumption | rfl) (by omega) (by first | exact hz_nil (by assumption) | exact map_nil | exact len_nil (by first | assumption | rfl | (simp; done))) (fun _ hidx => ?_)
    cases hidx
    refine SReg.ld rfl rfl rfl (by first | exact sld_cell (tf (by rfl)) rfl (by first | assumption | rfl) | exact sld_sub (d := (0 : Int)) (by assumption) (tf (by rfl)) rfl rfl (by omega) | exact sld_at (0 : Int) (tf (by rfl)) rfl rfl (by omega) | exact sld_sub (d := false) (by assumption) (tf (by rfl)) rfl rfl (by omega) | exact sld_at false (tf (by rfl)) rfl rfl (by omega) | exact sld_all (tf (by rfl)) rfl (by first | rfl | (simp; done))) ?_
    refine SReg.ex rfl rfl (fun _ _ => ex_mul rfl rfl (by first | assumption | omega | decide)) ?_
    rename_i C1
    refine SReg.buildSlice rfl rfl (bs22 _) fun A => ?_
    refine SReg.append (m := 1) (news := [.int .i64 (K * p.getD k 0)]) (L := fun c3 => [(some A, _), (c3, _), _]) rfl rfl (fun c2 => .tail _ (.head _)) ty22 ty3 rfl (fun τ hτ => asrc_sv hτ ty22 (by simp) (by omega)) (by simp) (by simp) (by omega) (by simp; omega) (by simp; omega) fun c3 => ?_
    refine SReg.as rfl rfl rfl ?_
    refine SReg.nil ?_
    repeat (first | refine SGo.seq ?_ | refine SGo.skip ?_ | refine SGo.inBlock ?_ | refine SGo.block ?_ | refine SGo.scope ?_ | refine SGo.inScope ?_ | refine SGo.label ?_ | refine SGo.exit rfl ?_)
    repeat (first | refine SGo.seq ?_ | refine SGo.skip ?_ | refine SGo.inBlock ?_ | refine SGo.block ?_ | refine SGo.scope ?_ | refine SGo.inScope ?_ | refine SGo.label ?_ | refine SGo.exit rfl ?_)
    refine SGo.reg ?_
    refine SReg.ex rfl rfl (fun _ _ => ex_add rfl rfl (by first | assumption | omega | decide)) ?_
    refine SReg.mv rfl rfl rfl ?_
    refine SReg.nil ?_
    repeat (first | refine SGo.seq ?_ | refine SGo.skip ?_ | refine SGo.inBlock ?_ | refine SGo.block ?_ | refine SGo.scope ?_ | refine SGo.inScope ?_ | refine SGo.label ?_ | refine SGo.exit rfl ?_)
    have hsn : q.take (k + 1) = q.take k ++ [K * p.getD k 0] := by rw [take_succ' 0 (by omega), hqk.1]
    refine SGo.less (l' := [(c3, .cells ((q.take (k + 1)).map (Value.int .i64)) 3 true), (some C1, .cells (p.map (Value.int .i64)) 3 true)]) (by rw [hsn, List.map_append]; exact .cons _ (.refl _)) ?_
    refine next (k + 1, c3) _ (by simp only; omega) (by simp only; omega) ⟨rfl, rfl, rfl, rfl, ?_, rfl, rfl, trivial⟩
    simp only [hsn, List.length_append]; rfl
  clear next
  rw [List.take_of_length_le (show q.length ≤ k by omega)]
  repeat (first | refine SGo.seq ?_ | refine SGo.skip ?_ | refine SGo.inBlock ?_ | refine SGo.block ?_ | refine SGo.scope ?_ | refine SGo.inScope ?_ | refine SGo.label ?_ | refine SGo.exit rfl ?_)
  repeat (first | refine SGo.seq ?_ | refine SGo.skip ?_ | refine SGo.inBlock ?_ | refine SGo.block ?_ | refine SGo.scope ?_ | refine SGo.inScope ?_ | refine SGo.label ?_ | refine SGo.exit rfl ?_)
  refine SGo.reg ?_
  refine SReg.mv rfl rfl rfl ?_
  refine SReg.mv rfl rfl rfl ?_
  refine SReg.go (quantize19 (hz_full q _) (by omega) (.inl hT5) hT) rfl rfl (by kernel_rfl) ⟨_, .refl _, .cons _ (.cons_cons _ (List.nil_sublist _))⟩ ?_
  rintro v l1 (⟨he2, _⟩ | ⟨_, p2, hp2, c2, rfl, rfl⟩)
  · exact absurd hqE he2
  obtain rfl : p2 = p := hp2.uniq (by omega) hqg
  dsimp only [List.cons_append, List.nil_append]
  refine SReg.mv rfl rfl rfl ?_
  refine SReg.ex rfl rfl (fun _ _ => ex_extract rfl rfl) ?_
  refine SReg.ex rfl rfl (fun _ _ => ex_extract rfl rfl) ?_
  refine SReg.as rfl rfl rfl ?_
  refine SReg.as rfl rfl rfl ?_
  refine SReg.nil ?_
  repeat (first | refine SGo.seq ?_ | refine SGo.skip ?_ | refine SGo.inBlock ?_ | refine SGo.block ?_ | refine SGo.scope ?_ | refine SGo.inScope ?_ | refine SGo.label ?_ | refine SGo.exit rfl ?_)
  have g1 : decide (T = T) = true := decide_eq_true rfl
  have g2 : decide ((0 : Int) = 0) = true := rfl
  repeat (first | refine SGo.seq ?_ | refine SGo.skip ?_ | refine SGo.inBlock ?_ | refine SGo.block ?_ | refine SGo.scope ?_ | refine SGo.inScope ?_ | refine SGo.label ?_ | refine SGo.exit rfl ?_)
  refine SGo.reg ?_
  refine SReg.mv rfl rfl rfl ?_
  refine SReg.mv rfl rfl rfl ?_
  refine SReg.ex rfl rfl (fun _ _ => by first | exact ex_bool (ex_eql rfl rfl) (by assumption) | exact ex_eql rfl rfl) ?_
  refine SReg.mv rfl rfl rfl ?_
  first | refine SReg.skipG rfl rfl ?_ | (refine SReg.mv rfl rfl rfl ?_)
  first | refine SReg.skipG rfl rfl ?_ | (refine SReg.ex rfl rfl (fun _ _ => by first | exact ex_bool (ex_eql rfl rfl) (by assumption) | exact ex_eql rfl rfl) ?_)
  refine SReg.ex rfl rfl (fun _ _ => by first | exact ex_pickT rfl rfl | exact ex_pickF rfl rfl) ?_
  refine SReg.mv rfl rfl rfl ?_
  first | refine SReg.skipG rfl rfl ?_ | (refine SReg.mv rfl rfl rfl ?_)
  first | refine SReg.skipG rfl rfl ?_ | (refine SReg.mv rfl rfl rfl ?_)
  refine SReg.goG (ints16 (hz_full p2 _) (hz_full p2 _) (by omega)) rfl rfl rfl (by kernel_rfl) ⟨_, .refl _, .cons _ (.cons_cons _ (.cons _ (.cons_cons _ (List.nil_sublist _))))⟩ ?_
  rintro _ _ ⟨rfl, rfl⟩
  rw [decide_eq_true (rfl : p2 = p2)]
  dsimp only [List.cons_append, List.nil_append]
  refine SReg.ex rfl rfl (fun _ _ => by first | exact ex_pickT rfl rfl | exact ex_pickF rfl rfl) ?_
  refine SReg.mv rfl rfl rfl ?_
  refine SReg.goG alive10 rfl rfl rfl (by kernel_rfl) ⟨_, .refl _, List.nil_sublist _⟩ ?_
  rintro _ _ ⟨rfl, rfl⟩
  dsimp only [List.cons_append, List.nil_append]
  refine SReg.ex rfl rfl (fun _ _ => by first | exact ex_pickT rfl rfl | exact ex_pickF rfl rfl) ?_
  refine SReg.as rfl rfl rfl ?_
  refine SReg.nil ?_
  repeat (first | refine SGo.seq ?_ | refine SGo.skip ?_ | refine SGo.inBlock ?_ | refine SGo.block ?_ | refine SGo.scope ?_ | refine SGo.inScope ?_ | refine SGo.label ?_ | refine SGo.exit rfl ?_)
  exact SGo.ret Try.func6 (fun τ hτ => ares_tmp rfl ares_nil) fun τ hτ => SRet.mk hτ (List.nil_sublist _) ⟨rfl, rfl⟩
end Go.Abs.Run
