/- A part of the proof: contracts of functions of the program, shown by walking through their code in an abstract machine. Condition: none. -/
import Derived.Test.YtipgikhblcfpjaaRunS
set_option linter.unusedVariables false
set_option linter.unusedSimpArgs false
namespace Go.Abs.Run
open Go Go.Proofs
set_option maxHeartbeats 8000000
set_option maxRecDepth 8000
-- @SEAT 10
theorem exists_less {p o : List Int} (hl : o.length = p.length) (h : o.sum < p.sum) : ∃ i, i < o.length ∧ o.getD i 0 < p.getD i 0 := by
  rcases Classical.em (∃ i, i < o.length ∧ o.getD i 0 < p.getD i 0) with h1 | h1
  · exact h1
  · have := (sum_le hl.symm fun i hi => by
      rcases Int.lt_or_le (o.getD i 0) (p.getD i 0) with h2 | h2
      · exact absurd ⟨i, by omega, h2⟩ h1
      · exact h2).1
    omega
/-- The place whose raising costs least. -/
def vl (zs o : List Int) (T : Int) (i : Nat) : Int := zs.sum * o.getD i 0 - T * zs.getD i 0
theorem cst_vl (zs : List Int) (T w r : Int) : cst T zs.sum w r = 2 * (zs.sum * r - T * w) + zs.sum := by
  unfold cst
  have e1 : zs.sum * (2 * r + 1) = 2 * (zs.sum * r) + zs.sum := by rw [Int.mul_add, Int.mul_one, Int.mul_left_comm]
  have e2 : 2 * T * w = 2 * (T * w) := Int.mul_assoc _ _ _
  rw [e1, e2]; omega
theorem greedy {zs p o : List Int} {T : Int} {b : Nat} (hs : 0 < zs.sum) (hp : Good zs T p) (hl : o.length = zs.length) (hle : ∀ i, i < o.length → o.getD i 0 ≤ p.getD i 0) (h1 : ∀ i, i < o.length → 1 ≤ o.getD i 0) (hsum : o.sum < T) (hb : b < o.length)
    (hmin : ∀ j, j < o.length → vl zs o T b < vl zs o T j ∨ (vl zs o T b = vl zs o T j ∧ b ≤ j)) : o.getD b 0 + 1 ≤ p.getD b 0 := by
  have hpl := hp.len
  obtain ⟨i, hi, hio⟩ := exists_less (hl.trans hpl.symm) (by rw [hp.sum]; exact hsum)
  have hb2 := hle b hb
  rcases Int.lt_or_le (o.getD b 0) (p.getD b 0) with h | h
  · omega
  exfalso
  have e : o.getD b 0 = p.getD b 0 := by omega
  have i1 := h1 i hi
  have ho := hp.ord i b (by omega) (by omega) (by omega)
  have m := cst_mono (T := T) (w := zs.getD i 0) hs (show o.getD i 0 ≤ p.getD i 0 - 1 by omega)
  have hm := hmin i hi
  rw [← e] at ho
  rw [cst_vl zs T (zs.getD b 0) (o.getD b 0)] at ho
  rw [cst_vl zs T (zs.getD i 0) (o.getD i 0)] at m
  unfold vl at hm
  have hne : i ≠ b := fun e' => by rw [e'] at hio; omega
  omega
-- @FN 20
theorem refQuantize20 {c : Option Nat} {off cap : Nat} {cs : List Value} {rw : Bool} {zs p : List Int} {T : Int} (hz : (cs.drop off).take zs.length = zs.map (Value.int .i64)) (hl : zs.length ≤ 60) (hTb : T ≤ 500 ∨ T > 65536) (hTr : -9223372036854775808 ≤ T ∧ T ≤ 9223372036854775807) (hp : qE zs T = 0 → Good zs T p) :
    SC Try.prog 20 [gv c off zs.length cap, .int .i64 T] [(c, .cells cs 3 rw)] (RIE (if qE zs T = 0 then p else []) (qE zs T)) := by
  refine SC.enter Try.func20 rfl (by rw [Try.ntmps20]; simp) fun σ hσ => ?_
  rw [Try.ntmps20]
  repeat (first | refine SGo.seq ?_ | refine SGo.skip ?_ | refine SGo.inBlock ?_ | refine SGo.block ?_ | refine SGo.scope ?_ | refine SGo.inScope ?_ | refine SGo.label ?_ | refine SGo.exit rfl ?_)
  refine SGo.reg ?_
  refine SReg.as rfl rfl rfl ?_
  refine SReg.as rfl rfl rfl ?_
  refine SReg.nil ?_
  repeat (first | refine SGo.seq ?_ | refine SGo.skip ?_ | refine SGo.inBlock ?_ | refine SGo.block ?_ | refine SGo.scope ?_ | refine SGo.inScope ?_ | refine SGo.label ?_ | refine SGo.exit rfl ?_)
  repeat (first | refine SGo.seq ?_ | refine SGo.skip ?_ | refine SGo.inBlock ?_ | refine SGo.block ?_ | refine SGo.scope ?_ | refine SGo.inScope ?_ | refine SGo.label ?_ | refine SGo.exit rfl ?_)
  refine SGo.reg ?_
  refine SReg.mv rfl rfl rfl ?_
  refine SReg.valG rfl rfl (sx_lenG rfl (tf (by rfl)) (by first | exact hz_nil (by assumption) | exact map_nil | exact len_nil (by first | assumption | rfl | (simp; done)))) ?_
  refine SReg.ex rfl rfl (fun _ _ => by first | exact ex_bool (ex_eql rfl rfl) (by assumption) | exact ex_eql rfl rfl) ?_
  refine SReg.nil ?_
  repeat (first | refine SGo.seq ?_ | refine SGo.skip ?_ | refine SGo.inBlock ?_ | refine SGo.block ?_ | refine SGo.scope ?_ | refine SGo.inScope ?_ | refine SGo.label ?_ | refine SGo.exit rfl ?_)
  refine SGo.condD rfl (fun h => ?_) (fun h => ?_)
  · repeat (first | refine SGo.seq ?_ | refine SGo.skip ?_ | refine SGo.inBlock ?_ | refine SGo.block ?_ | refine SGo.scope ?_ | refine SGo.inScope ?_ | refine SGo.label ?_ | refine SGo.exit rfl ?_)
    refine SGo.reg ?_
    refine SReg.as rfl rfl rfl ?_
    refine SReg.as rfl rfl rfl ?_
    refine SReg.nil ?_
    repeat (first | refine SGo.seq ?_ | refine SGo.skip ?_ | refine SGo.inBlock ?_ | refine SGo.block ?_ | refine SGo.scope ?_ | refine SGo.inScope ?_ | refine SGo.label ?_ | refine SGo.exit rfl ?_)
    have e : qE zs T = 5 := by rw [qE, if_pos (by omega)]
    rw [e, if_neg (by decide)]
    exact SGo.ret Try.func20 (fun τ hτ => ares_tmp rfl (ares_tmp rfl ares_nil)) fun τ hτ => rie_nil hτ fun v l h => h
  have h0 : zs.length ≠ 0 := by omega
  repeat (first | refine SGo.seq ?_ | refine SGo.skip ?_ | refine SGo.inBlock ?_ | refine SGo.block ?_ | refine SGo.scope ?_ | refine SGo.inScope ?_ | refine SGo.label ?_ | refine SGo.exit rfl ?_)
  refine SGo.reg ?_
  refine SReg.mv rfl rfl rfl ?_
  refine SReg.valG rfl rfl (sx_lenG rfl (tf (by rfl)) (by first | exact hz_nil (by assumption) | exact map_nil | exact len_nil (by first | assumption | rfl | (simp; done)))) ?_
  refine SReg.ex rfl rfl (fun _ _ => by first | exact ex_bool (ex_gtr rfl rfl) (by assumption) | exact ex_gtr rfl rfl) ?_
  refine SReg.nil ?_
  repeat (first | refine SGo.seq ?_ | refine SGo.skip ?_ | refine SGo.inBlock ?_ | refine SGo.block ?_ | refine SGo.scope ?_ | refine SGo.inScope ?_ | refine SGo.label ?_ | refine SGo.exit rfl ?_)
  refine SGo.condD rfl (fun h => by omega) fun _ => ?_
  repeat (first | refine SGo.seq ?_ | refine SGo.skip ?_ | refine SGo.inBlock ?_ | refine SGo.block ?_ | refine SGo.scope ?_ | refine SGo.inScope ?_ | refine SGo.label ?_ | refine SGo.exit rfl ?_)
  refine SGo.reg ?_
  refine SReg.mv rfl rfl rfl ?_
  refine SReg.go (total29 hz (by omega)) rfl rfl (by kernel_rfl) ⟨_, .refl _, .refl _⟩ ?_
  rintro _ _ ⟨rfl, rfl⟩
  dsimp only [List.cons_append, List.nil_append]
  refine SReg.as rfl rfl rfl ?_
  refine SReg.nil ?_
  repeat (first | refine SGo.seq ?_ | refine SGo.skip ?_ | refine SGo.inBlock ?_ | refine SGo.block ?_ | refine SGo.scope ?_ | refine SGo.inScope ?_ | refine SGo.label ?_ | refine SGo.exit rfl ?_)
  have hck : chkE zs ≠ 0 ↔ totP zs < 0 := by
    unfold chkE totP
    rw [if_neg h0]
    cases hb : zs.any (fun w => !wOk w) with
    | true => simp
    | false => have := sum_bnd hb; simp; omega
  repeat (first | refine SGo.seq ?_ | refine SGo.skip ?_ | refine SGo.inBlock ?_ | refine SGo.block ?_ | refine SGo.scope ?_ | refine SGo.inScope ?_ | refine SGo.label ?_ | refine SGo.exit rfl ?_)
  refine SGo.reg ?_
  refine SReg.mv rfl rfl rfl ?_
  refine SReg.ex rfl rfl (fun _ _ => by first | exact ex_bool (ex_lss rfl rfl) (by assumption) | exact ex_lss rfl rfl) ?_
  refine SReg.mv rfl rfl rfl ?_
  refine SReg.join (fun fr' => Has [(0, gv c off zs.length cap), (1, .int .i64 T), (6, .int .i64 (totP zs)), (31, .bool (decide (totP zs < 0) || (decide (T < (zs.length : Int)) || decide (T > 65536))))] fr') ?_ fun nx => ?_
  rotate_left
  · skip
    cases g : decide (totP zs < 0) with
    | true =>
      first | refine SReg.skipG rfl rfl ?_ | (refine SReg.mv rfl rfl rfl ?_)
      first | refine SReg.skipG rfl rfl ?_ | (refine SReg.mv rfl rfl rfl ?_)
      first | refine SReg.skipG rfl rfl ?_ | (refine SReg.valG rfl rfl (sx_lenG rfl (tf (by rfl)) (by first | exact hz_nil (by assumption) | exact map_nil | exact len_nil (by first | assumption | rfl | (simp; done)))) ?_)
      first | refine SReg.skipG rfl rfl ?_ | (refine SReg.ex rfl rfl (fun _ _ => by first | exact ex_bool (ex_lss rfl rfl) (by assumption) | exact ex_lss rfl rfl) ?_)
      refine SReg.ex rfl rfl (fun _ _ => by first | exact ex_pickT rfl rfl | exact ex_pickF rfl rfl) ?_
      refine SReg.mv rfl rfl rfl ?_
      first | refine SReg.skipG rfl rfl ?_ | (refine SReg.mv rfl rfl rfl ?_)
      first | refine SReg.skipG rfl rfl ?_ | (refine SReg.ex rfl rfl (fun _ _ => by first | exact ex_bool (ex_gtr rfl rfl) (by assumption) | exact ex_gtr rfl rfl) ?_)
      refine SReg.ex rfl rfl (fun _ _ => by first | exact ex_pickT rfl rfl | exact ex_pickF rfl rfl) ?_
      refine SReg.nil ?_
      repeat (first | refine SGo.seq ?_ | refine SGo.skip ?_ | refine SGo.inBlock ?_ | refine SGo.block ?_ | refine SGo.scope ?_ | refine SGo.inScope ?_ | refine SGo.label ?_ | refine SGo.exit rfl ?_)
      exact nx _ ⟨rfl, rfl, rfl, by rw [g, Bool.true_or]; rfl, trivial⟩
    | false =>
      first | refine SReg.skipG rfl rfl ?_ | (refine SReg.mv rfl rfl rfl ?_)
      first | refine SReg.skipG rfl rfl ?_ | (refine SReg.mv rfl rfl rfl ?_)
      first | refine SReg.skipG rfl rfl ?_ | (refine SReg.valG rfl rfl (sx_lenG rfl (tf (by rfl)) (by first | exact hz_nil (by assumption) | exact map_nil | exact len_nil (by first | assumption | rfl | (simp; done)))) ?_)
      first | refine SReg.skipG rfl rfl ?_ | (refine SReg.ex rfl rfl (fun _ _ => by first | exact ex_bool (ex_lss rfl rfl) (by assumption) | exact ex_lss rfl rfl) ?_)
      refine SReg.ex rfl rfl (fun _ _ => by first | exact ex_pickT rfl rfl | exact ex_pickF rfl rfl) ?_
      refine SReg.mv rfl rfl rfl ?_
      cases g2 : decide (T < (zs.length : Int)) with
      | true =>
        first | refine SReg.skipG rfl rfl ?_ | (refine SReg.mv rfl rfl rfl ?_)
        first | refine SReg.skipG rfl rfl ?_ | (refine SReg.ex rfl rfl (fun _ _ => by first | exact ex_bool (ex_gtr rfl rfl) (by assumption) | exact ex_gtr rfl rfl) ?_)
        refine SReg.ex rfl rfl (fun _ _ => by first | exact ex_pickT rfl rfl | exact ex_pickF rfl rfl) ?_
        refine SReg.nil ?_
        repeat (first | refine SGo.seq ?_ | refine SGo.skip ?_ | refine SGo.inBlock ?_ | refine SGo.block ?_ | refine SGo.scope ?_ | refine SGo.inScope ?_ | refine SGo.label ?_ | refine SGo.exit rfl ?_)
        exact nx _ ⟨rfl, rfl, rfl, by rw [g, g2, Bool.false_or, Bool.true_or]; rfl, trivial⟩
      | false =>
        first | refine SReg.skipG rfl rfl ?_ | (refine SReg.mv rfl rfl rfl ?_)
        first | refine SReg.skipG rfl rfl ?_ | (refine SReg.ex rfl rfl (fun _ _ => by first | exact ex_bool (ex_gtr rfl rfl) (by assumption) | exact ex_gtr rfl rfl) ?_)
        refine SReg.ex rfl rfl (fun _ _ => by first | exact ex_pickT rfl rfl | exact ex_pickF rfl rfl) ?_
        refine SReg.nil ?_
        repeat (first | refine SGo.seq ?_ | refine SGo.skip ?_ | refine SGo.inBlock ?_ | refine SGo.block ?_ | refine SGo.scope ?_ | refine SGo.inScope ?_ | refine SGo.label ?_ | refine SGo.exit rfl ?_)
        exact nx _ ⟨rfl, rfl, rfl, by rw [g, g2, Bool.false_or, Bool.false_or]; rfl, trivial⟩
  intro fr' hF
  refine SGo.has hF ?_
  refine SGo.condB rfl (fun h => ?_) (fun h => ?_)
  · repeat (first | refine SGo.seq ?_ | refine SGo.skip ?_ | refine SGo.inBlock ?_ | refine SGo.block ?_ | refine SGo.scope ?_ | refine SGo.inScope ?_ | refine SGo.label ?_ | refine SGo.exit rfl ?_)
    refine SGo.reg ?_
    refine SReg.as rfl rfl rfl ?_
    refine SReg.as rfl rfl rfl ?_
    refine SReg.nil ?_
    repeat (first | refine SGo.seq ?_ | refine SGo.skip ?_ | refine SGo.inBlock ?_ | refine SGo.block ?_ | refine SGo.scope ?_ | refine SGo.inScope ?_ | refine SGo.label ?_ | refine SGo.exit rfl ?_)
    have e : qE zs T = 3 := by
      rw [qE, if_neg h0, if_pos]
      simp only [Bool.or_eq_true, decide_eq_true_eq] at h
      rw [hck]; exact h
    rw [e, if_neg (by decide)]
    exact SGo.ret Try.func20 (fun τ hτ => ares_tmp rfl (ares_tmp rfl ares_nil)) fun τ hτ => rie_nil hτ fun v l h => h
  have h' : ¬ totP zs < 0 ∧ ¬ T < (zs.length : Int) ∧ ¬ T > 65536 := by
    simp only [Bool.or_eq_false_iff, decide_eq_false_iff_not] at h
    exact h
  obtain ⟨hc, ht1, ht2⟩ := h'
  have hc0 : chkE zs = 0 := by
    rcases Classical.em (chkE zs = 0) with h | h
    · exact h
    · exact absurd (hck.1 h) hc
  have hq0 : qE zs T = 0 := by rw [qE, if_neg h0, if_neg (by omega)]
  obtain ⟨_, hok⟩ := chk_ok hc0
  have hgood := hp hq0
  rw [hq0, if_pos rfl]
  have hw := wOk_all hok
  have hT : 0 ≤ T ∧ T ≤ 500 := by omega
  have hsb := sum_bnd hok
  have htot : totP zs = zs.sum := by rw [totP, hok, if_neg (by simp)]
  rw [htot]
  repeat (first | refine SGo.seq ?_ | refine SGo.skip ?_ | refine SGo.inBlock ?_ | refine SGo.block ?_ | refine SGo.scope ?_ | refine SGo.inScope ?_ | refine SGo.label ?_ | refine SGo.exit rfl ?_)
  refine SGo.reg ?_
  refine SReg.as rfl rfl rfl ?_
  refine SReg.nil ?_
  repeat (first | refine SGo.seq ?_ | refine SGo.skip ?_ | refine SGo.inBlock ?_ | refine SGo.block ?_ | refine SGo.scope ?_ | refine SGo.inScope ?_ | refine SGo.label ?_ | refine SGo.exit rfl ?_)
  repeat (first | refine SGo.seq ?_ | refine SGo.skip ?_ | refine SGo.inBlock ?_ | refine SGo.block ?_ | refine SGo.scope ?_ | refine SGo.inScope ?_ | refine SGo.label ?_ | refine SGo.exit rfl ?_)
  refine SGo.reg ?_
  refine SReg.as rfl rfl rfl ?_
  refine SReg.nil ?_
  repeat (first | refine SGo.seq ?_ | refine SGo.skip ?_ | refine SGo.inBlock ?_ | refine SGo.block ?_ | refine SGo.scope ?_ | refine SGo.inScope ?_ | refine SGo.label ?_ | refine SGo.exit rfl ?_)
  refine SGo.nilE 3 true ?_
  refine SGo.loopI (ι := Nat × Option Nat) (F := fun x => [(0, gv c off zs.length cap), (1, .int .i64 T), (6, .int .i64 zs.sum), (7, sv x.2 (List.replicate x.1 (1 : Int)).length), (8, .int .i64 (x.1 : Nat))]) (O := fun _ => [(c, .cells cs 3 rw)]) (l0 := fun x => [(x.2, .cells ((List.replicate x.1 (1 : Int)).map (Value.int .i64)) 3 true)])
    (I := fun x => x.1 ≤ zs.length) (μ := fun x => zs.length - x.1) ?_ (x0 := (0, none)) (Nat.zero_le _) ⟨rfl, rfl, rfl, rfl, rfl, trivial⟩ rfl rfl
  rintro ⟨k, c'⟩ hk next
  simp only at hk ⊢
  repeat (first | refine SGo.seq ?_ | refine SGo.skip ?_ | refine SGo.inBlock ?_ | refine SGo.block ?_ | refine SGo.scope ?_ | refine SGo.inScope ?_ | refine SGo.label ?_ | refine SGo.exit rfl ?_)
  refine SGo.reg ?_
  refine SReg.mv rfl rfl rfl ?_
  refine SReg.mv rfl rfl rfl ?_
  refine SReg.valG rfl rfl (sx_lenG rfl (tf (by rfl)) (by first | exact hz_nil (by assumption) | exact map_nil | exact len_nil (by first | assumption | rfl | (simp; done)))) ?_
  refine SReg.ex rfl rfl (fun _ _ => by first | exact ex_bool (ex_lss rfl rfl) (by assumption) | exact ex_lss rfl rfl) ?_
  refine SReg.nil ?_
  repeat (first | refine SGo.seq ?_ | refine SGo.skip ?_ | refine SGo.inBlock ?_ | refine SGo.block ?_ | refine SGo.scope ?_ | refine SGo.inScope ?_ | refine SGo.label ?_ | refine SGo.exit rfl ?_)
  refine SGo.condD rfl (fun h => ?_) (fun h => ?_)
  · repeat (first | refine SGo.seq ?_ | refine SGo.skip ?_ | refine SGo.inBlock ?_ | refine SGo.block ?_ | refine SGo.scope ?_ | refine SGo.inScope ?_ | refine SGo.label ?_ | refine SGo.exit rfl ?_)
    refine SGo.reg ?_
    refine SReg.mv rfl rfl rfl ?_
    refine SReg.buildSlice rfl rfl (bs22 _) fun A => ?_
    refine SReg.append (m := 1) (news := [.int .i64 1]) (L := fun c3 => [(some A, _), (c3, _)]) rfl rfl (fun c2 => .tail _ (.head _)) ty22 ty3 rfl (fun τ hτ => asrc_sv hτ ty22 (by simp) (by omega)) (by simp) (by simp) (by omega) (by simp; omega) (by simp; omega) fun c3 => ?_
    refine SReg.as rfl rfl rfl ?_
    refine SReg.nil ?_
    repeat (first | refine SGo.seq ?_ | refine SGo.skip ?_ | refine SGo.inBlock ?_ | refine SGo.block ?_ | refine SGo.scope ?_ | refine SGo.inScope ?_ | refine SGo.label ?_ | refine SGo.exit rfl ?_)
    repeat (first | refine SGo.seq ?_ | refine SGo.skip ?_ | refine SGo.inBlock ?_ | refine SGo.block ?_ | refine SGo.scope ?_ | refine SGo.inScope ?_ | refine SGo.label ?_ | refine SGo.exit rfl ?_)
    refine SGo.reg ?_
    refine SReg.mv rfl rfl rfl ?_
    refine SReg.ex rfl rfl (fun _ _ => ex_add rfl rfl (by first | assumption | omega | decide)) ?_
    refine SReg.as rfl rfl rfl ?_
    refine SReg.nil ?_
    repeat (first | refine SGo.seq ?_ | refine SGo.skip ?_ | refine SGo.inBlock ?_ | refine SGo.block ?_ | refine SGo.scope ?_ | refine SGo.inScope ?_ | refine SGo.label ?_ | refine SGo.exit rfl ?_)
    refine SGo.less (l' := [(c3, .cells ((List.replicate (k + 1) (1 : Int)).map (Value.int .i64)) 3 true)]) (by rw [List.replicate_succ', List.map_append]; exact .cons _ (.refl _)) ?_
    refine next (k + 1, c3) _ (by simp only; omega) (by simp only; omega) ⟨rfl, rfl, rfl, ?_, rfl, trivial⟩
    simp only [List.replicate_succ', List.length_append]; rfl
  clear next
  have hkz : k = zs.length := by omega
  subst hkz
  have hpp : ∀ i, i < zs.length → 1 ≤ p.getD i 0 := fun i hi => hgood.pos i (by rw [hgood.len]; exact hi)
  have hpl := hgood.len
  have hrep : ∀ n : Nat, (List.replicate n (1 : Int)).sum = (n : Int) := by
    intro n
    induction n with
    | zero => rfl
    | succ n ih => rw [List.replicate_succ, List.sum_cons, ih]; omega
  have hrl : (List.replicate zs.length (1 : Int)).length = zs.length := by simp
  refine SGo.know (p := ∃ C, c' = some C) (fun τ hτ => by
    cases c' with
    | some C => exact ⟨C, rfl⟩
    | none =>
      have := hτ.none_nil (hm := inferInstance) (c := none) (cs := (List.replicate zs.length (1 : Int)).map (Value.int .i64)) (e := 3) (rw := true) rfl
      have := congrArg List.length this
      rw [List.length_map, hrl] at this
      exact absurd this h0) ?_
  rintro ⟨C, rfl⟩
  repeat (first | refine SGo.seq ?_ | refine SGo.skip ?_ | refine SGo.inBlock ?_ | refine SGo.block ?_ | refine SGo.scope ?_ | refine SGo.inScope ?_ | refine SGo.label ?_ | refine SGo.exit rfl ?_)
  repeat (first | refine SGo.seq ?_ | refine SGo.skip ?_ | refine SGo.inBlock ?_ | refine SGo.block ?_ | refine SGo.scope ?_ | refine SGo.inScope ?_ | refine SGo.label ?_ | refine SGo.exit rfl ?_)
  refine SGo.reg ?_
  refine SReg.mv rfl rfl rfl ?_
  refine SReg.valG rfl rfl (sx_lenG rfl (tf (by rfl)) (by first | exact hz_nil (by assumption) | exact map_nil | exact len_nil (by first | assumption | rfl | (simp; done)))) ?_
  refine SReg.as rfl rfl rfl ?_
  refine SReg.nil ?_
  repeat (first | refine SGo.seq ?_ | refine SGo.skip ?_ | refine SGo.inBlock ?_ | refine SGo.block ?_ | refine SGo.scope ?_ | refine SGo.inScope ?_ | refine SGo.label ?_ | refine SGo.exit rfl ?_)
  rw [hrl]
  refine SGo.loopI (ι := List Int) (F := fun o => [(0, gv c off zs.length cap), (1, .int .i64 T), (6, .int .i64 zs.sum), (7, sv (some C) zs.length), (9, .int .i64 o.sum)]) (O := fun _ => [(c, .cells cs 3 rw)]) (l0 := fun o => [(some C, .cells (o.map (Value.int .i64)) 3 true)])
    (I := fun o => o.length = zs.length ∧ o.sum ≤ T ∧ (∀ i, i < zs.length → 1 ≤ o.getD i 0) ∧ ∀ i, i < zs.length → o.getD i 0 ≤ p.getD i 0) (μ := fun o => (T - o.sum).toNat) ?_ (x0 := List.replicate zs.length 1)
    ⟨hrl, by simp only [hrep]; omega, fun i hi => by rw [List.getD_eq_getElem?_getD, List.getElem?_replicate, if_pos hi]; exact Int.le_refl _, fun i hi => by rw [List.getD_eq_getElem?_getD, List.getElem?_replicate, if_pos hi]; exact hpp i hi⟩ ⟨rfl, rfl, rfl, rfl, by rw [hrep]; rfl, trivial⟩ rfl rfl
  rintro o ⟨j1, j2, j3, j4⟩ next
  have hog := sum_ge (p := o) fun i hi => j3 i (by omega)
  have hmo : (o.map (Value.int .i64)).length = zs.length := by rw [List.length_map]; omega
  repeat (first | refine SGo.seq ?_ | refine SGo.skip ?_ | refine SGo.inBlock ?_ | refine SGo.block ?_ | refine SGo.scope ?_ | refine SGo.inScope ?_ | refine SGo.label ?_ | refine SGo.exit rfl ?_)
  refine SGo.reg ?_
  refine SReg.mv rfl rfl rfl ?_
  refine SReg.mv rfl rfl rfl ?_
  refine SReg.ex rfl rfl (fun _ _ => by first | exact ex_bool (ex_lss rfl rfl) (by assumption) | exact ex_lss rfl rfl) ?_
  refine SReg.nil ?_
  repeat (first | refine SGo.seq ?_ | refine SGo.skip ?_ | refine SGo.inBlock ?_ | refine SGo.block ?_ | refine SGo.scope ?_ | refine SGo.inScope ?_ | refine SGo.label ?_ | refine SGo.exit rfl ?_)
  refine SGo.condD rfl (fun h => ?_) (fun h => ?_)
  · have hob : ∀ j, j < zs.length → 1 ≤ o.getD j 0 ∧ o.getD j 0 ≤ 500 := fun j hj => ⟨j3 j hj, by have := hog.2 j (by omega); omega⟩
    have hs : 1 ≤ zs.sum ∧ zs.sum ≤ 3932160 := by omega
    have hso : ∀ j, j < zs.length → -10000000000 ≤ zs.sum * o.getD j 0 ∧ zs.sum * o.getD j 0 ≤ 10000000000 := fun j hj => by
      have := hob j hj
      have h1 := Int.mul_le_mul hs.2 this.2 (by omega) (by omega)
      have h2 := Int.mul_nonneg (show 0 ≤ zs.sum by omega) (show 0 ≤ o.getD j 0 by omega)
      omega
    have hTw : ∀ j, j < zs.length → -10000000000 ≤ T * zs.getD j 0 ∧ T * zs.getD j 0 ≤ 10000000000 := fun j hj => by
      have := hw (zs.getD j 0) (by rw [List.getD_eq_getElem?_getD, List.getElem?_eq_getElem hj]; exact List.getElem_mem hj)
      have h1 := Int.mul_le_mul hT.2 this.2 (by omega) (by omega)
      have h2 := Int.mul_nonneg hT.1 (show 0 ≤ zs.getD j 0 by omega)
      omega
    repeat (first | refine SGo.seq ?_ | refine SGo.skip ?_ | refine SGo.inBlock ?_ | refine SGo.block ?_ | refine SGo.scope ?_ | refine SGo.inScope ?_ | refine SGo.label ?_ | refine SGo.exit rfl ?_)
    refine SGo.reg ?_
    refine SReg.as rfl rfl rfl ?_
    refine SReg.nil ?_
    repeat (first | refine SGo.seq ?_ | refine SGo.skip ?_ | refine SGo.inBlock ?_ | refine SGo.block ?_ | refine SGo.scope ?_ | refine SGo.inScope ?_ | refine SGo.label ?_ | refine SGo.exit rfl ?_)
    repeat (first | refine SGo.seq ?_ | refine SGo.skip ?_ | refine SGo.inBlock ?_ | refine SGo.block ?_ | refine SGo.scope ?_ | refine SGo.inScope ?_ | refine SGo.label ?_ | refine SGo.exit rfl ?_)
    refine SGo.reg ?_
    refine SReg.as rfl rfl rfl ?_
    refine SReg.nil ?_
    repeat (first | refine SGo.seq ?_ | refine SGo.skip ?_ | refine SGo.inBlock ?_ | refine SGo.block ?_ | refine SGo.scope ?_ | refine SGo.inScope ?_ | refine SGo.label ?_ | refine SGo.exit rfl ?_)
    refine SGo.loopI (ι := Nat × Nat) (F := fun x => [(0, gv c off zs.length cap), (1, .int .i64 T), (6, .int .i64 zs.sum), (7, sv (some C) zs.length), (9, .int .i64 o.sum), (10, .int .i64 (x.2 : Nat)), (11, .int .i64 (x.1 : Nat))]) (O := fun _ => [(c, .cells cs 3 rw)]) (l0 := fun _ => [(some C, .cells (o.map (Value.int .i64)) 3 true)])
      (I := fun x => x.1 ≤ zs.length ∧ x.2 < x.1 ∧ ∀ j, j < x.1 → vl zs o T x.2 < vl zs o T j ∨ (vl zs o T x.2 = vl zs o T j ∧ x.2 ≤ j)) (μ := fun x => zs.length - x.1) ?_ (x0 := (1, 0)) ⟨by simp only; omega, by simp, fun j hj => .inr ⟨by rw [show j = 0 by simp only at hj; omega], Nat.zero_le _⟩⟩ ⟨rfl, rfl, rfl, rfl, rfl, rfl, rfl, trivial⟩ rfl rfl
    rintro ⟨i, b⟩ ⟨hi, hb, hmin⟩ next2
    simp only at hi hb hmin ⊢
    repeat (first | refine SGo.seq ?_ | refine SGo.skip ?_ | refine SGo.inBlock ?_ | refine SGo.block ?_ | refine SGo.scope ?_ | refine SGo.inScope ?_ | refine SGo.label ?_ | refine SGo.exit rfl ?_)
    refine SGo.reg ?_
    refine SReg.mv rfl rfl rfl ?_
    refine SReg.mv rfl rfl rfl ?_
    refine SReg.valG rfl rfl (sx_lenG rfl (tf (by rfl)) (by first | exact hz_nil (by assumption) | exact map_nil | exact len_nil (by first | assumption | rfl | (simp; done)))) ?_
    refine SReg.ex rfl rfl (fun _ _ => by first | exact ex_bool (ex_lss rfl rfl) (by assumption) | exact ex_lss rfl rfl) ?_
    refine SReg.nil ?_
    repeat (first | refine SGo.seq ?_ | refine SGo.skip ?_ | refine SGo.inBlock ?_ | refine SGo.block ?_ | refine SGo.scope ?_ | refine SGo.inScope ?_ | refine SGo.label ?_ | refine SGo.exit rfl ?_)
    refine SGo.condD rfl (fun h2 => ?_) (fun h2 => ?_)
    · have hi' : i < zs.length := by omega
      have a1 := hso i hi'
      have a2 := hso b (by omega)
      have a3 := hTw i hi'
      have a4 := hTw b (by omega)
      repeat (first | refine SGo.seq ?_ | refine SGo.skip ?_ | refine SGo.inBlock ?_ | refine SGo.block ?_ | refine SGo.scope ?_ | refine SGo.inScope ?_ | refine SGo.label ?_ | refine SGo.exit rfl ?_)
      refine SGo.draw [] [0, 1, 2, 3, 4, 5, 6, 7, 8, 9, 10, 11, 12, 13, 14, 15, 16, 17, 18, 19, 20, 21, 22, 23, 24, 25, 26] mixed (by kernel_rfl) ?_
      refine SDW.readL rfl rfl rfl rfl (sx_of fun _ _ => ex_move rfl) ?_
      refine SDW.readL rfl rfl rfl rfl (sx_of fun _ _ => ex_move rfl) ?_
      refine SDW.readL rfl rfl rfl rfl (sx_of fun _ _ => ex_move rfl) ?_
      refine SDW.idxL rfl rfl rfl rfl rfl rfl (tf (by rfl)) (tf (by rfl)) (by first | assumption | rfl) (by omega) (by first | exact hz_nil (by assumption) | exact map_nil | exact len_nil (by first | assumption | rfl | (simp; done))) (fun _ hidx => ?_)
      cases hidx
      refine SDW.readL rfl rfl rfl rfl (sx_load rfl (by first | exact sld_cell (tf (by rfl)) rfl (by first | assumption | rfl) | exact sld_sub (d := (0 : Int)) (by assumption) (tf (by rfl)) rfl rfl (by omega) | exact sld_at (0 : Int) (tf (by rfl)) rfl rfl (by omega) | exact sld_sub (d := false) (by assumption) (tf (by rfl)) rfl rfl (by omega) | exact sld_at false (tf (by rfl)) rfl rfl (by omega) | exact sld_all (tf (by rfl)) rfl (by first | rfl | (simp; done)))) ?_
      refine SDW.readL rfl rfl rfl rfl (sx_of (fun _ _ => ex_mul rfl rfl (by first | assumption | omega | decide))) ?_
      refine SDW.readL rfl rfl rfl rfl (sx_of fun _ _ => ex_move rfl) ?_
      refine SDW.readL rfl rfl rfl rfl (sx_of fun _ _ => ex_move rfl) ?_
      refine SDW.readL rfl rfl rfl rfl (sx_of fun _ _ => ex_move rfl) ?_
      refine SDW.idxL rfl rfl rfl rfl rfl rfl (tf (by rfl)) (tf (by rfl)) (by first | assumption | rfl) (by omega) (by first | exact hz_nil (by assumption) | exact map_nil | exact len_nil (by first | assumption | rfl | (simp; done))) (fun _ hidx => ?_)
      cases hidx
      refine SDW.readL rfl rfl rfl rfl (sx_load rfl (by first | exact sld_cell (tf (by rfl)) rfl (by first | assumption | rfl) | exact sld_sub (d := (0 : Int)) (by assumption) (tf (by rfl)) rfl rfl (by omega) | exact sld_at (0 : Int) (tf (by rfl)) rfl rfl (by omega) | exact sld_sub (d := false) (by assumption) (tf (by rfl)) rfl rfl (by omega) | exact sld_at false (tf (by rfl)) rfl rfl (by omega) | exact sld_all (tf (by rfl)) rfl (by first | rfl | (simp; done)))) ?_
      refine SDW.readL rfl rfl rfl rfl (sx_of (fun _ _ => ex_mul rfl rfl (by first | assumption | omega | decide))) ?_
      refine SDW.readL rfl rfl rfl rfl (sx_of (fun _ _ => ex_sub rfl rfl (by first | assumption | omega | decide))) ?_
      refine SDW.readL rfl rfl rfl rfl (sx_of fun _ _ => ex_move rfl) ?_
      refine SDW.readL rfl rfl rfl rfl (sx_of fun _ _ => ex_move rfl) ?_
      refine SDW.readL rfl rfl rfl rfl (sx_of fun _ _ => ex_move rfl) ?_
      refine SDW.idxL rfl rfl rfl rfl rfl rfl (tf (by rfl)) (tf (by rfl)) (by first | assumption | rfl) (by omega) (by first | exact hz_nil (by assumption) | exact map_nil | exact len_nil (by first | assumption | rfl | (simp; done))) (fun _ hidx => ?_)
      cases hidx
      refine SDW.readL rfl rfl rfl rfl (sx_load rfl (by first | exact sld_cell (tf (by rfl)) rfl (by first | assumption | rfl) | exact sld_sub (d := (0 : Int)) (by assumption) (tf (by rfl)) rfl rfl (by omega) | exact sld_at (0 : Int) (tf (by rfl)) rfl rfl (by omega) | exact sld_sub (d := false) (by assumption) (tf (by rfl)) rfl rfl (by omega) | exact sld_at false (tf (by rfl)) rfl rfl (by omega) | exact sld_all (tf (by rfl)) rfl (by first | rfl | (simp; done)))) ?_
      refine SDW.readL rfl rfl rfl rfl (sx_of (fun _ _ => ex_mul rfl rfl (by first | assumption | omega | decide))) ?_
      refine SDW.readL rfl rfl rfl rfl (sx_of fun _ _ => ex_move rfl) ?_
      refine SDW.readL rfl rfl rfl rfl (sx_of fun _ _ => ex_move rfl) ?_
      refine SDW.readL rfl rfl rfl rfl (sx_of fun _ _ => ex_move rfl) ?_
      refine SDW.idxL rfl rfl rfl rfl rfl rfl (tf (by rfl)) (tf (by rfl)) (by first | assumption | rfl) (by omega) (by first | exact hz_nil (by assumption) | exact map_nil | exact len_nil (by first | assumption | rfl | (simp; done))) (fun _ hidx => ?_)
      cases hidx
      refine SDW.readL rfl rfl rfl rfl (sx_load rfl (by first | exact sld_cell (tf (by rfl)) rfl (by first | assumption | rfl) | exact sld_sub (d := (0 : Int)) (by assumption) (tf (by rfl)) rfl rfl (by omega) | exact sld_at (0 : Int) (tf (by rfl)) rfl rfl (by omega) | exact sld_sub (d := false) (by assumption) (tf (by rfl)) rfl rfl (by omega) | exact sld_at false (tf (by rfl)) rfl rfl (by omega) | exact sld_all (tf (by rfl)) rfl (by first | rfl | (simp; done)))) ?_
      refine SDW.readL rfl rfl rfl rfl (sx_of (fun _ _ => ex_mul rfl rfl (by first | assumption | omega | decide))) ?_
      refine SDW.readL rfl rfl rfl rfl (sx_of (fun _ _ => ex_sub rfl rfl (by first | assumption | omega | decide))) ?_
      refine SDW.readL rfl rfl rfl rfl (sx_of (fun _ _ => by first | exact ex_bool (ex_lss rfl rfl) (by assumption) | exact ex_lss rfl rfl)) ?_
      refine SDW.done ?_
      repeat (first | refine SGo.seq ?_ | refine SGo.skip ?_ | refine SGo.inBlock ?_ | refine SGo.block ?_ | refine SGo.scope ?_ | refine SGo.inScope ?_ | refine SGo.label ?_ | refine SGo.exit rfl ?_)
      refine SGo.condD rfl (fun h3 => ?_) (fun h3 => ?_)
      · repeat (first | refine SGo.seq ?_ | refine SGo.skip ?_ | refine SGo.inBlock ?_ | refine SGo.block ?_ | refine SGo.scope ?_ | refine SGo.inScope ?_ | refine SGo.label ?_ | refine SGo.exit rfl ?_)
        refine SGo.reg ?_
        refine SReg.mv rfl rfl rfl ?_
        refine SReg.as rfl rfl rfl ?_
        refine SReg.nil ?_
        repeat (first | refine SGo.seq ?_ | refine SGo.skip ?_ | refine SGo.inBlock ?_ | refine SGo.block ?_ | refine SGo.scope ?_ | refine SGo.inScope ?_ | refine SGo.label ?_ | refine SGo.exit rfl ?_)
        repeat (first | refine SGo.seq ?_ | refine SGo.skip ?_ | refine SGo.inBlock ?_ | refine SGo.block ?_ | refine SGo.scope ?_ | refine SGo.inScope ?_ | refine SGo.label ?_ | refine SGo.exit rfl ?_)
        refine SGo.reg ?_
        refine SReg.mv rfl rfl rfl ?_
        refine SReg.ex rfl rfl (fun _ _ => ex_add rfl rfl (by first | assumption | omega | decide)) ?_
        refine SReg.as rfl rfl rfl ?_
        refine SReg.nil ?_
        repeat (first | refine SGo.seq ?_ | refine SGo.skip ?_ | refine SGo.inBlock ?_ | refine SGo.block ?_ | refine SGo.scope ?_ | refine SGo.inScope ?_ | refine SGo.label ?_ | refine SGo.exit rfl ?_)
        refine next2 (i + 1, i) _ (by simp only; omega) ⟨by simp only; omega, by simp, fun j hj => ?_⟩ ⟨rfl, rfl, rfl, rfl, rfl, rfl, rfl, trivial⟩
        simp only at hj ⊢
        rcases Nat.lt_or_ge j i with h4 | h4
        · have := hmin j h4
          have h3' : vl zs o T i < vl zs o T b := h3
          exact .inl (by omega)
        · exact .inr ⟨by rw [show j = i by omega], h4⟩
      · repeat (first | refine SGo.seq ?_ | refine SGo.skip ?_ | refine SGo.inBlock ?_ | refine SGo.block ?_ | refine SGo.scope ?_ | refine SGo.inScope ?_ | refine SGo.label ?_ | refine SGo.exit rfl ?_)
        refine SGo.reg ?_
        refine SReg.mv rfl rfl rfl ?_
        refine SReg.ex rfl rfl (fun _ _ => ex_add rfl rfl (by first | assumption | omega | decide)) ?_
        refine SReg.as rfl rfl rfl ?_
        refine SReg.nil ?_
        repeat (first | refine SGo.seq ?_ | refine SGo.skip ?_ | refine SGo.inBlock ?_ | refine SGo.block ?_ | refine SGo.scope ?_ | refine SGo.inScope ?_ | refine SGo.label ?_ | refine SGo.exit rfl ?_)
        refine next2 (i + 1, b) _ (by simp only; omega) ⟨by simp only; omega, by simp only; omega, fun j hj => ?_⟩ ⟨rfl, rfl, rfl, rfl, rfl, rfl, rfl, trivial⟩
        simp only at hj ⊢
        rcases Nat.lt_or_ge j i with h4 | h4
        · exact hmin j h4
        · have h3' : ¬ vl zs o T i < vl zs o T b := h3
          rw [show j = i by omega]
          omega
    · have hiz : i = zs.length := by omega
      subst hiz
      clear next2
      have hgr := greedy (zs := zs) (p := p) (o := o) (T := T) (b := b) (by omega) hgood j1 (fun i hi => j4 i (by omega)) (fun i hi => j3 i (by omega)) (by omega) (by omega) (fun j hj => hmin j (by omega))
      have hb4 := hob b hb
      have hss := sum_set o b (o.getD b 0 + 1) (by omega)
      repeat (first | refine SGo.seq ?_ | refine SGo.skip ?_ | refine SGo.inBlock ?_ | refine SGo.block ?_ | refine SGo.scope ?_ | refine SGo.inScope ?_ | refine SGo.label ?_ | refine SGo.exit rfl ?_)
      repeat (first | refine SGo.seq ?_ | refine SGo.skip ?_ | refine SGo.inBlock ?_ | refine SGo.block ?_ | refine SGo.scope ?_ | refine SGo.inScope ?_ | refine SGo.label ?_ | refine SGo.exit rfl ?_)
      refine SGo.reg ?_
      refine SReg.mv rfl rfl rfl ?_
      refine SReg.mv rfl rfl rfl ?_
      refine SReg.mv rfl rfl rfl ?_
      refine SReg.mv rfl rfl rfl ?_
      refine SReg.idxG rfl rfl rfl rfl (tf (by rfl)) (tf (by rfl)) (by first | assumption | rfl) (by omega) (by first | exact hz_nil (by assumption) | exact map_nil | exact len_nil (by first | assumption | rfl | (simp; done))) (fun _ hidx => ?_)
      cases hidx
      refine SReg.ld rfl rfl rfl (by first | exact sld_cell (tf (by rfl)) rfl (by first | assumption | rfl) | exact sld_sub (d := (0 : Int)) (by assumption) (tf (by rfl)) rfl rfl (by omega) | exact sld_at (0 : Int) (tf (by rfl)) rfl rfl (by omega) | exact sld_sub (d := false) (by assumption) (tf (by rfl)) rfl rfl (by omega) | exact sld_at false (tf (by rfl)) rfl rfl (by omega) | exact sld_all (tf (by rfl)) rfl (by first | rfl | (simp; done))) ?_
      refine SReg.ex rfl rfl (fun _ _ => ex_add rfl rfl (by first | assumption | omega | decide)) ?_
      refine SReg.idxG rfl rfl rfl rfl (tf (by rfl)) (tf (by rfl)) (by first | assumption | rfl) (by omega) (by first | exact hz_nil (by assumption) | exact map_nil | exact len_nil (by first | assumption | rfl | (simp; done))) (fun _ hidx => ?_)
      cases hidx
      refine SReg.store rfl rfl (.new (.head _)) ty3 rfl (by rw [hmo]; simp only; omega) rfl ?_
      have e1 : setRange (o.map (Value.int .i64)) (0 + b * 1) (Value.int .i64 (o.getD b 0 + 1)).cells.toList = (o.set b (o.getD b 0 + 1)).map (Value.int .i64) := by
        show (o.map (Value.int .i64)).set (0 + b * 1) _ = _
        rw [Nat.zero_add, Nat.mul_one, List.map_set]
      rw [e1]
      refine SReg.nil ?_
      repeat (first | refine SGo.seq ?_ | refine SGo.skip ?_ | refine SGo.inBlock ?_ | refine SGo.block ?_ | refine SGo.scope ?_ | refine SGo.inScope ?_ | refine SGo.label ?_ | refine SGo.exit rfl ?_)
      repeat (first | refine SGo.seq ?_ | refine SGo.skip ?_ | refine SGo.inBlock ?_ | refine SGo.block ?_ | refine SGo.scope ?_ | refine SGo.inScope ?_ | refine SGo.label ?_ | refine SGo.exit rfl ?_)
      refine SGo.reg ?_
      refine SReg.mv rfl rfl rfl ?_
      refine SReg.ex rfl rfl (fun _ _ => ex_add rfl rfl (by first | assumption | omega | decide)) ?_
      refine SReg.as rfl rfl rfl ?_
      refine SReg.nil ?_
      repeat (first | refine SGo.seq ?_ | refine SGo.skip ?_ | refine SGo.inBlock ?_ | refine SGo.block ?_ | refine SGo.scope ?_ | refine SGo.inScope ?_ | refine SGo.label ?_ | refine SGo.exit rfl ?_)
      refine next (o.set b (o.getD b 0 + 1)) _ (by omega) ⟨by simp [j1], by omega, fun i hi => ?_, fun i hi => ?_⟩ ⟨rfl, rfl, rfl, rfl, ?_, trivial⟩
      · rw [getD_set o b i _ (by omega)]; split
        · omega
        · exact j3 i hi
      · rw [getD_set o b i _ (by omega)]; split
        · rename_i e; subst e; exact hgr
        · exact j4 i hi
      · rw [hss]; show some (Value.int _ _) = some (Value.int _ _); congr 2; omega
  · have hop : o = p := (sum_le (j1.trans hpl.symm) fun i hi => j4 i (by omega)).2 (by rw [hgood.sum]; omega)
    rw [← hop]
    repeat (first | refine SGo.seq ?_ | refine SGo.skip ?_ | refine SGo.inBlock ?_ | refine SGo.block ?_ | refine SGo.scope ?_ | refine SGo.inScope ?_ | refine SGo.label ?_ | refine SGo.exit rfl ?_)
    repeat (first | refine SGo.seq ?_ | refine SGo.skip ?_ | refine SGo.inBlock ?_ | refine SGo.block ?_ | refine SGo.scope ?_ | refine SGo.inScope ?_ | refine SGo.label ?_ | refine SGo.exit rfl ?_)
    refine SGo.reg ?_
    refine SReg.mv rfl rfl rfl ?_
    refine SReg.as rfl rfl rfl ?_
    refine SReg.as rfl rfl rfl ?_
    refine SReg.nil ?_
    repeat (first | refine SGo.seq ?_ | refine SGo.skip ?_ | refine SGo.inBlock ?_ | refine SGo.block ?_ | refine SGo.scope ?_ | refine SGo.inScope ?_ | refine SGo.label ?_ | refine SGo.exit rfl ?_)
    exact SGo.ret Try.func20 (fun τ hτ => ares_tmp rfl (ares_tmp rfl ares_nil)) fun τ hτ => ⟨_, hτ, some C, by rw [j1]; rfl, rfl⟩
end Go.Abs.Run
