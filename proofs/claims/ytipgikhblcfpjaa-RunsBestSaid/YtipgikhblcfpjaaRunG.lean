/- A part of the proof: contracts of functions of the program, shown by walking through their code in an abstract machine. Condition: none. -/
import Derived.Test.YtipgikhblcfpjaaRunF
set_option linter.unusedVariables false
set_option linter.unusedSimpArgs false
namespace Go.Abs.Run
open Go Go.Proofs
set_option maxHeartbeats 4000000
set_option maxRecDepth 8000
-- @SEAT 10
-- @FN 12
theorem refModules12 {c : Option Nat} {off cap : Nat} {cs : List Value} {rw : Bool} {zs : List Int} (hz : (cs.drop off).take zs.length = zs.map (Value.int .i64)) (hl : zs.length ≤ 100000000000) :
    SC Try.prog 12 [gv c off zs.length cap] [(c, .cells cs 3 rw)] (RB (modP zs).1 (modP zs).2) := by
  refine SC.enter Try.func12 rfl (by rw [Try.ntmps12]; simp) fun σ hσ => ?_
  rw [Try.ntmps12]
  have htm : ((zs.length : Nat) : Int).tmod 2 = ((zs.length % 2 : Nat) : Int) := rfl
  repeat (first | refine SGo.seq ?_ | refine SGo.skip ?_ | refine SGo.inBlock ?_ | refine SGo.block ?_ | refine SGo.scope ?_ | refine SGo.inScope ?_ | refine SGo.label ?_ | refine SGo.exit rfl ?_)
  refine SGo.reg ?_
  refine SReg.as rfl rfl rfl ?_
  refine SReg.as rfl rfl rfl ?_
  refine SReg.nil ?_
  repeat (first | refine SGo.seq ?_ | refine SGo.skip ?_ | refine SGo.inBlock ?_ | refine SGo.block ?_ | refine SGo.scope ?_ | refine SGo.inScope ?_ | refine SGo.label ?_ | refine SGo.exit rfl ?_)
  repeat (first | refine SGo.seq ?_ | refine SGo.skip ?_ | refine SGo.inBlock ?_ | refine SGo.block ?_ | refine SGo.scope ?_ | refine SGo.inScope ?_ | refine SGo.label ?_ | refine SGo.exit rfl ?_)
  refine SGo.reg ?_
  refine SReg.mv rfl rfl rfl ?_
  refine SReg.valG rfl rfl (sx_lenG rfl (tf (by rfl)) (by first | exact hz_nil (by assumption) | exact map_nil | exact len_nil (by first | assumption | rfl | (simp; done)))) ?_
  refine SReg.ex rfl rfl (fun _ _ => by first | exact ex_bool (ex_eql rfl rfl) (by assumption) | exact ex_eql rfl rfl) ?_
  refine SReg.nil ?_
  repeat (first | refine SGo.seq ?_ | refine SGo.skip ?_ | refine SGo.inBlock ?_ | refine SGo.block ?_ | refine SGo.scope ?_ | refine SGo.inScope ?_ | refine SGo.label ?_ | refine SGo.exit rfl ?_)
  refine SGo.condD rfl (fun h => ?_) (fun h => ?_)
  · repeat (first | refine SGo.seq ?_ | refine SGo.skip ?_ | refine SGo.inBlock ?_ | refine SGo.block ?_ | refine SGo.scope ?_ | refine SGo.inScope ?_ | refine SGo.label ?_ | refine SGo.exit rfl ?_)
    refine SGo.reg ?_
    refine SReg.as rfl rfl rfl ?_
    refine SReg.as rfl rfl rfl ?_
    refine SReg.nil ?_
    repeat (first | refine SGo.seq ?_ | refine SGo.skip ?_ | refine SGo.inBlock ?_ | refine SGo.block ?_ | refine SGo.scope ?_ | refine SGo.inScope ?_ | refine SGo.label ?_ | refine SGo.exit rfl ?_)
    rw [show modP zs = ([], 5) by rw [modP, if_pos (by omega)]]
    exact SGo.ret Try.func12 (fun τ hτ => ares_tmp rfl (ares_tmp rfl ares_nil)) fun τ hτ => rb_nil hτ
  have h0 : zs.length ≠ 0 := by omega
  repeat (first | refine SGo.seq ?_ | refine SGo.skip ?_ | refine SGo.inBlock ?_ | refine SGo.block ?_ | refine SGo.scope ?_ | refine SGo.inScope ?_ | refine SGo.label ?_ | refine SGo.exit rfl ?_)
  refine SGo.reg ?_
  refine SReg.mv rfl rfl rfl ?_
  refine SReg.valG rfl rfl (sx_lenG rfl (tf (by rfl)) (by first | exact hz_nil (by assumption) | exact map_nil | exact len_nil (by first | assumption | rfl | (simp; done)))) ?_
  refine SReg.ex rfl rfl (fun _ _ => ex_rem rfl rfl (by first | assumption | omega | decide)) ?_
  refine SReg.ex rfl rfl (fun _ _ => by first | exact ex_bool (ex_eql rfl rfl) (by assumption) | exact ex_eql rfl rfl) ?_
  refine SReg.nil ?_
  repeat (first | refine SGo.seq ?_ | refine SGo.skip ?_ | refine SGo.inBlock ?_ | refine SGo.block ?_ | refine SGo.scope ?_ | refine SGo.inScope ?_ | refine SGo.label ?_ | refine SGo.exit rfl ?_)
  refine SGo.condD rfl (fun h => ?_) (fun h => ?_)
  · repeat (first | refine SGo.seq ?_ | refine SGo.skip ?_ | refine SGo.inBlock ?_ | refine SGo.block ?_ | refine SGo.scope ?_ | refine SGo.inScope ?_ | refine SGo.label ?_ | refine SGo.exit rfl ?_)
    refine SGo.reg ?_
    refine SReg.as rfl rfl rfl ?_
    refine SReg.as rfl rfl rfl ?_
    refine SReg.nil ?_
    repeat (first | refine SGo.seq ?_ | refine SGo.skip ?_ | refine SGo.inBlock ?_ | refine SGo.block ?_ | refine SGo.scope ?_ | refine SGo.inScope ?_ | refine SGo.label ?_ | refine SGo.exit rfl ?_)
    rw [show modP zs = ([], 7) by rw [modP, if_neg h0, if_pos (by omega)]]
    exact SGo.ret Try.func12 (fun τ hτ => ares_tmp rfl (ares_tmp rfl ares_nil)) fun τ hτ => rb_nil hτ
  have h1 : ¬ zs.length % 2 = 0 := by omega
  repeat (first | refine SGo.seq ?_ | refine SGo.skip ?_ | refine SGo.inBlock ?_ | refine SGo.block ?_ | refine SGo.scope ?_ | refine SGo.inScope ?_ | refine SGo.label ?_ | refine SGo.exit rfl ?_)
  refine SGo.reg ?_
  refine SReg.mv rfl rfl rfl ?_
  refine SReg.go (total29 hz hl) rfl rfl (by kernel_rfl) ⟨_, .refl _, .refl _⟩ ?_
  rintro _ _ ⟨rfl, rfl⟩
  refine SReg.as rfl rfl rfl ?_
  refine SReg.nil ?_
  repeat (first | refine SGo.seq ?_ | refine SGo.skip ?_ | refine SGo.inBlock ?_ | refine SGo.block ?_ | refine SGo.scope ?_ | refine SGo.inScope ?_ | refine SGo.label ?_ | refine SGo.exit rfl ?_)
  repeat (first | refine SGo.seq ?_ | refine SGo.skip ?_ | refine SGo.inBlock ?_ | refine SGo.block ?_ | refine SGo.scope ?_ | refine SGo.inScope ?_ | refine SGo.label ?_ | refine SGo.exit rfl ?_)
  refine SGo.reg ?_
  refine SReg.mv rfl rfl rfl ?_
  refine SReg.ex rfl rfl (fun _ _ => by first | exact ex_bool (ex_lss rfl rfl) (by assumption) | exact ex_lss rfl rfl) ?_
  refine SReg.nil ?_
  repeat (first | refine SGo.seq ?_ | refine SGo.skip ?_ | refine SGo.inBlock ?_ | refine SGo.block ?_ | refine SGo.scope ?_ | refine SGo.inScope ?_ | refine SGo.label ?_ | refine SGo.exit rfl ?_)
  have hsum := @sum_bnd zs
  refine SGo.condD rfl (fun h => ?_) (fun h => ?_)
  · repeat (first | refine SGo.seq ?_ | refine SGo.skip ?_ | refine SGo.inBlock ?_ | refine SGo.block ?_ | refine SGo.scope ?_ | refine SGo.inScope ?_ | refine SGo.label ?_ | refine SGo.exit rfl ?_)
    refine SGo.reg ?_
    refine SReg.as rfl rfl rfl ?_
    refine SReg.as rfl rfl rfl ?_
    refine SReg.nil ?_
    repeat (first | refine SGo.seq ?_ | refine SGo.skip ?_ | refine SGo.inBlock ?_ | refine SGo.block ?_ | refine SGo.scope ?_ | refine SGo.inScope ?_ | refine SGo.label ?_ | refine SGo.exit rfl ?_)
    have hb : zs.any (fun w => !wOk w) = true := by
      cases hb : zs.any (fun w => !wOk w) with
      | true => rfl
      | false => rw [totP, hb, if_neg (by simp)] at h; have := hsum hb; omega
    rw [show modP zs = ([], 3) by rw [modP, if_neg h0, if_neg h1, if_pos hb]]
    exact SGo.ret Try.func12 (fun τ hτ => ares_tmp rfl (ares_tmp rfl ares_nil)) fun τ hτ => rb_nil hτ
  have hb : zs.any (fun w => !wOk w) = false := by
    cases hb : zs.any (fun w => !wOk w) with
    | false => rfl
    | true => rw [totP, hb, if_pos rfl] at h; omega
  have ht : totP zs = zs.sum := by rw [totP, hb, if_neg (by simp)]
  rw [ht]
  repeat (first | refine SGo.seq ?_ | refine SGo.skip ?_ | refine SGo.inBlock ?_ | refine SGo.block ?_ | refine SGo.scope ?_ | refine SGo.inScope ?_ | refine SGo.label ?_ | refine SGo.exit rfl ?_)
  refine SGo.reg ?_
  refine SReg.mv rfl rfl rfl ?_
  refine SReg.ex rfl rfl (fun _ _ => by first | exact ex_bool (ex_gtr rfl rfl) (by assumption) | exact ex_gtr rfl rfl) ?_
  refine SReg.nil ?_
  repeat (first | refine SGo.seq ?_ | refine SGo.skip ?_ | refine SGo.inBlock ?_ | refine SGo.block ?_ | refine SGo.scope ?_ | refine SGo.inScope ?_ | refine SGo.label ?_ | refine SGo.exit rfl ?_)
  refine SGo.condD rfl (fun h => ?_) (fun h => ?_)
  · repeat (first | refine SGo.seq ?_ | refine SGo.skip ?_ | refine SGo.inBlock ?_ | refine SGo.block ?_ | refine SGo.scope ?_ | refine SGo.inScope ?_ | refine SGo.label ?_ | refine SGo.exit rfl ?_)
    refine SGo.reg ?_
    refine SReg.as rfl rfl rfl ?_
    refine SReg.as rfl rfl rfl ?_
    refine SReg.nil ?_
    repeat (first | refine SGo.seq ?_ | refine SGo.skip ?_ | refine SGo.inBlock ?_ | refine SGo.block ?_ | refine SGo.scope ?_ | refine SGo.inScope ?_ | refine SGo.label ?_ | refine SGo.exit rfl ?_)
    rw [show modP zs = ([], 4) by rw [modP, if_neg h0, if_neg h1, if_neg (by rw [hb]; simp), if_pos h]]
    exact SGo.ret Try.func12 (fun τ hτ => ares_tmp rfl (ares_tmp rfl ares_nil)) fun τ hτ => rb_nil hτ
  have e : modP zs = (exP 0 zs, 0) := by rw [modP, if_neg h0, if_neg h1, if_neg (by rw [hb]; simp), if_neg h]
  rw [e]
  repeat (first | refine SGo.seq ?_ | refine SGo.skip ?_ | refine SGo.inBlock ?_ | refine SGo.block ?_ | refine SGo.scope ?_ | refine SGo.inScope ?_ | refine SGo.label ?_ | refine SGo.exit rfl ?_)
  refine SGo.reg ?_
  refine SReg.as rfl rfl rfl ?_
  refine SReg.nil ?_
  repeat (first | refine SGo.seq ?_ | refine SGo.skip ?_ | refine SGo.inBlock ?_ | refine SGo.block ?_ | refine SGo.scope ?_ | refine SGo.inScope ?_ | refine SGo.label ?_ | refine SGo.exit rfl ?_)
  repeat (first | refine SGo.seq ?_ | refine SGo.skip ?_ | refine SGo.inBlock ?_ | refine SGo.block ?_ | refine SGo.scope ?_ | refine SGo.inScope ?_ | refine SGo.label ?_ | refine SGo.exit rfl ?_)
  refine SGo.reg ?_
  refine SReg.as rfl rfl rfl ?_
  refine SReg.nil ?_
  repeat (first | refine SGo.seq ?_ | refine SGo.skip ?_ | refine SGo.inBlock ?_ | refine SGo.block ?_ | refine SGo.scope ?_ | refine SGo.inScope ?_ | refine SGo.label ?_ | refine SGo.exit rfl ?_)
  refine SGo.nilE 4 true ?_
  refine SGo.loopI (ι := Nat × Option Nat) (F := fun x => [(0, gv c off zs.length cap), (5, sv x.2 (exP 0 (zs.take x.1)).length), (6, .int .i64 (x.1 : Nat))]) (O := fun _ => [(c, .cells cs 3 rw)]) (l0 := fun x => [(x.2, .cells ((exP 0 (zs.take x.1)).map Value.bool) 4 true)])
    (I := fun x => x.1 ≤ zs.length) (μ := fun x => zs.length - x.1) ?_ (x0 := (0, none)) (Nat.zero_le _) ⟨rfl, rfl, rfl, trivial⟩ rfl rfl
  rintro ⟨k, c'⟩ hk next
  simp only at hk ⊢
  repeat (first | refine SGo.seq ?_ | refine SGo.skip ?_ | refine SGo.inBlock ?_ | refine SGo.block ?_ | refine SGo.scope ?_ | refine SGo.inScope ?_ | refine SGo.label ?_ | refine SGo.exit rfl ?_)
  refine SGo.reg ?_
  refine SReg.mv rfl rfl rfl ?_
  refine SReg.mv rfl rfl rfl ?_
  refine SReg.valG rfl rfl (sx_lenG rfl (tf (by rfl)) (by first | exact hz_nil (by assumption) | exact map_nil | exact len_nil (by first | assumption | rfl | (simp; done)))) ?_
  refine SReg.ex rfl rfl (fun _ _ => by first | exact ex_bool (ex_lss rfl rfl) (by assumption) | exact ex_lss rfl rfl) ?_
  refine SReg.nil ?_
  repeat (first | refine SGo.seq ?_ | refine SGo.skip ?_ | refine SGo.inBlock ?_ | refine SGo.block ?_ | refine SGo.scope ?_ | refine SGo.inScope ?_ | refine SGo.label ?_ | refine SGo.exit rfl ?_)
  refine SGo.condD rfl (fun h => ?_) (fun h => ?_)
  · have hk' : k < zs.length := by omega
    have hw : wOk (zs.getD k 0) = true := by
      rw [List.any_eq_false] at hb
      have := hb (zs.getD k 0) (by rw [List.getD_eq_getElem?_getD, List.getElem?_eq_getElem hk']; exact List.getElem_mem hk')
      simpa using this
    simp only [wOk, Bool.and_eq_true, decide_eq_true_eq] at hw
    have hlen := exP_len (zs := zs.take k) (i := 0) (by rw [List.any_eq_false] at hb ⊢; exact fun x hx => hb x (List.mem_of_mem_take hx))
    have hle := sum_take_le hb k
    obtain ⟨N, hN⟩ : ∃ N : Nat, zs.getD k 0 = (N : Int) := ⟨(zs.getD k 0).toNat, by omega⟩
    have hx := exP_take hk'
    rw [hN, Int.toNat_natCast] at hx
    rw [hN] at hw
    repeat (first | refine SGo.seq ?_ | refine SGo.skip ?_ | refine SGo.inBlock ?_ | refine SGo.block ?_ | refine SGo.scope ?_ | refine SGo.inScope ?_ | refine SGo.label ?_ | refine SGo.exit rfl ?_)
    refine SGo.reg ?_
    refine SReg.as rfl rfl rfl ?_
    refine SReg.nil ?_
    repeat (first | refine SGo.seq ?_ | refine SGo.skip ?_ | refine SGo.inBlock ?_ | refine SGo.block ?_ | refine SGo.scope ?_ | refine SGo.inScope ?_ | refine SGo.label ?_ | refine SGo.exit rfl ?_)
    refine SGo.loopI (ι := Nat × Option Nat) (F := fun y => [(0, gv c off zs.length cap), (5, sv y.2 (exP 0 (zs.take k) ++ List.replicate y.1 (decide ((k : Int).tmod 2 = 0))).length), (6, .int .i64 (k : Nat)), (7, .int .i64 (y.1 : Nat))]) (O := fun _ => [(c, .cells cs 3 rw)]) (l0 := fun y => [(y.2, .cells ((exP 0 (zs.take k) ++ List.replicate y.1 (decide ((k : Int).tmod 2 = 0))).map Value.bool) 4 true)])
      (I := fun y => y.1 ≤ N) (μ := fun y => N - y.1) ?_ (x0 := (0, c')) (Nat.zero_le _) ⟨rfl, by simp only [List.replicate_zero, List.append_nil]; rfl, rfl, rfl, trivial⟩ rfl (by simp)
    rintro ⟨m, c2⟩ hm next2
    simp only at hm ⊢
    repeat (first | refine SGo.seq ?_ | refine SGo.skip ?_ | refine SGo.inBlock ?_ | refine SGo.block ?_ | refine SGo.scope ?_ | refine SGo.inScope ?_ | refine SGo.label ?_ | refine SGo.exit rfl ?_)
    refine SGo.reg ?_
    refine SReg.mv rfl rfl rfl ?_
    refine SReg.mv rfl rfl rfl ?_
    refine SReg.mv rfl rfl rfl ?_
    refine SReg.idxG rfl rfl rfl rfl (tf (by rfl)) (tf (by rfl)) (by first | assumption | rfl) (by omega) (by first | exact hz_nil (by assumption) | exact map_nil | exact len_nil (by first | assumption | rfl | (simp; done))) (fun _ hidx => ?_)
    cases hidx
    refine SReg.ld rfl rfl rfl (by first | exact sld_cell (tf (by rfl)) rfl (by first | assumption | rfl) | exact sld_sub (d := (0 : Int)) (by assumption) (tf (by rfl)) rfl rfl (by omega) | exact sld_at (0 : Int) (tf (by rfl)) rfl rfl (by omega) | exact sld_sub (d := false) (by assumption) (tf (by rfl)) rfl rfl (by omega) | exact sld_at false (tf (by rfl)) rfl rfl (by omega) | exact sld_all (tf (by rfl)) rfl (by first | rfl | (simp; done))) ?_
    refine SReg.ex rfl rfl (fun _ _ => by first | exact ex_bool (ex_lss rfl rfl) (by assumption) | exact ex_lss rfl rfl) ?_
    refine SReg.nil ?_
    repeat (first | refine SGo.seq ?_ | refine SGo.skip ?_ | refine SGo.inBlock ?_ | refine SGo.block ?_ | refine SGo.scope ?_ | refine SGo.inScope ?_ | refine SGo.label ?_ | refine SGo.exit rfl ?_)
    rw [hN]
    refine SGo.condD rfl (fun h => ?_) (fun h => ?_)
    · repeat (first | refine SGo.seq ?_ | refine SGo.skip ?_ | refine SGo.inBlock ?_ | refine SGo.block ?_ | refine SGo.scope ?_ | refine SGo.inScope ?_ | refine SGo.label ?_ | refine SGo.exit rfl ?_)
      refine SGo.reg ?_
      refine SReg.mv rfl rfl rfl ?_
      refine SReg.mv rfl rfl rfl ?_
      refine SReg.ex rfl rfl (fun _ _ => ex_rem rfl rfl (by first | assumption | omega | decide)) ?_
      refine SReg.ex rfl rfl (fun _ _ => by first | exact ex_bool (ex_eql rfl rfl) (by assumption) | exact ex_eql rfl rfl) ?_
      refine SReg.buildSlice rfl rfl (bs25 _) fun A => ?_
      refine SReg.append (m := 1) (news := [.bool (decide ((k : Int).tmod 2 = 0))]) (L := fun c3 => [(some A, _), (c3, _)]) rfl rfl (fun c2 => .tail _ (.head _)) ty25 ty4 rfl (fun τ hτ => asrc_sv hτ ty25 (by simp) (by omega)) (by simp) (by simp) (by omega) (by simp; omega) (by simp; omega) fun c3 => ?_
      refine SReg.as rfl rfl rfl ?_
      refine SReg.nil ?_
      repeat (first | refine SGo.seq ?_ | refine SGo.skip ?_ | refine SGo.inBlock ?_ | refine SGo.block ?_ | refine SGo.scope ?_ | refine SGo.inScope ?_ | refine SGo.label ?_ | refine SGo.exit rfl ?_)
      repeat (first | refine SGo.seq ?_ | refine SGo.skip ?_ | refine SGo.inBlock ?_ | refine SGo.block ?_ | refine SGo.scope ?_ | refine SGo.inScope ?_ | refine SGo.label ?_ | refine SGo.exit rfl ?_)
      refine SGo.reg ?_
      refine SReg.mv rfl rfl rfl ?_
      refine SReg.ex rfl rfl (fun _ _ => ex_add rfl rfl (by first | assumption | omega | decide)) ?_
      refine SReg.as rfl rfl rfl ?_
      refine SReg.nil ?_
      repeat (first | refine SGo.seq ?_ | refine SGo.skip ?_ | refine SGo.inBlock ?_ | refine SGo.block ?_ | refine SGo.scope ?_ | refine SGo.inScope ?_ | refine SGo.label ?_ | refine SGo.exit rfl ?_)
      refine SGo.less (l' := [(c3, .cells ((exP 0 (zs.take k) ++ List.replicate (m + 1) (decide ((k : Int).tmod 2 = 0))).map Value.bool) 4 true)]) (by rw [List.replicate_succ', ← List.append_assoc, List.map_append (l₂ := [_])]; exact .cons _ (.refl _)) ?_
      refine next2 (m + 1, c3) _ (by simp only; omega) (by simp only; omega) ⟨rfl, ?_, rfl, rfl, trivial⟩
      simp only [List.replicate_succ', ← List.append_assoc, List.length_append (bs := [_])]; rfl
    · have hmN : m = N := by omega
      subst hmN
      repeat (first | refine SGo.seq ?_ | refine SGo.skip ?_ | refine SGo.inBlock ?_ | refine SGo.block ?_ | refine SGo.scope ?_ | refine SGo.inScope ?_ | refine SGo.label ?_ | refine SGo.exit rfl ?_)
      repeat (first | refine SGo.seq ?_ | refine SGo.skip ?_ | refine SGo.inBlock ?_ | refine SGo.block ?_ | refine SGo.scope ?_ | refine SGo.inScope ?_ | refine SGo.label ?_ | refine SGo.exit rfl ?_)
      refine SGo.reg ?_
      refine SReg.mv rfl rfl rfl ?_
      refine SReg.ex rfl rfl (fun _ _ => ex_add rfl rfl (by first | assumption | omega | decide)) ?_
      refine SReg.as rfl rfl rfl ?_
      refine SReg.nil ?_
      repeat (first | refine SGo.seq ?_ | refine SGo.skip ?_ | refine SGo.inBlock ?_ | refine SGo.block ?_ | refine SGo.scope ?_ | refine SGo.inScope ?_ | refine SGo.label ?_ | refine SGo.exit rfl ?_)
      rw [← hx]
      exact next (k + 1, c2) _ (by simp only; omega) (by simp only; omega) ⟨rfl, rfl, rfl, trivial⟩
  · have hkz : k = zs.length := by omega
    subst hkz
    rw [List.take_of_length_le (Nat.le_refl _)]
    repeat (first | refine SGo.seq ?_ | refine SGo.skip ?_ | refine SGo.inBlock ?_ | refine SGo.block ?_ | refine SGo.scope ?_ | refine SGo.inScope ?_ | refine SGo.label ?_ | refine SGo.exit rfl ?_)
    repeat (first | refine SGo.seq ?_ | refine SGo.skip ?_ | refine SGo.inBlock ?_ | refine SGo.block ?_ | refine SGo.scope ?_ | refine SGo.inScope ?_ | refine SGo.label ?_ | refine SGo.exit rfl ?_)
    refine SGo.reg ?_
    refine SReg.mv rfl rfl rfl ?_
    refine SReg.as rfl rfl rfl ?_
    refine SReg.as rfl rfl rfl ?_
    refine SReg.nil ?_
    repeat (first | refine SGo.seq ?_ | refine SGo.skip ?_ | refine SGo.inBlock ?_ | refine SGo.block ?_ | refine SGo.scope ?_ | refine SGo.inScope ?_ | refine SGo.label ?_ | refine SGo.exit rfl ?_)
    exact SGo.ret Try.func12 (fun τ hτ => ares_tmp rfl (ares_tmp rfl ares_nil)) fun τ hτ => ⟨_, hτ, c', rfl, rfl⟩
end Go.Abs.Run
