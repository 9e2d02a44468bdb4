/- THE ABSTRACT MACHINE, part P: the rule for a region whose order is drawn. -/
import Derived.Test.YtehahpnpandppaaAbsO
set_option linter.unusedVariables false
set_option linter.unusedSimpArgs false
namespace Go.Abs
open Go

theorem Sub.refl (σ : AHeap) : Sub σ σ := fun _ _ h => h

theorem steps_call {P : Program} {b : Frame} {a : Act} {ro : Option Nat} {ops : Array Oper} {i : Nat} {rest : List Nat} {k : List Item} {cs : List Frame} {w : World} {o : Oper} {B : Nat} {φ : BMap} {σ : AHeap} {fr : Fr} {N : Nat} {g : FuncId} {vs : List Value} {Q : Value → AHeap → Prop}
    (ho : ops[i]? = some o) (hw : Region.wanted o (yielded ops a.tmps) = true) (hr : RH P φ σ w B) (hf : RF φ N fr a.tmps) (hc : acallee fr o.op = some (g, vs)) (hb : hasBody P g = true) (h : ACalls P g vs σ Q) :
    ∃ v v' σ' φ' w', Q v σ' ∧ RV φ' v v' ∧ RH P φ' σ' w' B ∧ Step σ.next φ σ w φ' σ' w' ∧ Steps P (lone (fat b a ro (.inRegion ops (i :: rest) :: k)) cs w) (lone (fat b (a.put o.dst v') ro (.inRegion ops rest :: k)) cs w') := by
  unfold acallee at hc
  split at hc
  case h_2 => cases hc
  rename_i fo args ts hop
  split at hc
  case h_2 => cases hc
  rename_i kf xs ys us e1 e2
  cases hc
  obtain ⟨xs', ys', hfv, hx, hy⟩ := (aeval_rv hf e1).func_inv
  have hargs := aevals_rv hf e2
  have hrun : (execOp a.eval o).run P w = .ok (.enter g (xs'.toList ++ args.toList.map a.eval ++ ys'.toList).toArray) w := by
    unfold hasBody at hb
    split at hb
    · rename_i fn hfn
      simp only [Bool.and_eq_true, bne_iff_ne, ne_eq] at hb
      have hnone : fn.body.isNone = false := by cases hbd : fn.body <;> simp_all
      have e : xs' ++ (args.map a.eval) ++ ys' = (xs'.toList ++ args.toList.map a.eval ++ ys'.toList).toArray := by apply Array.ext'; simp
      simp only [execOp, hop, Sem.run_bind, resolve, hfv, Deferred.ofValue, Sem.run_pure, Result.andThen_ok, invoke, callFunc, run_program, hfn, hb.2, hnone, if_false, Bool.false_eq_true, beq_iff_eq]
      rw [e]
    · cases hb
  have hg := stepG_opR (P := P) (b := b) (ro := ro) (a := a) (k := k) (cs := cs) (w := w) (rest := rest) ho hw (by simp [notDefer, hop])
  have henter : step P (lone (fat b a ro (.inRegion ops (i :: rest) :: k)) cs w) = .next (lone (Frame.enter P g (xs'.toList ++ args.toList.map a.eval ++ ys'.toList).toArray .normal) (fat b a ro (.inRegion ops (i :: rest) :: k) :: cs) w) :=
    step_lone_go (by rw [hg]; simp [stepG.apply, hrun, fat, Frame.at])
  obtain ⟨v, v', σ', φ', w1, w', frm, a1, a2, a3, a4, a5, a6⟩ := h B φ w _ (fat b a ro (.inRegion ops (i :: rest) :: k) :: cs) hr ((hx.append hargs).append hy)
  have hfin : (fat b a ro (.inRegion ops (i :: rest) :: k)).finish v' = fat b (a.put o.dst v') ro (.inRegion ops rest :: k) := by rw [fat_finish, ho]; rfl
  have hleave := a6.step (fat b a ro (.inRegion ops (i :: rest) :: k)) cs
  rw [hfin] at hleave
  exact ⟨v, v', σ', φ', w', a1, a2, a3, a4, (Steps.one henter).trans (a5.trans (.one hleave))⟩

/-- AN OPERATION WITH AN EFFECT: the next stage begins. -/
theorem Inv.effect {P : Program} {ro : Option Nat} {N B base : Nat} {ops : Array Oper} {A M C' M1 Af : List Nat} {e : Nat} {S : List Stage} {pend TA TM : List Ent} {listed : Array Bool} {fr : Fr} {σ : AHeap} {φ : BMap} {w : World} {a : Act} {b : Frame} {rst : List Nat} {k : List Item} {cs : List Frame} {o : SOp} {Q : Value → AHeap → Prop}
    (h : Inv P N B base ops (A ++ e :: C') (A ++ M) (TA ++ TM) listed fr σ φ w a) (hrA : nrun P N (ops.toList.map (·.dst)) (ops.toList.map slim) base σ A fr = some TA) (hrM : nrun P N (ops.toList.map (·.dst)) (ops.toList.map slim) base σ M (putT fr TA) = some TM)
    (hMC : ∀ m ∈ M, m ∈ C') (hMn : (A ++ M).Nodup) (hdst : ∀ j ∈ M, sameDstB ops e j = false ∧ seesB ops e j = false) (hdef : ∀ (j : Nat) (o : Oper), ops[j]? = some o → notDefer o = true)
    (hAx : ∀ j ∈ A, ex listed j = true) (hne : ex listed e = false) (hp : ∀ p ∈ predsOf ops e, ex listed p = true)
    (ho : sget (ops.toList.map slim) e = some o) (hE : Exec P N (ops.toList.map (·.dst)) (base + e) o (putT fr TA) (setT base σ TA) Q)
    (hM1 : ∀ m ∈ M1, m ∈ C') (hM1n : M1.Nodup) (hM1M : ∀ m ∈ M, m ∈ M1)
    (hnext : ∀ v σ1, Q v σ1 → ∃ T1, nrun P N (ops.toList.map (·.dst)) (ops.toList.map slim) base σ1 M1 (adst (putT fr TA) o.dst v) = some T1 ∧ agree TM T1) :
    ∃ v σ1 T1 a' w' φ', Q v σ1 ∧ nrun P N (ops.toList.map (·.dst)) (ops.toList.map slim) base σ1 M1 (adst (putT fr TA) o.dst v) = some T1 ∧
      Steps P (lone (fat b a ro (.inRegion ops (e :: rst) :: k)) cs w) (lone (fat b a' ro (.inRegion ops rst :: k)) cs w') ∧ a'.defers = a.defers ∧
      Inv P N B base ops C' M1 T1 (listed.setIfInBounds e true) (adst (putT fr TA) o.dst v) σ1 φ' w' a' ∧
      Step base φ (setT base σ ((TA ++ TM).filter fun e => ex listed e.i)) w φ' (setT base σ1 (T1.filter fun x => ex (listed.setIfInBounds e true) x.i)) w' := by
  have hidxA := nrun_idx hrA
  have hidxM := nrun_idx hrM
  have hidx : (TA ++ TM).map (·.i) = A ++ M := by rw [List.map_append, hidxA, hidxM]
  have hTn : ((TA ++ TM).map (·.i)).Nodup := by rw [hidx]; exact hMn
  obtain ⟨oo, hoo, hslim, hdo⟩ := dst_of_sget ho
  have hdd : o.dst = oo.dst := by rw [← hslim]; rfl
  have hgd : o.guard = oo.guard := by rw [← hslim]; rfl
  have hop : o.op = oo.op := by rw [← hslim]; rfl
  have hesz : e < ops.size := h.bound e (by simp)
  have hels : e < listed.size := by rw [h.size]; exact hesz
  have heC : e ∉ C' := by
    have := h.nodup
    rw [List.nodup_append] at this
    exact (List.nodup_cons.1 this.2.1).1
  have hAC : ∀ j ∈ A, j ∉ e :: C' := fun j hj hh => by
    have := h.nodup
    rw [List.nodup_append] at this
    exact this.2.2 j hj j hh rfl
  have hCn : C'.Nodup := by
    have := h.nodup
    rw [List.nodup_append] at this
    exact (List.nodup_cons.1 this.2.1).2
  have hMall : ∀ i ∈ A ++ M, i ∈ A ++ e :: C' := fun i hi => by
    rw [List.mem_append] at hi ⊢
    rcases hi with hi | hi
    · exact .inl hi
    · exact .inr (List.mem_cons_of_mem _ (hMC i hi))
  have hLd : ∀ x ∈ TA ++ TM, dstOf ops x.i = x.o.dst := fun x hx => by
    obtain ⟨U1, U2, hs⟩ := List.append_of_mem hx
    obtain ⟨ho', _⟩ := nrun_at (nrun_append hrA hrM) hs
    obtain ⟨_, _, _, hd⟩ := dst_of_sget ho'; exact hd
  have hlook : RF φ N (only (putT fr TA) (looksOf ops e)) a.tmps := by
    refine h.look (fun x hx => List.mem_append_left _ hx) hLd (fun x hx _ => hAx _ (mem_idx hidxA hx)) (fun x hx hex hs => ?_)
    rw [List.mem_append] at hx
    rcases hx with hx | hx
    · exact hx
    · have := (hdst x.i (mem_idx hidxM hx)).2; rw [this] at hs; cases hs
  -- the heap of what comes before
  have hfn : ((((TA ++ TM).filter fun e => ex listed e.i)).map (·.i)).Nodup := List.Nodup.sublist ((List.filter_sublist).map _) hTn
  have hsubA : Sub (setT base σ TA) (setT base σ ((TA ++ TM).filter fun e => ex listed e.i)) := by
    intro c y hc
    rcases setT_blk _ _ _ _ hc with ⟨x, hx, hce, hnb⟩ | ⟨hno, hc'⟩
    · rw [hce]
      exact setT_mem _ _ x y (List.mem_filter.2 ⟨List.mem_append_left _ hx, hAx _ (mem_idx hidxA hx)⟩) hnb hfn
    · exact h.sub hidx hMall c y hc'
  have hnA : (setT base σ TA).next = (setT base σ ((TA ++ TM).filter fun e => ex listed e.i)).next := by rw [setT_next, setT_next]
  have hRA : RH P φ (setT base σ TA) w B := h.heap.sub hsubA hnA
  have hid : φ (base + e) = none := h.fresh e (by simp) hne
  have hlt : base + e < (setT base σ TA).next := by rw [setT_next]; have := h.next; omega
  have hdeadA : ∀ i ∈ C', (setT base σ TA).blk (base + i) = none := fun i hi => by
    rw [setT_none]
    · exact h.dead i (by simp [hi])
    · intro x hx _ heq
      have hxa := mem_idx hidxA hx
      have : x.i = i := by omega
      rw [this] at hxa
      exact hAC i hxa (List.mem_cons_of_mem _ hi)
  have hni : ∀ i ∈ C', base + i ≠ base + e := fun i hi hh => heC (by
    have : i = e := by omega
    rw [← this]; exact hi)
  -- the operation itself
  have main : dstOk N o.dst = true ∧ ∃ v v' σ1 φ' w', Q v σ1 ∧ RV φ' v v' ∧ RH P φ' σ1 w' B ∧ Step base φ (setT base σ TA) w φ' σ1 w' ∧ (∀ i ∈ C', φ' (base + i) = φ (base + i)) ∧ (∀ i ∈ C', σ1.blk (base + i) = none) ∧
      Steps P (lone (fat b a ro (.inRegion ops (e :: rst) :: k)) cs w) (lone (fat b (a.put oo.dst v') ro (.inRegion ops rst :: k)) cs w') := by
    obtain ⟨hdok, hcase⟩ := hE
    refine ⟨hdok, ?_⟩
    rcases hcase with ⟨hw, hq⟩ | ⟨hw, hq⟩
    · rw [hgd, ← only_wanted hoo] at hw
      have hwant := awanted_ok hlook hw
      have hs := step_skipop (P := P) (b := b) (ro := ro) (a := a) (k := k) (cs := cs) (w := w) (ops := ops) (i := e) (rest := rst) (by simp [hoo, hwant])
      rw [hoo] at hs
      exact ⟨_, undef, _, φ, w, hq, undef_rv φ, hRA, .refl _ _ _ _, fun _ _ => rfl, hdeadA, .one hs⟩
    · rw [hgd, ← only_wanted hoo] at hw
      have hwant := awanted_ok hlook hw
      rcases hq with ⟨v, σ1, hex, hq⟩ | ⟨g, vs, hc, hb, hcall⟩
      · rw [hop, ← only_exec hoo] at hex
        obtain ⟨v', w', φ', c1, c2, c3, c4⟩ := aexec_ok (o := oo) hRA hlook hid hlt hex
        refine ⟨v, v', σ1, φ', w', hq, c2, c3, ⟨c4.ext, fun c hc => c4.old c (by omega), by rw [c4.next]; exact Nat.le_refl _, c4.os, c4.tape, c4.output, c4.size, c4.kept, c4.own, fun c hc hd => c4.dead c (by omega) hd, c4.ro⟩, fun i hi => c4.old _ (hni i hi), fun i hi => c4.dead _ (hni i hi) (hdeadA i hi), .one (step_value hoo hwant (hdef e oo hoo) c1)⟩
      · rw [hop, ← only_callee hoo] at hc
        obtain ⟨v, v', σ1, φ', w', c1, c2, c3, c4, c5⟩ := steps_call (ro := ro) (b := b) (rest := rst) (k := k) (cs := cs) hoo hwant hRA hlook hc hb hcall
        have hbn : base ≤ (setT base σ TA).next := by rw [setT_next]; have := h.next; omega
        have hin : ∀ i ∈ C', base + i < (setT base σ TA).next := fun i hi => by rw [setT_next]; have := h.next; have := h.bound i (by simp [hi]); omega
        exact ⟨v, v', σ1, φ', w', c1, c2, c3, c4.mono hbn, fun i hi => c4.old _ (hin i hi), fun i hi => c4.dead _ (hin i hi) (hdeadA i hi), c5⟩
  obtain ⟨hdok, v, v', σ1, φ', w', hQ, hrv, hR1, hst, hφC, hdead1, hsteps⟩ := main
  obtain ⟨T1, hT1, hag⟩ := hnext v σ1 hQ
  have hidx1 := nrun_idx hT1
  have hT1n : (T1.map (·.i)).Nodup := by rw [hidx1]; exact hM1n
  have hexs : ∀ j, ex (listed.setIfInBounds e true) j = (decide (j = e) || ex listed j) := fun j => ex_set hels
  -- an entry of the next stage that is done already
  have early : ∀ x ∈ T1, ex (listed.setIfInBounds e true) x.i = true → x.i ∈ C' ∧ ex listed x.i = true ∧ ∃ y ∈ TM, y.i = x.i ∧ y.v = x.v ∧ y.nb = x.nb ∧ y.o = x.o := by
    intro x hx hex
    have hxC := hM1 _ (mem_idx hidx1 hx)
    have hxe : x.i ≠ e := fun hh => heC (by rw [← hh]; exact hxC)
    have hexl : ex listed x.i = true := by rw [hexs] at hex; simpa [hxe] using hex
    have hin := h.inM x.i (by simp [hxC]) hexl
    rw [List.mem_append] at hin
    have hxM : x.i ∈ M := by
      rcases hin with hin | hin
      · exact absurd (List.mem_cons_of_mem _ hxC) (hAC _ hin)
      · exact hin
    obtain ⟨y, hy, hyi⟩ := idx_mem hidxM hxM
    obtain ⟨z, hz, z1, z2, z3⟩ := hag y hy
    have : z = x := idx_inj hT1n hz hx (by rw [z1, hyi])
    subst this
    have hyo : y.o = z.o := by
      obtain ⟨U1, U2, hs⟩ := List.append_of_mem hy
      obtain ⟨ho1, _⟩ := nrun_at hrM hs
      obtain ⟨V1, V2, hs'⟩ := List.append_of_mem hz
      obtain ⟨ho2, _⟩ := nrun_at hT1 hs'
      rw [hyi] at ho1; rw [ho1] at ho2; exact Option.some.inj ho2
    exact ⟨hxC, hexl, y, hy, hyi, z2.symm, z3.symm, hyo⟩
  have hjoin := h.heap.join hsubA hst hR1
  have hsub1 : Sub (setT base σ1 (T1.filter fun x => ex (listed.setIfInBounds e true) x.i)) (join (setT base σ TA) (setT base σ ((TA ++ TM).filter fun e => ex listed e.i)) σ1) := by
    intro c z hc
    rcases setT_blk _ _ _ _ hc with ⟨x, hx, hce, hnb⟩ | ⟨hno, hc'⟩
    · obtain ⟨hx1, hx2⟩ := List.mem_filter.1 hx
      obtain ⟨hxC, hexl, y, hy, hyi, hyv, hynb, _⟩ := early x hx1 hx2
      rw [hce]
      simp only [join, hdead1 _ hxC, hdeadA _ hxC]
      rw [← hyi]
      exact setT_mem _ _ y z (List.mem_filter.2 ⟨List.mem_append_right _ hy, by rw [hyi]; exact hexl⟩) (by rw [hynb]; exact hnb) hfn
    · simp only [join, hc']
  have hnx : (setT base σ1 (T1.filter fun x => ex (listed.setIfInBounds e true) x.i)).next = (join (setT base σ TA) (setT base σ ((TA ++ TM).filter fun e => ex listed e.i)) σ1).next := by rw [setT_next]; rfl
  have hstep1 := hst.join (n0 := base) h.heap hsubA hnA (Nat.le_refl _)
  refine ⟨v, σ1, T1, a.put oo.dst v', w', φ', hQ, hT1, hsteps, act_put_defers _ _ _, ?_, ?_⟩
  · refine ⟨by simp [h.size], hCn, fun i hi => h.bound i (by simp [hi]), fun i hi hiC => ?_, fun i hi hx => ?_, fun j hx p hpj => ?_, fun C1 i C2 hC p hpp => ?_, by rw [put_size]; exact h.tmps, fun x hx hex d hd => ?_, fun t u hu hno => ?_, hjoin.sub hsub1 hnx, fun i hi hx => ?_, hdead1, ?_⟩
    · rw [hexs]
      by_cases hcase : i = e
      · simp [hcase]
      · by_cases hA : i ∈ A
        · rw [hAx i hA]; simp
        · rw [h.done i hi (by simp [hA, hcase, hiC])]; simp
    · rw [hexs] at hx
      have hie : i ≠ e := fun hh => heC (by rw [← hh]; exact hi)
      have hexl : ex listed i = true := by simpa [hie] using hx
      have hin := h.inM i (by simp [hi]) hexl
      rw [List.mem_append] at hin
      rcases hin with hin | hin
      · exact absurd (List.mem_cons_of_mem _ hi) (hAC _ hin)
      · exact hM1M i hin
    · rw [hexs] at hx ⊢
      by_cases hcase : j = e
      · subst hcase; rw [hp p hpj]; simp
      · rw [h.closed j (by simpa [hcase] using hx) p hpj]; simp
    · exact h.lin (A ++ e :: C1) i C2 (by rw [hC]; simp) p hpp
    · obtain ⟨hxC, hexl, y, hy, hyi, hyv, _, hyo⟩ := early x hx hex
      obtain ⟨u', h1, h2⟩ := h.slots y (List.mem_append_right _ hy) (by rw [hyi]; exact hexl) d (by rw [hyo]; exact hd)
      refine ⟨u', ?_, by rw [← hyv]; exact h2.ext hst.ext⟩
      rw [put_other]; · exact h1
      intro hh
      have := (hdst y.i (mem_idx hidxM hy)).1
      rw [same_of (t := d) (by rw [hdo, hdd]; exact hh) (by rw [hLd y (List.mem_append_right _ hy), hyo]; exact hd)] at this; cases this
    · -- a slot that nothing done ahead has written
      have viaA : ∀ {t u}, aget (putT fr TA) t = some u → (∀ x ∈ T1, ex (listed.setIfInBounds e true) x.i = true → x.o.dst ≠ some t) → ∃ v', a.tmps[t]? = some v' ∧ RV φ u v' := by
        intro t u hu hno
        rcases putT_get hu with ⟨x, hx, hd, rfl⟩ | ⟨hnoA, hu⟩
        · exact h.slots x (List.mem_append_left _ hx) (hAx _ (mem_idx hidxA hx)) t hd
        · refine h.rest t u hu fun x hx hex hd => ?_
          rw [List.mem_append] at hx
          rcases hx with hx | hx
          · exact hnoA x hx hd
          · have hxM := mem_idx hidxM hx
            obtain ⟨z, hz, z1, z2, z3⟩ := hag x hx
            have hxz : ex (listed.setIfInBounds e true) z.i = true := by rw [hexs, z1, hex]; simp
            obtain ⟨_, _, y, hy, hyi, _, _, hyo⟩ := early z hz hxz
            have : y = x := idx_inj (by rw [hidxM]; exact (List.nodup_append.1 hMn).2.1) hy hx (by rw [hyi, z1])
            subst this
            exact hno z hz hxz (by rw [← hyo]; exact hd)
      cases hod : o.dst with
      | none =>
        rw [hod] at hu
        simp only [adst] at hu
        obtain ⟨u', h1, h2⟩ := viaA hu hno
        exact ⟨u', by rw [put_other (by rw [← hdd, hod]; simp)]; exact h1, h2.ext hst.ext⟩
      | some d =>
        rw [hod] at hu hdok
        simp only [adst, aget_aput] at hu
        split at hu
        · rename_i hdt; subst hdt; cases hu
          exact ⟨v', by rw [← hdd, hod]; exact put_same (by rw [h.tmps]; simpa [dstOk] using hdok), hrv⟩
        · rename_i hdt
          obtain ⟨u', h1, h2⟩ := viaA hu hno
          exact ⟨u', by rw [put_other (by rw [← hdd, hod]; simpa using hdt)]; exact h1, h2.ext hst.ext⟩
    · rw [hexs] at hx
      simp only [Bool.or_eq_false_iff, decide_eq_false_iff_not] at hx
      rw [hφC i hi]; exact h.fresh i (by simp [hi]) hx.2
    · have := hst.next; rw [setT_next] at this; have := h.next; omega
  · refine ⟨hstep1.ext, hstep1.old, by rw [hnx]; exact hstep1.next, hstep1.os, hstep1.tape, hstep1.output, hstep1.size, hstep1.kept, fun g hg ho => hstep1.own g hg (ho.sub hsub1), fun c hc hd => ?_, fun c x hx hxr => hstep1.ro c x (hsub1 c x hx) hxr⟩
    have hjc := hstep1.dead c hc hd
    cases hx : (setT base σ1 (T1.filter fun x => ex (listed.setIfInBounds e true) x.i)).blk c with
    | none => rfl
    | some y => rw [hsub1 c y hx] at hjc; cases hjc


theorem nrun_split {P : Program} {N : Nat} {gds : List (Option Tmp)} {L : List SOp} {base : Nat} {σ : AHeap} {fr : Fr} {A M : List Nat} {TA TM : List Ent} (hA : nrun P N gds L base σ A fr = some TA) (hM : nrun P N gds L base σ M (putT fr TA) = some TM) :
    nrun P N gds L base σ (A ++ M) fr = some (TA ++ TM) := nrun_append hA hM

/-- The table of a stage. -/
theorem DGo.table {P : Program} {N : Nat} {gds : List (Option Tmp)} {L : List SOp} {base : Nat} {K : Fr → AHeap → Prop} {pend : List Ent} {S : List Stage} {Af : List Nat} {fr : Fr} {σ : AHeap} (h : DGo P N gds L base K pend S Af fr σ) :
    ∃ T, nrun P N gds L base σ (stageList S Af) fr = some T ∧ agree pend T := by
  cases S with
  | nil => obtain ⟨T, h1, h2, _⟩ := h; exact ⟨T, h1, h2⟩
  | cons s S => obtain ⟨A, e, M⟩ := s; obtain ⟨TA, TM, o, h1, h2, h3, _⟩ := h; exact ⟨TA ++ TM, nrun_append h1 h2, h3⟩

theorem stageList_sub {ops : Array Oper} : ∀ {S : List Stage} {Af : List Nat}, stagesB ops S Af = true → ∀ i ∈ stageList S Af, i ∈ flat S Af
  | [], Af, _, i, hi => hi
  | (A, e, M) :: S, Af, h, i, hi => by
    simp only [stagesB, stageB, Bool.and_eq_true, List.all_eq_true, List.contains_eq_mem, decide_eq_true_eq] at h
    simp only [stageList, flat, List.mem_append, List.mem_cons] at hi ⊢
    rcases hi with hi | hi
    · exact .inl hi
    · exact .inr (.inr (h.1.1.1.1.1.2 i hi))

theorem nodup_append_of {l m : List Nat} (h1 : l.Nodup) (h2 : m.Nodup) (h3 : ∀ i ∈ l, i ∉ m) : (l ++ m).Nodup :=
  List.nodup_append.2 ⟨h1, h2, fun a ha b hb e => h3 a ha (e ▸ hb)⟩

theorem filter_decr {C : List Nat} {listed : Array Bool} {i : Nat} (hn : C.Nodup) (hi : i ∈ C) (hx : ex listed i = false) (hs : i < listed.size) :
    (C.filter fun j => !ex (listed.setIfInBounds i true) j).length + 1 ≤ (C.filter fun j => !ex listed j).length := by
  induction C with
  | nil => cases hi
  | cons j C ih =>
    have hle : ∀ D : List Nat, (D.filter fun j => !ex (listed.setIfInBounds i true) j).length ≤ (D.filter fun j => !ex listed j).length := by
      intro D
      induction D with
      | nil => simp
      | cons d D ihD =>
        simp only [List.filter_cons, ex_set hs]
        by_cases hd : d = i
        · subst hd; simp [hx]; simp only [ex_set hs] at ihD; simp at ihD; omega
        · simp only [hd, decide_false, Bool.false_or]
          split
          · simp only [List.length_cons]; simp only [ex_set hs] at ihD; omega
          · simp only [ex_set hs] at ihD; omega
    rw [List.nodup_cons] at hn
    simp only [List.filter_cons]
    cases hi with
    | head =>
      have h1 : ex (listed.setIfInBounds i true) i = true := by rw [ex_set hs]; simp
      rw [h1, hx]
      simp only [Bool.not_true, Bool.not_false, if_true, Bool.false_eq_true, if_false, List.length_cons]
      have := hle C; omega
    | tail _ hi =>
      have hji : j ≠ i := fun h => hn.1 (h ▸ hi)
      have h1 : ex (listed.setIfInBounds i true) j = ex listed j := by rw [ex_set hs]; simp [hji]
      rw [h1]
      have := ih hn.2 hi
      split
      · simp only [List.length_cons]; omega
      · exact this

theorem linearise_step (ops : Array Oper) (n t : Nat) (listed : Array Bool) :
    Region.linearise.go .any ops (n + 1) t listed [] = match (Region.ready .any ops listed)[t % (Region.ready .any ops listed).length]? with
      | some i => i :: Region.linearise.go .any ops n (t / (Region.ready .any ops listed).length) (listed.setIfInBounds i true) []
      | none => [] := by
  simp only [Region.linearise.go]
  change (match (Region.ready .any ops listed)[t % (Region.ready .any ops listed).length]? with
      | some i => Region.linearise.go .any ops n (t / (Region.ready .any ops listed).length) (listed.setIfInBounds i true) [i]
      | none => [].reverse) = _
  split
  · rename_i i _; rw [linearise_go_acc]; simp
  · rfl

/-- WHATEVER THE ORDER. -/
theorem sim {P : Program} {ro : Option Nat} {f : FuncId} {N : Nat} {R : Value → AHeap → Prop} {k : List Item} {B base : Nat} {ops : Array Oper} {b : Frame} {cs : List Frame} (hbf : b.fn = f) (hbk : b.kind = .normal)
    (hdef : ∀ (j : Nat) (o : Oper), ops[j]? = some o → notDefer o = true) : ∀ (n t : Nat) (listed : Array Bool) (pend T0 : List Ent) (S : List Stage) (Af : List Nat) (fr : Fr) (σ : AHeap) (φ : BMap) (w : World) (a : Act),
    stagesB ops S Af = true → nrun P N (ops.toList.map (·.dst)) (ops.toList.map slim) base σ (stageList S Af) fr = some T0 → (stageList S Af).Nodup →
    DGo P N (ops.toList.map (·.dst)) (ops.toList.map slim) base (fun fr σ => AGo P ro f N k R fr σ) pend S Af fr σ →
    Inv P N B base ops (flat S Af) (stageList S Af) T0 listed fr σ φ w a → a.defers = [] → ((flat S Af).filter fun j => !ex listed j).length ≤ n →
    ∃ v v' σ' φ' w1 w' frm, R v σ' ∧ RV φ' v v' ∧ RH P φ' σ' w' B ∧ Step base φ (setT base σ (T0.filter fun e => ex listed e.i)) w φ' σ' w' ∧
      Steps P (lone (fat b a ro (.inRegion ops (Region.linearise.go .any ops n t listed []) :: k)) cs w) (lone frm cs w1) ∧ Fin P ro f frm w1 v' w' := by
  -- all is done: the region ends
  have fin : ∀ (listed : Array Bool) (pend T0 : List Ent) (S : List Stage) (Af : List Nat) (fr : Fr) (σ : AHeap) (φ : BMap) (w : World) (a : Act),
      stagesB ops S Af = true → nrun P N (ops.toList.map (·.dst)) (ops.toList.map slim) base σ (stageList S Af) fr = some T0 →
      DGo P N (ops.toList.map (·.dst)) (ops.toList.map slim) base (fun fr σ => AGo P ro f N k R fr σ) pend S Af fr σ →
      Inv P N B base ops (flat S Af) (stageList S Af) T0 listed fr σ φ w a → a.defers = [] → (∀ i ∈ flat S Af, ex listed i = true) →
      ∃ v v' σ' φ' w1 w' frm, R v σ' ∧ RV φ' v v' ∧ RH P φ' σ' w' B ∧ Step base φ (setT base σ (T0.filter fun e => ex listed e.i)) w φ' σ' w' ∧
        Steps P (lone (fat b a ro (.inRegion ops [] :: k)) cs w) (lone frm cs w1) ∧ Fin P ro f frm w1 v' w' := by
    intro listed pend T0 S Af fr σ φ w a hst hT hgo hinv had hall
    cases S with
    | cons s S =>
      obtain ⟨A, e, M⟩ := s
      exfalso
      have he : e ∈ flat ((A, e, M) :: S) Af := by simp [flat]
      have hin := hinv.inM e he (hall e he)
      have hnd := hinv.nodup
      simp only [flat] at hnd
      rw [List.nodup_append] at hnd
      simp only [stageList, List.mem_append] at hin
      rcases hin with hin | hin
      · exact hnd.2.2 e hin e (by simp) rfl
      · simp only [stagesB, stageB, Bool.and_eq_true, List.all_eq_true, List.contains_eq_mem, decide_eq_true_eq] at hst
        exact (List.nodup_cons.1 hnd.2.1).1 (hst.1.1.1.1.1.2 e hin)
    | nil =>
      obtain ⟨T, h1, h2, hK⟩ := hgo
      rw [show stageList [] Af = Af from rfl, h1] at hT
      cases hT
      have hidx := nrun_idx h1
      have hfil : (T0.filter fun e => ex listed e.i) = T0 := List.filter_eq_self.2 fun x hx => hall _ (mem_idx hidx hx)
      have hheap := hinv.heap
      rw [hfil] at hheap ⊢
      have hRF : RF φ N (putT fr T0) a.tmps := by
        refine ⟨hinv.tmps, fun t v hv => ?_⟩
        rcases putT_get hv with ⟨x, hx, hd, rfl⟩ | ⟨hno, hv⟩
        · exact hinv.slots x hx (hall _ (mem_idx hidx hx)) t hd
        · exact hinv.rest t v hv fun x hx _ => hno x hx
      have hend : step P (lone (fat b a ro (.inRegion ops [] :: k)) cs w) = .next (lone (fat b a ro k) cs w) := step_lone_go (by simp [stepG, stepG.exec, Frame.at, fat])
      obtain ⟨v, v', σ', φ', w1, w', frm, a1, a2, a3, a4, a5, a6⟩ := hK B φ w a b cs hheap hRF had hbf hbk
      exact ⟨v, v', σ', φ', w1, w', frm, a1, a2, a3, a4.mono (by rw [setT_next]; have := hinv.next; omega), (Steps.one hend).trans a5, a6⟩
  intro n
  induction n with
  | zero =>
    intro t listed pend T0 S Af fr σ φ w a hst hT hnd hgo hinv had hn
    have hall : ∀ i ∈ flat S Af, ex listed i = true := fun i hi => by
      cases hx : ex listed i with
      | true => rfl
      | false =>
        have : i ∈ (flat S Af).filter fun j => !ex listed j := List.mem_filter.2 ⟨hi, by simp [hx]⟩
        rw [List.length_eq_zero_iff.1 (Nat.le_zero.1 hn)] at this; cases this
    exact fin listed pend T0 S Af fr σ φ w a hst hT hgo hinv had hall
  | succ n ih =>
    intro t listed pend T0 S Af fr σ φ w a hst hT hnd hgo hinv had hn
    rw [linearise_step]
    cases hrd : (Region.ready .any ops listed)[t % (Region.ready .any ops listed).length]? with
    | none =>
      have hnil : Region.ready .any ops listed = [] := by
        cases hr : Region.ready .any ops listed with
        | nil => rfl
        | cons x xs =>
          rw [hr] at hrd
          have hlt : t % (x :: xs).length < (x :: xs).length := Nat.mod_lt _ (by simp)
          rw [List.getElem?_eq_getElem hlt] at hrd; cases hrd
      exact fin listed pend T0 S Af fr σ φ w a hst hT hgo hinv had (hinv.progress hnil)
    | some i =>
      simp only
      obtain ⟨hisz, hne, hp⟩ := ready_spec hinv.size (List.mem_of_getElem? hrd)
      have hiC : i ∈ flat S Af := by
        by_cases hc : i ∈ flat S Af
        · exact hc
        · rw [hinv.done i hisz hc] at hne; cases hne
      have hdecr := filter_decr hinv.nodup hiC hne (by rw [hinv.size]; exact hisz)
      by_cases hiM : i ∈ stageList S Af
      · -- without effect
        have hssa : ssaB ops (stageList S Af) = true := by
          cases S with
          | nil => exact hst
          | cons s S =>
            obtain ⟨A, e, M⟩ := s
            simp only [stagesB, stageB, Bool.and_eq_true] at hst
            exact hst.1.1.1.2
        obtain ⟨a', w', φ', h1, h2, h3, h4⟩ := hinv.quiet (ro := ro) (b := b) (rst := Region.linearise.go .any ops n (t / (Region.ready .any ops listed).length) (listed.setIfInBounds i true) []) (k := k) (cs := cs) hT (stageList_sub hst) hnd hssa hdef hiM hne hp
        obtain ⟨v, v', σ', φ2, w1, w2, frm, c1, c2, c3, c4, c5, c6⟩ := ih (t / (Region.ready .any ops listed).length) (listed.setIfInBounds i true) pend T0 S Af fr σ φ' w' a' hst hT hnd hgo h3 (by rw [h2]; exact had) (by omega)
        exact ⟨v, v', σ', φ2, w1, w2, frm, c1, c2, c3, h4.trans c4 (Nat.le_refl _), (Steps.one h1).trans c5, c6⟩
      · -- the effect whose turn it is
        cases S with
        | nil => exact absurd hiC hiM
        | cons s S =>
          obtain ⟨A, e, M⟩ := s
          have hst0 := hst
          simp only [stagesB, stageB, Bool.and_eq_true, List.all_eq_true, List.contains_eq_mem, decide_eq_true_eq, Bool.or_eq_true, List.any_eq_true, beq_iff_eq, Bool.not_eq_true', decide_eq_false_iff_not] at hst
          obtain ⟨⟨⟨⟨⟨⟨hanc, hMr⟩, hearly⟩, hssa⟩, hdst⟩, hMnext⟩, hst'⟩ := hst
          have hnodup := hinv.nodup
          simp only [flat] at hnodup
          rw [List.nodup_append] at hnodup
          have hnd' := hnodup.2.1
          rw [List.nodup_cons] at hnd'
          have hie : i = e := by
            simp only [flat, List.mem_append, List.mem_cons] at hiC
            simp only [stageList, List.mem_append, not_or] at hiM
            rcases hiC with hc | hc | hc
            · exact absurd hc hiM.1
            · exact hc
            · exfalso
              rcases hearly i hc with hm | ⟨p, hpp, hpc⟩
              · exact hiM.2 hm
              · have hpx := hp p hpp
                rcases hpc with rfl | ⟨hpr, hpm⟩
                · have := hinv.inM p (by simp [flat]) hpx
                  simp only [stageList, List.mem_append] at this
                  rcases this with h | h
                  · exact hnodup.2.2 p h p (by simp) rfl
                  · exact hnd'.1 (hMr p h)
                · have := hinv.inM p (by simp [flat, hpr]) hpx
                  simp only [stageList, List.mem_append] at this
                  rcases this with h | h
                  · exact hnodup.2.2 p h p (by simp [hpr]) rfl
                  · exact hpm h
          subst hie
          obtain ⟨TA, TM, o, d1, d2, d3, d4, d5⟩ := hgo
          have hT0 : T0 = TA ++ TM := by
            have := nrun_append d1 d2
            rw [show stageList ((A, i, M) :: S) Af = A ++ M from rfl, this] at hT
            exact (Option.some.inj hT).symm
          subst hT0
          have hAx : ∀ j ∈ A, ex listed j = true := anc_spec (ex := fun j => ex listed j = true) (fun j hj p hpj => hinv.closed j hj p hpj) hanc hp
          have hM1n : (stageList S Af).Nodup := by
            have hsub := stageList_sub hst'
            cases S with
            | nil => exact hnd'.2
            | cons s' S' =>
              obtain ⟨A', e', M'⟩ := s'
              have h0 := hnd'.2
              simp only [flat] at h0
              rw [List.nodup_append] at h0
              simp only [stagesB, stageB, Bool.and_eq_true, List.all_eq_true, List.contains_eq_mem, decide_eq_true_eq] at hst'
              have hM'n : M'.Nodup := by
                have hs' := hst'.1.1.1.2
                have : ∀ l : List Nat, ssaB ops l = true → True := fun _ _ => trivial
                exact nodup_of (by simpa using hst'.1.2.2)
              exact nodup_append_of h0.1 hM'n fun j hj hjm => h0.2.2 j hj j (List.mem_cons_of_mem _ (hst'.1.1.1.1.1.2 j hjm)) rfl
          obtain ⟨v, σ1, T1, a', w', φ', hQ, hT1, hsteps, hdf, hinv', hstep'⟩ := hinv.effect (ro := ro) (b := b) (M1 := stageList S Af) (C' := flat S Af) (Af := Af) (S := S) (pend := pend) (rst := Region.linearise.go .any ops n (t / (Region.ready .any ops listed).length) (listed.setIfInBounds i true) []) (k := k) (cs := cs) d1 d2 hMr hnd
            hdst hdef hAx hne hp d4 d5 (stageList_sub hst') hM1n hMnext.1 (fun v σ1 hq => hq.table)
          obtain ⟨v2, v', σ', φ2, w1, w2, frm, c1, c2, c3, c4, c5, c6⟩ := ih (t / (Region.ready .any ops listed).length) (listed.setIfInBounds i true) TM T1 S Af (adst (putT fr TA) o.dst v) σ1 φ' w' a' hst' hT1 hM1n hQ hinv' (by rw [hdf]; exact had) (by
              have hxi : ex (listed.setIfInBounds i true) i = true := by rw [ex_set (by rw [hinv.size]; exact hisz)]; simp
              simp only [flat, List.filter_append, List.filter_cons, List.length_append, hxi] at hdecr hn
              simp only [Bool.not_true, Bool.false_eq_true, if_false] at hdecr
              try simp only [List.filter_append, List.length_append] at hdecr
              try simp only [List.filter_append, List.length_append] at hn
              omega)
          exact ⟨v2, v', σ', φ2, w1, w2, frm, c1, c2, c3, hstep'.trans c4 (Nat.le_refl _), hsteps.trans c5, c6⟩

end Go.Abs
