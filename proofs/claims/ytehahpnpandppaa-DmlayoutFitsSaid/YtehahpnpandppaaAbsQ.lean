/- THE ABSTRACT MACHINE, part Q: the rule for a drawn region; heaps that grow; what a proof about a loop needs. -/
import Derived.Test.YtehahpnpandppaaAbsP
set_option linter.unusedVariables false
set_option linter.unusedSimpArgs false
namespace Go.Abs
open Go

theorem RH.drew {P : Program} {φ : BMap} {σ : AHeap} {w : World} {B : Nat} (h : RH P φ σ w B) : RH P φ σ w.drew B := ⟨h.base, h.fresh, h.dom, h.inj⟩

theorem Step.drew (φ : BMap) (σ : AHeap) (w : World) (n : Nat) : Step σ.next φ σ w φ (σ.bump n) w.drew :=
  ⟨.refl _, fun _ _ => rfl, by simp, rfl, rfl, rfl, Nat.le_refl _, fun _ _ _ => rfl, fun _ _ h => h, fun _ _ h => h, fun _ _ h _ => h⟩

section
variable {P : Program} {ro : Option Nat} {f : FuncId} {N : Nat} {R : Value → AHeap → Prop} {fr : Fr} {σ : AHeap} {k : List Item}

theorem AGo.draw {id : Nat} {l : List Oper} {gds : List (Option Tmp)} {L : List SOp} (S : List Stage) (Af : List Nat) (hm : P.follows .mixedOrders = true) (hB : drawB l.toArray S Af = true) (hg : l.map (·.dst) = gds) (hL : l.map slim = L)
    (h : DGo P N gds L σ.next (fun fr σ => AGo P ro f N k R fr σ) [] S Af fr (σ.bump l.length)) : AGo P ro f N (.code (.region id l.toArray true) :: k) R fr σ := by
  intro B φ w a b cs h1 h2 h3 h4 h5
  subst hg; subst hL
  simp only [drawB, Bool.and_eq_true, List.all_eq_true, List.mem_range, List.contains_eq_mem, decide_eq_true_eq] at hB
  obtain ⟨⟨⟨⟨⟨⟨hfull, hnd⟩, hbound⟩, hlin⟩, hst⟩, hlen⟩, hdef⟩ := hB
  have hnd' := nodup_of hnd
  have hdefs : ∀ (j : Nat) (o : Oper), l.toArray[j]? = some o → notDefer o = true := fun j o ho => by
    have := Array.all_eq_true'.1 hdef o (Array.mem_of_getElem? ho); exact this
  obtain ⟨T0, hT0, _⟩ := h.table
  have hMn : (stageList S Af).Nodup := by
    cases S with
    | nil => exact hnd'
    | cons s S =>
      obtain ⟨A, e, M⟩ := s
      simp only [flat] at hnd'
      rw [List.nodup_append] at hnd'
      simp only [stagesB, stageB, Bool.and_eq_true, List.all_eq_true, List.contains_eq_mem, decide_eq_true_eq] at hst
      exact nodup_append_of hnd'.1 (nodup_of (by simpa using hst.1.2.2)) fun j hj hjm => hnd'.2.2 j hj j (List.mem_cons_of_mem _ (hst.1.1.1.1.1.2 j hjm)) rfl
  have hexF : ∀ i, ex (Array.replicate l.toArray.size false) i = false := fun i => by
    unfold ex
    rw [Array.getD_eq_getD_getElem?, Array.getElem?_replicate]
    split <;> rfl
  have hfil : (T0.filter fun e => ex (Array.replicate l.toArray.size false) e.i) = [] := List.filter_eq_nil_iff.2 fun x _ => by rw [hexF]; simp
  have hinv : Inv P N B σ.next l.toArray (flat S Af) (stageList S Af) T0 (Array.replicate l.toArray.size false) fr (σ.bump l.length) φ w.drew a := by
    refine ⟨by simp, hnd', fun i hi => hbound i hi, fun i hi hiC => absurd (hfull i (by simpa using hi)) hiC, fun i _ hx => by (rw [hexF] at hx; cases hx), fun i hx => by (rw [hexF] at hx; cases hx), fun C1 i C2 hC p hp => ?_, h2.size,
      fun e _ hx => by (rw [hexF] at hx; cases hx), fun t v hv _ => h2.get t v hv, ?_, fun i _ _ => h1.fresh _ (Nat.le_add_right _ _), fun i _ => ?_, by simp⟩
    · rcases lin_spec hlin C1 i C2 hC p hp with hd | hc
      · cases hd
      · refine ⟨hbound p (by rw [hC]; simp [hc]), fun hh => ?_⟩
        rw [hC, List.nodup_append] at hnd'
        exact hnd'.2.2 p hc p hh rfl
    · rw [hfil]; exact (h1.bump _).drew
    · cases hx : σ.blk (σ.next + i) with
      | none => exact hx
      | some x =>
        obtain ⟨p, hp, _⟩ := h1.dom _ _ hx
        rw [h1.fresh _ (Nat.le_add_right _ _)] at hp; cases hp
  have hcount : ((flat S Af).filter fun j => !ex (Array.replicate l.toArray.size false) j).length ≤ l.toArray.size := by
    have hle : ((flat S Af).filter fun j => !ex (Array.replicate l.toArray.size false) j).length ≤ (flat S Af).length := List.length_filter_le _ _
    exact Nat.le_trans hle hlen
  have htape := sim (ro := ro) (f := f) (R := R) (k := k) (b := b) (cs := cs) h4 h5 hdefs l.toArray.size (w.tape w.drawn (.order b.fn id)) (Array.replicate l.toArray.size false) [] T0 S Af fr (σ.bump l.length) φ w.drew a hst (by simpa using hT0) hMn (by simpa using h) hinv h3 hcount
  rw [hfil] at htape
  obtain ⟨v, v', σ', φ', w1, w', frm, a1, a2, a3, a4, a5, a6⟩ := htape
  have hstep : step P (lone (fat b a ro (.code (.region id l.toArray true) :: k)) cs w) = .next (lone (fat b a ro (.inRegion l.toArray (Region.linearise.go .any l.toArray l.toArray.size (w.tape w.drawn (.order b.fn id)) (Array.replicate l.toArray.size false) []) :: k)) cs { w with drawn := w.drawn + 1 }) := by
    refine step_lone_go ?_
    simp [stepG, stepG.exec, Frame.at, fat, choose, Sem.run, Question.forced, Question.cut, Region.schedule, hm, Region.linearise]
  exact ⟨v, v', σ', φ', w1, w', frm, a1, a2, a3, (Step.drew φ σ w l.length).trans a4 (Nat.le_refl _), (Steps.one hstep).trans a5, a6⟩
end

end Go.Abs
