/- THE ABSTRACT MACHINE, part J: every operation, and the machine's steps. -/
import Derived.Test.YtehahpnpandppaaAbsI
set_option linter.unusedVariables false
set_option linter.unusedSimpArgs false
namespace Go.Abs
open Go

theorem toArray_toList_map (xs : Array Operand) (f : Operand → Value) : xs.map f = (xs.toList.map f).toArray := by apply Array.ext'; simp

theorem aexec_ok {P : Program} {B id N : Nat} {φ : BMap} {σ σ' : AHeap} {w : World} {fr : Fr} {a : Act} {o : Oper} {v : Value} (hr : RH P φ σ w B) (hf : RF φ N fr a.tmps) (hid : φ id = none) (hlt : id < σ.next)
    (h : aexec P σ id fr o.op = some (v, σ')) : OpOk P B id φ σ w ((execOp a.eval o).run P w) v σ' := by
  have wrap : ∀ {s : Sem Value} {v' : Value} {w' : World}, s.run P w = .ok v' w' → (do Pure.pure (Next.value (← s)) : Sem Next).run P w = .ok (.value v') w' := fun {s v' w'} e => by simp [e]
  have wrapU : ∀ {s : Sem Unit} {w' : World}, s.run P w = .ok () w' → (do s; Pure.pure Next.skip : Sem Next).run P w = .ok .skip w' := fun {s w'} e => by simp [e]
  have pureV : ∀ {s : Sem Value} {v v' : Value}, s.run P w = .ok v' w → RV φ v v' → OpOk P B id φ σ w ((do Pure.pure (Next.value (← s)) : Sem Next).run P w) v σ := fun e hv => .pure hr (wrap e) hv
  unfold aexec at h
  split at h
  · -- move
    rename_i x ho
    rw [Option.map_eq_some_iff] at h; obtain ⟨u, hu, heq⟩ := h; cases heq
    exact .pure hr (by simp [execOp, ho]) (aeval_rv hf hu)
  · -- assign
    rename_i x ho
    rw [Option.map_eq_some_iff] at h; obtain ⟨u, hu, heq⟩ := h; cases heq
    exact .pure hr (by simp [execOp, ho]) (aeval_rv hf hu)
  · -- pick
    rename_i c x y ho
    split at h
    · rename_i t hc
      rw [Option.map_eq_some_iff] at h; obtain ⟨u, hu, heq⟩ := h; cases heq
      have hcv := (aeval_rv hf hc).bool_inv
      cases t
      · exact .pure hr (by simp [execOp, ho, hcv, asBool]; rfl) (aeval_rv hf (by simpa using hu))
      · exact .pure hr (by simp [execOp, ho, hcv, asBool]; rfl) (aeval_rv hf (by simpa using hu))
    · cases h
  · -- alloc
    rename_i e ho
    split at h
    · rename_i k s by' z hE
      split at h
      case isFalse => cases h
      rename_i hz
      rw [Option.map_eq_some_iff] at h; obtain ⟨s', hs, heq⟩ := h; cases heq
      have hzt : isTuple z = false := by cases z <;> first | rfl | (simp [closedV, closedCell] at hz)
      refine OpOk.box hr hid hlt (RV.closed hz) hzt hs ?_
      have : (Instr.alloc e true (.tuple #[])).run P w = .ok (.pointer (some ⟨w.heap.size, 0, none⟩)) (w.alloc (.cells z.cells e)) := by
        simp only [Instr.alloc, Sem.run_bind, zero_of hE rfl, Result.andThen_ok, newVar, newRow, run_newObj, Sem.run_pure]; rfl
      simp only [execOp, ho]; exact wrap this
    · cases h
  · -- box
    rename_i e x ho
    split at h
    · rename_i u hu
      split at h
      · cases h
      · rename_i ht
        rw [Option.map_eq_some_iff] at h; obtain ⟨s', hs, heq⟩ := h; cases heq
        refine OpOk.box hr hid hlt (aeval_rv hf hu) (by simpa using ht) hs ?_
        have : (Instr.box e (a.eval x)).run P w = .ok (.pointer (some ⟨w.heap.size, 0, none⟩)) (w.alloc (.cells (a.eval x).cells e)) := by
          simp only [Instr.box, Sem.run_bind, Result.andThen_ok, newVar, newRow, run_newObj, Sem.run_pure]; rfl
        simp only [execOp, ho]; exact wrap this
    · cases h
  · -- build
    rename_i t parts ho
    split at h
    · rename_i ps hps
      rw [Option.map_eq_some_iff] at h; obtain ⟨u, hu, heq⟩ := h; cases heq
      obtain ⟨v', c, d⟩ := abuild_ok (P := P) (w := w) hu (aparts_rv hf hps)
      simp only [execOp, ho]
      have e : (parts.map fun x => (x.1, a.eval x.2)) = (parts.toList.map fun (i, x) => (i, a.eval x)).toArray := by apply Array.ext'; simp
      rw [e]; exact pureV c d
    · cases h
  · -- buildSlice
    rename_i t len parts ho
    split at h
    · rename_i ps hps
      obtain ⟨u', w', φ', c, d, e, f⟩ := abuildSlice_ok hr hid hlt h (aparts_rv hf hps)
      have e' : (parts.map fun x => (x.1, a.eval x.2)) = (parts.toList.map fun (i, x) => (i, a.eval x)).toArray := by apply Array.ext'; simp
      exact ⟨u', w', φ', .inl (by simp only [execOp, ho]; rw [e']; exact wrap c), d, e, f⟩
    · cases h
  · -- load
    rename_i t x ho
    split at h
    · rename_i p hp
      rw [Option.map_eq_some_iff] at h; obtain ⟨u, hu, heq⟩ := h; cases heq
      obtain ⟨v', c, d⟩ := aload_rv hr hu (aeval_rv hf hp)
      simp only [execOp, ho]; exact pureV c d
    · cases h
  · -- store
    rename_i t x y ho
    split at h
    · rename_i p u hp hu
      rw [Option.map_eq_some_iff] at h; obtain ⟨s', hs, heq⟩ := h; cases heq
      obtain ⟨w', c, d, e⟩ := astore_ok (id := id) hr hs (aeval_rv hf hp) (aeval_rv hf hu)
      exact ⟨undef, w', φ, .inr ⟨by simp only [execOp, ho]; exact wrapU c, rfl⟩, RV.tuple_of (xs := []) (xs' := []) (.nil φ), d, e⟩
    · cases h
  · -- nilCheck
    rename_i x ho
    split at h
    · rename_i p hp
      cases h
      have hrv := aeval_rv hf hp
      have : ∃ q, a.eval x = .pointer (some q) := by
        obtain ⟨b, off, spot⟩ := p
        generalize a.eval x = y at hrv
        cases hrv; exact ⟨_, rfl⟩
      obtain ⟨q, hq⟩ := this
      exact .pure hr (by simp [execOp, ho, hq]; rfl) (by rw [← hq]; exact hrv)
    · rename_i f xs ys hp
      cases h
      have hrv := aeval_rv hf hp
      obtain ⟨xs', ys', hq, _, _⟩ := hrv.func_inv
      exact .pure hr (by simp [execOp, ho, hq]; rfl) (by rw [← hq]; exact hrv)
    · cases h
  · -- binOp
    rename_i op t x y yt ho
    split at h
    · rename_i u1 u2 h1 h2
      rw [Option.map_eq_some_iff] at h; obtain ⟨u, hu, heq⟩ := h; cases heq
      obtain ⟨c, d⟩ := abinT_ok (P := P) (w := w) (xo := x) (yo := y) hu (aeval_rv hf h1) (aeval_rv hf h2)
      simp only [execOp, ho]; exact pureV c d
    · cases h
  · -- unOp
    rename_i op t x ho
    split at h
    · rename_i u1 h1
      rw [Option.map_eq_some_iff] at h; obtain ⟨u, hu, heq⟩ := h; cases heq
      obtain ⟨c, d⟩ := aun_ok (P := P) (w := w) hu (aeval_rv hf h1)
      simp only [execOp, ho]; exact pureV c d
    · cases h
  · -- convert
    rename_i s t x ho
    split at h
    · rename_i u1 h1
      obtain ⟨c, d, rfl⟩ := aconvert_ok (P := P) (w := w) h (aeval_rv hf h1)
      simp only [execOp, ho]; exact pureV c d
    · cases h
  · -- makeFunc
    rename_i f xs ys ho
    split at h
    · rename_i us vs h1 h2
      cases h
      have a1 := aevals_rv hf h1
      have a2 := aevals_rv hf h2
      refine .pure hr (v' := .func (.func f) (xs.map a.eval) (ys.map a.eval)) (by simp [execOp, ho, Instr.makeFunc]) ?_
      refine .func (by have := a1.1; simpa using this) (fun i v v' p q => a1.2 i v v' (by simpa using p) (by simpa using q)) (by have := a2.1; simpa using this) (fun i v v' p q => a2.2 i v v' (by simpa using p) (by simpa using q))
    · cases h
  · -- makeMap
    rename_i t ho
    split at h
    · rename_i k e _ _ _ hT
      cases h
      obtain ⟨u', w', φ', c, d, e', f⟩ := makeMap_ok (t := t) (k := k) hr hid hlt
      exact ⟨u', w', φ', .inl (by simp only [execOp, ho, Option.map_none]; exact wrap c), d, e', f⟩
    · cases h
  · -- makeSlice
    rename_i t l c ho
    split at h
    · rename_i u1 u2 h1 h2
      obtain ⟨u', w', φ', c, d, e, f⟩ := amakeSlice_ok hr hid hlt h (aeval_rv hf h1) (aeval_rv hf h2)
      exact ⟨u', w', φ', .inl (by simp only [execOp, ho]; exact wrap c), d, e, f⟩
    · cases h
  · -- slice
    rename_i t x lo hi ho
    split at h
    · rename_i u1 u2 u3 h1 h2 h3
      rw [Option.map_eq_some_iff] at h; obtain ⟨u, hu, heq⟩ := h; cases heq
      obtain ⟨v', c, d⟩ := aslice2_ok hr hu (aeval_rv hf h1) (aevalO_rv hf h2) (aevalO_rv hf h3)
      simp only [execOp, ho, Option.map_none]; exact pureV c d
    · cases h
  · -- slice with a third index
    rename_i t x lo hi m ho
    split at h
    · rename_i u1 u2 u3 u4 h1 h2 h3 h4
      rw [Option.map_eq_some_iff] at h; obtain ⟨u, hu, heq⟩ := h; cases heq
      obtain ⟨v', c, d⟩ := aslice3_ok hr hu (aeval_rv hf h1) (aevalO_rv hf h2) (aevalO_rv hf h3) (aeval_rv hf h4)
      simp only [execOp, ho, Option.map_some]; exact pureV c d
    · cases h
  · -- fieldAddr
    rename_i t x f ho
    split at h
    · rename_i u1 h1
      rw [Option.map_eq_some_iff] at h; obtain ⟨u, hu, heq⟩ := h; cases heq
      obtain ⟨v', c, d⟩ := afieldAddr_ok (P := P) (w := w) hu (aeval_rv hf h1)
      simp only [execOp, ho]; exact pureV c d
    · cases h
  · -- field
    rename_i t x f ho
    split at h
    · rename_i u1 h1
      rw [Option.map_eq_some_iff] at h; obtain ⟨u, hu, heq⟩ := h; cases heq
      obtain ⟨v', c, d⟩ := afield_ok (P := P) (w := w) hu (aeval_rv hf h1)
      simp only [execOp, ho]; exact pureV c d
    · cases h
  · -- indexAddr
    rename_i t x ix ho
    split at h
    · rename_i u1 u2 h1 h2
      rw [Option.map_eq_some_iff] at h; obtain ⟨u, hu, heq⟩ := h; cases heq
      obtain ⟨v', c, d⟩ := aindexAddr_ok (P := P) (w := w) hu (aeval_rv hf h1) (aeval_rv hf h2)
      simp only [execOp, ho]; exact pureV c d
    · cases h
  · -- index
    rename_i t x ix ho
    split at h
    · rename_i u1 u2 h1 h2
      rw [Option.map_eq_some_iff] at h; obtain ⟨u, hu, heq⟩ := h; cases heq
      obtain ⟨v', c, d⟩ := aindex_ok (P := P) (w := w) hu (aeval_rv hf h1) (aeval_rv hf h2)
      simp only [execOp, ho]; exact pureV c d
    · cases h
  · -- lookup
    rename_i t m k ok ho
    split at h
    · rename_i u1 u2 h1 h2
      rw [Option.map_eq_some_iff] at h; obtain ⟨u, hu, heq⟩ := h; cases heq
      obtain ⟨v', c, d⟩ := alookup_ok hr hu (aeval_rv hf h1) (aeval_rv hf h2)
      simp only [execOp, ho]; exact pureV c d
    · cases h
  · -- mapUpdate
    rename_i t m k x ho
    split at h
    · rename_i u1 u2 u3 h1 h2 h3
      rw [Option.map_eq_some_iff] at h; obtain ⟨s', hs, heq⟩ := h; cases heq
      obtain ⟨w', c, d, e⟩ := amapUpdate_ok (id := id) hr hs (aeval_rv hf h1) (aeval_rv hf h2) (aeval_rv hf h3)
      exact ⟨undef, w', φ, .inr ⟨by simp only [execOp, ho]; exact wrapU c, rfl⟩, RV.tuple_of (xs := []) (xs' := []) (.nil φ), d, e⟩
    · cases h
  · -- extract
    rename_i x i ho
    split at h
    · rename_i u1 h1
      rw [Option.map_eq_some_iff] at h; obtain ⟨u, hu, heq⟩ := h; cases heq
      obtain ⟨v', c, d⟩ := aextract_ok (P := P) (w := w) hu (aeval_rv hf h1)
      simp only [execOp, ho]; exact pureV c d
    · cases h
  · -- builtin
    rename_i b args ts ho
    split at h
    · rename_i vs h1
      have := abuiltin_ok (rt := o.type) (cst := args.map fun | .const _ => true | _ => false) hr hid hlt h (aevals_rv hf h1)
      simp only [execOp, ho, Sem.run_bind, resolve, Sem.run_pure, Result.andThen_ok, invoke]
      rw [toArray_toList_map]
      exact this
    · cases h
  · cases h

end Go.Abs
