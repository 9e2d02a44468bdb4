/- THE ABSTRACT MACHINE, part H: equality, conversions, what is built, maps. -/
import Derived.Test.YtehahpnpandppaaAbsG
set_option linter.unusedVariables false
set_option linter.unusedSimpArgs false
namespace Go.Abs
open Go

theorem plainCell_eq {φ : BMap} {v v' : Value} (h : RV φ v v') (hp : plainCell v = true) : v' = v := by
  cases h <;> first | rfl | (simp [plainCell] at hp)
theorem plainKey_eq {φ : BMap} {v v' : Value} (h : RV φ v v') (hp : plainKey v = true) : v' = v := by
  unfold plainKey at hp
  split at hp
  · rename_i cs
    obtain ⟨cs', rfl, h1, _⟩ := h.agg_inv
    congr 1
    apply Array.ext
    · have := h1.1; simp at this; exact this.symm
    · intro i hi hi'
      have hp' := (Array.all_eq_true.1 hp) i hi'
      exact plainCell_eq (h1.2 i cs[i] cs'[i] (by simp) (by simp)) hp'
  · exact plainCell_eq h hp

open Classical in
theorem abinT_ok {P : Program} {φ : BMap} {w : World} {op : BinOp} {t : TypeId} {xo yo : Operand} {x x' y y' v : Value} (h : abinT P op t x y = some v) (hx : RV φ x x') (hy : RV φ y y') :
    (do eqGuard op t xo yo x' y'; binOp op t x' y' : Sem Value).run P w = .ok v w ∧ RV φ v v := by
  have guard_ok : ∀ {a b : Value}, (∀ xs, a ≠ .agg xs) → a ≠ .nilIface → (eqGuard op t xo yo a b).run P w = .ok () w := by
    intro a b h1 h2
    unfold eqGuard
    cases op <;> cases a <;> first | rfl | (exact absurd rfl (h1 _)) | (exact absurd rfl h2)
  unfold abinT at h
  split at h
  · rename_i a b
    cases hx.bool_inv; cases hy.bool_inv
    have hg := guard_ok (a := .bool a) (b := .bool b) (fun _ h => by cases h) (fun h => by cases h)
    split at h
    · rename_i hk
      cases h
      have hb := run_equal_bool (P := P) w t a b (tk_bool hk)
      exact ⟨by simp only [Sem.run_bind, hg, Result.andThen_ok, binOp, hb, Sem.run_pure], .bool _⟩
    · rename_i hk
      cases h
      have hb := run_equal_bool (P := P) w t a b (tk_bool hk)
      exact ⟨by simp only [Sem.run_bind, hg, Result.andThen_ok, binOp, hb, Sem.run_pure], .bool _⟩
    · cases h
  · rename_i xs ys
    split at h
    case isFalse => cases h
    rename_i hc
    obtain ⟨hk, hpx, hpy, hkx, hky⟩ := hc
    cases plainKey_eq hx hpx; cases plainKey_eq hy hpy
    obtain ⟨r, hr, hiff⟩ := hk.eq w (.agg xs) (.agg ys) hkx hky
    have hr' : r = decide (xs = ys) := by
      cases r
      · symm; rw [decide_eq_false_iff_not]; intro e; have := hiff.2 (by rw [e]); cases this
      · symm; rw [decide_eq_true_iff]; have := hiff.1 rfl; injection this
    have hg := run_eqGuard_agg (P := P) w op t xo yo xs ys hk.guard
    split at h
    · cases h
      refine ⟨?_, .bool _⟩
      simp only [Sem.run_bind, hg, Result.andThen_ok, binOp, hr, Sem.run_pure, hr']
    · cases h
      refine ⟨?_, .bool _⟩
      simp only [Sem.run_bind, hg, Result.andThen_ok, binOp, hr, Sem.run_pure, hr']
    · cases h
  · obtain ⟨a, b⟩ := abin_ok (P := P) (w := w) (t := t) h hx hy
    have hg : (eqGuard op t xo yo x' y').run P w = .ok () w := by
      apply guard_ok
      · intro xs e; subst e
        cases hx; unfold abin at h; simp at h
      · intro e; subst e
        cases hx; unfold abin at h; simp at h
    exact ⟨by simp only [Sem.run_bind, hg, Result.andThen_ok, a], b⟩

theorem aun_ok {P : Program} {φ : BMap} {w : World} {op : UnOp} {x x' v : Value} (h : aun op x = some v) (hx : RV φ x x') : (Op.unary op x').run P w = .ok v w ∧ RV φ v v := by
  unfold aun at h
  split at h
  · cases hx.bool_inv
    split at h
    · cases h; exact ⟨by simp [Op.unary], .bool _⟩
    · cases h
  · cases hx.int_inv
    split at h
    · cases h; exact ⟨by simp [Op.unary, Op.intArith], .int _ _⟩
    · cases h
  · cases h

theorem akind_of {P : Program} {t : TypeId} {T : ATy} (h : ty P t = some T) : ∃ d, P.underlying t = some d ∧ T.k = akind d := by
  obtain ⟨d, i, a, _, b, _⟩ := under_of h; exact ⟨d, a, b⟩

theorem aconvert_ok {P : Program} {id : Nat} {φ : BMap} {σ σ' : AHeap} {w : World} {s t : TypeId} {x x' u : Value} (h : aconvert P σ id s t x = some (u, σ')) (hx : RV φ x x') :
    (convert s t x').run P w = .ok u w ∧ RV φ u u ∧ σ' = σ := by
  unfold aconvert at h
  split at h
  case h_2 => cases h
  rename_i S D hS hD
  split at h
  case h_2 => cases h
  cases hx.int_inv
  split at h
  · rename_i k hk
    cases h
    obtain ⟨ds, hds, _⟩ := akind_of hS
    obtain ⟨dd, hdd, hkd⟩ := akind_of hD
    have hke : akind dd = .int k := by rw [← hkd]; exact hk
    have : P.underlying t = some (.int k) := by rw [hdd, akind_int hke]
    exact ⟨by simp [convert, run_underlying hds, run_underlying this, Conv.intToInt], .int _ _, rfl⟩
  · cases h

/-! ### What is built -/
theorem foldl_set (vs : List Value) : ∀ (k off : Nat) (arr : Array Value), ((vs.zipIdx k).foldl (fun (cs : Array Value) (x : Value × Nat) => cs.setIfInBounds (off + x.2) x.1) arr).toList = setRange arr.toList (off + k) vs := by
  induction vs with
  | nil => intro k off arr; rfl
  | cons v vs ih =>
    intro k off arr
    simp only [List.zipIdx_cons, List.foldl_cons, setRange]
    rw [ih (k + 1) off, ← Nat.add_assoc]
    simp

theorem setRange_rvs {φ : BMap} : ∀ {vs vs' cs cs' : List Value} (off : Nat), RVs φ cs cs' → RVs φ vs vs' → RVs φ (setRange cs off vs) (setRange cs' off vs')
  | [], vs', cs, cs', off, h, hv => by
    have : vs' = [] := List.length_eq_zero_iff.1 hv.1.symm
    subst this; exact h
  | v :: vs, [], cs, cs', off, h, hv => absurd hv.1 (by simp)
  | v :: vs, v' :: vs', cs, cs', off, h, hv => by
    simp only [setRange]
    refine setRange_rvs (off + 1) ⟨by simp [h.1], fun i a b ha hb => ?_⟩ ⟨by simpa using hv.1, fun i a b ha hb => hv.2 (i + 1) a b (by simpa using ha) (by simpa using hb)⟩
    rw [List.getElem?_set] at ha hb
    split at ha
    · rename_i e
      rw [if_pos e] at hb
      split at ha
      · split at hb
        · cases ha; cases hb; exact hv.2 0 _ _ rfl rfl
        · cases hb
      · cases ha
    · rename_i e
      rw [if_neg e] at hb
      exact h.2 i a b ha hb

/-- Parts: each with its place's number. -/
def PVs (φ : BMap) (ps ps' : List (Nat × Value)) : Prop := ps.map (·.1) = ps'.map (·.1) ∧ RVs φ (ps.map (·.2)) (ps'.map (·.2)) ∧ ∀ p ∈ ps, isTuple p.2 = false

theorem aparts_rv {φ : BMap} {N : Nat} {fr : Fr} {a : Act} (hf : RF φ N fr a.tmps) : ∀ {xs : List (Nat × Operand)} {ps : List (Nat × Value)}, aparts fr xs = some ps → PVs φ ps (xs.map fun (i, x) => (i, a.eval x))
  | [], ps, h => by simp only [aparts, Option.some.injEq] at h; subst h; exact ⟨rfl, .nil φ, fun _ h => by cases h⟩
  | (i, x) :: r, ps, h => by
    simp only [aparts] at h
    split at h
    · rename_i v vs h1 h2
      split at h
      · cases h
      · rename_i ht
        cases h
        obtain ⟨a1, a2, a3⟩ := aparts_rv hf h2
        refine ⟨by simpa using a1, .cons (aeval_rv hf h1) a2, fun p hp => ?_⟩
        cases hp with
        | head => simpa using ht
        | tail _ hp => exact a3 p hp
    · cases h

theorem afill_ok {φ : BMap} {place : Nat → Option (Nat × Nat)} : ∀ {ps ps' : List (Nat × Value)} {cs r : List Value} {arr : Array Value}, afill place cs ps = some r → PVs φ ps ps' → RVs φ cs arr.toList → Ones cs →
    ∃ arr', Instr.fill place arr ps' = some arr' ∧ RVs φ r arr'.toList ∧ Ones r
  | [], ps', cs, r, arr, h, hp, hc, ho => by
    have : ps' = [] := by have := hp.1; simp at this; exact this
    subst this
    simp only [afill, Option.some.injEq] at h
    subst h
    exact ⟨arr, rfl, hc, ho⟩
  | (i, v) :: ps, ps', cs, r, arr, h, hp, hc, ho => by
    obtain ⟨p1, p2, p3⟩ := hp
    cases ps' with
    | nil => simp at p1
    | cons q ps' =>
      obtain ⟨j, v'⟩ := q
      simp only [List.map_cons, List.cons.injEq] at p1
      obtain ⟨rfl, p1⟩ := p1
      simp only [afill] at h
      split at h
      · cases h
      · rename_i off size hpl
        split at h
        · cases h
        · rename_i hc1
          have hv : RV φ v v' := p2.2 0 v v' rfl rfl
          have ht := p3 (i, v) (List.mem_cons_self ..)
          have hcl := hv.cells
          have hsz : v'.cells.size = v.cells.size := by have := hcl.1; simp at this; exact this.symm
          have hlen : arr.size = cs.length := by have := hc.1; simp at this; exact this.symm
          have hset := setRange_rvs off hc hcl
          have key := foldl_set v'.cells.toList 0 off arr
          obtain ⟨arr', a1, a2, a3⟩ := afill_ok (ps := ps) (ps' := ps') (arr := (setRange arr.toList off v'.cells.toList).toArray) h
            ⟨p1, ⟨by simpa using p2.1, fun k a b ha hb => p2.2 (k + 1) a b (by simpa using ha) (by simpa using hb)⟩, fun p hp => p3 p (List.mem_cons_of_mem _ hp)⟩ (by simpa using hset) (ho.setRange _ (hv.ones ht))
          refine ⟨arr', ?_, a2, a3⟩
          simp only [Instr.fill, hpl, hsz, hlen]
          rw [if_neg hc1]
          rw [← a1]
          congr 1
          apply Array.ext'
          simp only [Nat.add_zero] at key
          rw [← key, ← Array.foldl_toList, Array.toList_zipIdx]

theorem mapM_places {P : Program} {w : World} : ∀ {gs : List Field} {ps : List (Nat × Nat)}, fieldPlaces P (gs.map fun f => (f.offset, f.type)) = some ps →
    (gs.mapM fun f => do pure (f.offset, ← sizeOf f.type) : Sem (List (Nat × Nat))).run P w = .ok ps w
  | [], ps, h => by simp only [List.map_nil, fieldPlaces, Option.some.injEq] at h; subst h; simp
  | f :: gs, ps, h => by
    simp only [List.map_cons, fieldPlaces] at h
    split at h
    · rename_i T qs hT hq
      cases h
      have ih := mapM_places (P := P) (w := w) hq
      simp only [List.mapM_cons, Sem.run_bind, size_of hT, Result.andThen_ok, Sem.run_pure] at ih ⊢
      rw [ih]; rfl
    · cases h

theorem abuild_ok {P : Program} {φ : BMap} {w : World} {t : TypeId} {ps ps' : List (Nat × Value)} {v : Value} (h : abuild P t ps = some v) (hp : PVs φ ps ps') :
    ∃ v', (Instr.build t ps'.toArray).run P w = .ok v' w ∧ RV φ v v' := by
  unfold abuild at h
  split at h
  · rename_i fs _ _ z hT
    split at h
    case isFalse => cases h
    rename_i hz
    split at h
    case h_2 => cases h
    rename_i qs hq
    rw [Option.map_eq_some_iff] at h
    obtain ⟨cs, hc, rfl⟩ := h
    obtain ⟨gs, hg, rfl⟩ := struct_of hT
    obtain ⟨arr', a1, a2, a3⟩ := afill_ok (arr := z.cells) hc hp (RVs.closed (closed_cells hz)) (ones_closed (closed_cells hz))
    refine ⟨.agg arr', ?_, by have := RV.agg_of a2 a3; simpa using this⟩
    have hm := mapM_places (P := P) (w := w) hq
    have hm' : (gs.mapM fun f => do pure (f.offset, ← sizeOf f.type) : Sem (Array (Nat × Nat))).run P w = .ok qs.toArray w := by
      rw [Array.mapM_eq_mapM_toList, Sem.run_map, hm]; rfl
    simp only [Instr.build, Sem.run_bind, zero_of hT rfl, Result.andThen_ok, run_under hg, hm', List.getElem?_toArray, a1, Sem.run_pure]
  · rename_i n e _ _ z hT
    split at h
    case h_2 => cases h
    rename_i E hE
    split at h
    case isFalse => cases h
    rename_i hz
    rw [Option.map_eq_some_iff] at h
    obtain ⟨cs, hc, rfl⟩ := h
    obtain ⟨arr', a1, a2, a3⟩ := afill_ok (arr := z.cells) hc hp (RVs.closed (closed_cells hz)) (ones_closed (closed_cells hz))
    refine ⟨.agg arr', ?_, by have := RV.agg_of a2 a3; simpa using this⟩
    simp only [Instr.build, Sem.run_bind, zero_of hT rfl, Result.andThen_ok, run_under (array_of hT), size_of hE, a1, Sem.run_pure]
  · cases h

theorem afill_length {place : Nat → Option (Nat × Nat)} : ∀ {ps : List (Nat × Value)} {cs r : List Value}, afill place cs ps = some r → r.length = cs.length
  | [], cs, r, h => by simp only [afill, Option.some.injEq] at h; subst h; rfl
  | (i, v) :: ps, cs, r, h => by
    simp only [afill] at h
    split at h
    · cases h
    · split at h
      · cases h
      · rw [afill_length h, setRange_length]

theorem abuildSlice_ok {P : Program} {B id : Nat} {φ : BMap} {σ σ' : AHeap} {w : World} {t : TypeId} {len : Nat} {ps ps' : List (Nat × Value)} {u : Value} (hr : RH P φ σ w B) (hid : φ id = none) (hlt : id < σ.next)
    (h : abuildSlice P σ id t len ps = some (u, σ')) (hp : PVs φ ps ps') :
    ∃ u' w' φ', (Instr.buildSlice t len ps'.toArray).run P w = .ok u' w' ∧ RV φ' u u' ∧ RH P φ' σ' w' B ∧ OStep id φ σ w φ' σ' w' := by
  unfold abuildSlice at h
  split at h
  case h_2 => cases h
  rename_i e _ _ _ hS
  split at h
  case h_2 => cases h
  rename_i ek s bytes z hE
  split at h
  case isFalse => cases h
  rename_i hc
  obtain ⟨hz, hzs, h24⟩ := hc
  split at h
  case h_2 => cases h
  rename_i cs hf
  cases h
  obtain ⟨arr', a1, a2, a3⟩ := afill_ok (arr := (zerosL z len).toArray) hf hp (by simpa using RVs.closed (zerosL_closed hz len)) (ones_closed (zerosL_closed hz len))
  have htsz : tsz P e = some s := by simp [tsz, hE]
  have hlen : arr'.size = cs.length := by have := a2.1; simp at this; exact this.symm
  have hcl : cs.length = len * s := by rw [afill_length hf, zerosL_length, hzs]
  obtain ⟨b1, b2⟩ := hr.cells (w1 := w) (cs := cs) (cur := arr') hid hlt rfl rfl rfl rfl htsz a3 (fun j v hv => let ⟨v', p, q⟩ := a2.get hv; ⟨v', by simpa using p, q⟩) (by omega)
  refine ⟨.slice (some ⟨w.heap.size, 0, none⟩) len len, _, _, ?_, ?_, b1, b2⟩
  · simp only [Instr.buildSlice, Sem.run_bind, run_under (slice_of hS), Result.andThen_ok, size_of hE]
    rw [if_neg (by omega)]
    by_cases h00 : len * s = 0
    · have hzl : zerosL z len = [] := List.length_eq_zero_iff.1 (by rw [zerosL_length, hzs, h00])
      rw [hzl] at a1
      have hemp : ∀ f : Nat → Value, Array.map f (Array.range 0) = #[] := fun f => by simp
      simp only [h00, if_true, Sem.run_bind, Sem.run_pure, Result.andThen_ok, hemp, a1, newRow, run_newObj]
      rfl
    · have hcells : (Array.range (len * s)).map (fun k => z.cells[k % z.cells.size]!) = (zerosL z len).toArray := by
        unfold zerosL
        rw [← zeros_map, hzs]
      simp only [h00, if_false, Sem.run_bind, zero_of hE rfl, Result.andThen_ok, Sem.run_pure, hcells, a1, newRow, run_newObj]
      rfl
  · exact RV.slice (p := ⟨w.heap.size, 0, _, s⟩) (lay_same _ _ _) (Nat.le_refl _) (Nat.le_refl _) (.inl rfl)

end Go.Abs
