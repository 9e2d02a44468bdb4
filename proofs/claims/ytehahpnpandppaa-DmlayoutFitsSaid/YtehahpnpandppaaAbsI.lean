/- THE ABSTRACT MACHINE, part I: maps, builtins, and every operation together. -/
import Derived.Test.YtehahpnpandppaaAbsH
set_option linter.unusedVariables false
set_option linter.unusedSimpArgs false
namespace Go.Abs
open Go

theorem makeMap_ok {P : Program} {B id : Nat} {φ : BMap} {σ : AHeap} {w : World} {t k : TypeId} (hr : RH P φ σ w B) (hid : φ id = none) (hlt : id < σ.next) :
    ∃ u' w' φ', (Instr.makeMap t none).run P w = .ok u' w' ∧ RV φ' (.map (some id)) u' ∧ RH P φ' (σ.set id (.map k fun _ => none)) w' B ∧ OStep id φ σ w φ' (σ.set id (.map k fun _ => none)) w' := by
  have hnew : (w.alloc (.map #[] 0)).heap[w.heap.size]? = some (.map #[] 0) := heap_alloc_new w _
  obtain ⟨a, b⟩ := hr.alloc (w' := w.alloc (.map #[] 0)) (x := .map k fun _ => none) (obj := .map #[] 0) (p := ⟨w.heap.size, 0, 0, 0⟩) hid hlt rfl rfl rfl rfl rfl rfl
    ⟨hr.base, #[], 0, hnew, fun e he => by simp at he, fun i j x y h => by simp at h, fun e he => by simp at he, fun key v h => by cases h⟩
  exact ⟨.map (some w.heap.size), _, _, rfl, .map (p := ⟨w.heap.size, 0, 0, 0⟩) (lay_same _ _ _), a, b⟩

theorem run_getObj_map {P : Program} {w : World} {g : Nat} {es : Array MapEntry} {c : Nat} (h : w.heap[g]? = some (.map es c)) : (getObj g).run P w = .ok (.map es c) w := by
  simp [getObj, Sem.run, h]

theorem alookup_ok {P : Program} {B : Nat} {φ : BMap} {σ : AHeap} {w : World} {t : TypeId} {m m' k k' v : Value} {ok : Bool} (hr : RH P φ σ w B) (h : alookup P σ t m k ok = some v) (hm : RV φ m m') (hk : RV φ k k') :
    ∃ v', (Instr.lookup t m' k' ok).run P w = .ok v' w ∧ RV φ v v' := by
  unfold alookup at h
  split at h
  case h_2 => cases h
  rename_i kt e _ _ _ hT
  split at h
  case h_2 => cases h
  rename_i ek s bytes z b hE
  split at h
  case h_2 => cases h
  rename_i kt' f hb
  split at h
  case isFalse => cases h
  rename_i hc
  obtain ⟨rfl, hko, hz, hpk, hkey⟩ := hc
  cases plainKey_eq hk hpk
  obtain ⟨p, hφ, rfl⟩ := hm.map_inv
  obtain ⟨q, hq, hok⟩ := hr.dom b _ hb
  rw [hφ] at hq; cases hq
  obtain ⟨_, es, c, hes, h1, h2, h3, h4⟩ := hok
  obtain ⟨l, hl⟩ := Option.isSome_iff_exists.1 hkey
  have hck := hko.law.check w es.isEmpty hl
  have hfind := hko.law.find w hl es.toList (fun e he => Option.isSome_iff_exists.1 (h1 e he))
  have fin : ∀ (u : Value) (b : Bool), RV φ u u ∨ True → True := fun _ _ _ => trivial
  rcases hfind with ⟨hf, hno⟩ | ⟨j, e0, hf, hj, hek⟩
  · have hfk : f k = none := by
      cases hfk : f k with
      | none => rfl
      | some u => obtain ⟨e1, he1, hek⟩ := h4 k u hfk; exact absurd hek (hno e1 he1)
    rw [hfk] at h
    simp only [Option.some.injEq] at h
    refine ⟨if ok then .tuple #[z, .bool false] else z, ?_, ?_⟩
    · simp [Instr.lookup, run_underlying (map_of hT), run_getObj_map hes, hck, hf, zero_of hE rfl]
    · subst h
      cases ok
      · exact RV.closed hz
      · exact RV.tuple_of (xs := [z, .bool false]) (xs' := [z, .bool false]) (.cons (RV.closed hz) (.cons (.bool _) (.nil φ)))
  · have hmem : e0 ∈ es.toList := List.mem_of_getElem? hj
    obtain ⟨u, hu, hrv⟩ := h3 e0 hmem
    rw [hek] at hu
    rw [hu] at h
    simp only [Option.some.injEq] at h
    refine ⟨if ok then .tuple #[e0.val, .bool true] else e0.val, ?_, ?_⟩
    · simp [Instr.lookup, run_underlying (map_of hT), run_getObj_map hes, hck, hf]
    · subst h
      cases ok
      · exact hrv
      · exact RV.tuple_of (xs := [u, .bool true]) (xs' := [e0.val, .bool true]) (.cons hrv (.cons (.bool _) (.nil φ)))

open Classical in
theorem amapUpdate_ok {P : Program} {B id : Nat} {φ : BMap} {σ σ' : AHeap} {w : World} {t : TypeId} {m m' k k' v v' : Value} (hr : RH P φ σ w B) (h : amapUpdate P σ t m k v = some σ') (hm : RV φ m m') (hk : RV φ k k') (hv : RV φ v v') :
    ∃ w', (Instr.mapUpdate t m' k' v').run P w = .ok () w' ∧ RH P φ σ' w' B ∧ OStep id φ σ w φ σ' w' := by
  unfold amapUpdate at h
  split at h
  case h_2 => cases h
  rename_i kt e _ _ _ b hT
  split at h
  case h_2 => cases h
  rename_i kt' f hb
  split at h
  case isFalse => cases h
  rename_i hc
  obtain ⟨rfl, hko, hpk, hkey⟩ := hc
  cases h
  cases plainKey_eq hk hpk
  obtain ⟨p, hφ, rfl⟩ := hm.map_inv
  obtain ⟨q, hq, hok⟩ := hr.dom b _ hb
  rw [hφ] at hq; cases hq
  obtain ⟨hB, es, c, hes, h1, h2, h3, h4⟩ := hok
  obtain ⟨l, hl⟩ := Option.isSome_iff_exists.1 hkey
  have hck := hko.law.check w false hl
  have hfind := hko.law.find w hl es.toList (fun e he => Option.isSome_iff_exists.1 (h1 e he))
  have hgl : p.g < w.heap.size := (Array.getElem?_eq_some_iff.1 hes).1
  -- the world behind the store
  have fin : ∀ (es' : Array MapEntry) (c' : Nat), (∀ e ∈ es'.toList, (keyOf P kt' e.key).isSome = true) → (∀ (i j : Nat) (x y : MapEntry), es'[i]? = some x → es'[j]? = some y → x.key = y.key → i = j) →
      (∀ e ∈ es'.toList, ∃ u, (if e.key = k then some v else f e.key) = some u ∧ RV φ u e.val) → (∀ key u, (if key = k then some v else f key) = some u → ∃ e ∈ es'.toList, e.key = key) →
      RH P φ (σ.set b (.map kt' fun x => if x = k then some v else f x)) { w with heap := w.heap.setIfInBounds p.g (.map es' c') } B ∧
      OStep id φ σ w φ (σ.set b (.map kt' fun x => if x = k then some v else f x)) { w with heap := w.heap.setIfInBounds p.g (.map es' c') } := by
    intro es' c' a1 a2 a3 a4
    refine hr.write (p := p) hb rfl hφ rfl (fun g hg => ?_) (by simp) rfl rfl rfl ⟨hB, es', c', by simp [hgl], a1, a2, a3, a4⟩
    simp only [Array.getElem?_setIfInBounds]; rw [if_neg (by omega)]
  have hset : ∀ (es' : Array MapEntry) (c' : Nat), (setObj p.g (.map es' c')).run P w = .ok () { w with heap := w.heap.setIfInBounds p.g (.map es' c') } := fun es' c' => by
    simp [setObj, Sem.run, hes]
  rcases hfind with ⟨hf, hno⟩ | ⟨j, e0, hf, hj, hek⟩
  · obtain ⟨a, b'⟩ := fin (es.push ⟨k, v', c⟩) (c + 1)
      (fun e he => by
        simp only [Array.toList_push, List.mem_append, List.mem_singleton] at he
        rcases he with he | rfl
        · exact h1 e he
        · exact hkey)
      (fun i j x y hx hy hxy => by
        rw [Array.getElem?_push] at hx hy
        split at hx <;> split at hy
        · omega
        · cases hx; exact absurd hxy.symm (hno y (List.mem_of_getElem? (by simpa using hy)))
        · cases hy; exact absurd hxy (hno x (List.mem_of_getElem? (by simpa using hx)))
        · exact h2 i j x y hx hy hxy)
      (fun e he => by
        simp only [Array.toList_push, List.mem_append, List.mem_singleton] at he
        rcases he with he | rfl
        · rw [if_neg (hno e he)]; exact h3 e he
        · exact ⟨v, if_pos rfl, hv⟩)
      (fun key u hu => by
        split at hu
        · rename_i e; exact ⟨⟨k, v', c⟩, by simp, e.symm⟩
        · obtain ⟨e, he, hk'⟩ := h4 key u hu; exact ⟨e, by simp only [Array.toList_push, List.mem_append]; exact .inl he, hk'⟩)
    exact ⟨_, by simp [Instr.mapUpdate, run_underlying (map_of hT), run_getObj_map hes, hck, hf, hset], a, b'⟩
  · have hj' : es[j]? = some e0 := by simpa using hj
    have hst := hko.law.stays w hl
    obtain ⟨a, b'⟩ := fin (es.modify j fun e => { e with key := k, val := v' }) c
      (fun e he => by
        obtain ⟨i, hi⟩ := List.mem_iff_getElem?.1 he
        have hi' : (es.modify j fun e => { e with key := k, val := v' })[i]? = some e := by rw [← Array.getElem?_toList]; exact hi
        rw [Array.getElem?_modify] at hi'
        split at hi'
        · rename_i hji; subst hji; rw [hj'] at hi'; cases hi'; exact hkey
        · exact h1 e (List.mem_of_getElem? (by simpa using hi')))
      (fun i i' x y hx hy hxy => by
        rw [Array.getElem?_modify] at hx hy
        split at hx <;> split at hy
        · omega
        · rename_i e1 e2; subst e1; rw [hj'] at hx; cases hx; exact h2 _ _ e0 y hj' hy (by rw [hek]; exact hxy)
        · rename_i e1 e2; subst e2; rw [hj'] at hy; cases hy; exact h2 _ _ x e0 hx hj' (by rw [hek]; exact hxy)
        · exact h2 i i' x y hx hy hxy)
      (fun e he => by
        obtain ⟨i, hi⟩ := List.mem_iff_getElem?.1 he
        have hi' : (es.modify j fun e => { e with key := k, val := v' })[i]? = some e := by rw [← Array.getElem?_toList]; exact hi
        rw [Array.getElem?_modify] at hi'
        split at hi'
        · rename_i hji; subst hji; rw [hj'] at hi'; cases hi'; exact ⟨v, if_pos rfl, hv⟩
        · rename_i hji
          have hne : e.key ≠ k := fun hh => hji (h2 j i e0 e hj' hi' (by rw [hek, hh]))
          rw [if_neg hne]; exact h3 e (List.mem_of_getElem? (by simpa using hi')))
      (fun key u hu => by
        split at hu
        · rename_i e
          refine ⟨{ e0 with key := k, val := v' }, List.mem_of_getElem? (i := j) ?_, e.symm⟩
          have : (es.modify j fun e => { e with key := k, val := v' })[j]? = some { e0 with key := k, val := v' } := by rw [Array.getElem?_modify, if_pos rfl, hj']; rfl
          rw [Array.getElem?_toList]; exact this
        · rename_i hne
          obtain ⟨e, he, hk'⟩ := h4 key u hu
          obtain ⟨i, hi⟩ := List.mem_iff_getElem?.1 he
          have hi' : es[i]? = some e := by simpa using hi
          have hji : j ≠ i := fun hh => by subst hh; rw [hj'] at hi'; cases hi'; exact hne (by rw [← hk', hek])
          refine ⟨e, List.mem_of_getElem? (i := i) ?_, hk'⟩
          have : (es.modify j fun e => { e with key := k, val := v' })[i]? = some e := by rw [Array.getElem?_modify, if_neg hji, hi']
          rw [Array.getElem?_toList]; exact this)
    exact ⟨_, by simp [Instr.mapUpdate, run_underlying (map_of hT), run_getObj_map hes, hck, hf, hj', hek, hst, hset], a, b'⟩

/-! ### Builtins -/
theorem afold_min {P : Program} {w : World} {φ : BMap} : ∀ {ys ys' : List Value} {x x' v : Value}, afold amin2 x ys = some v → RV φ x x' → RVs φ ys ys' → ∃ v', (ys'.foldlM Builtin.min2 x').run P w = .ok v' w ∧ RV φ v v'
  | [], ys', x, x', v, h, hx, hy => by
    have : ys' = [] := List.length_eq_zero_iff.1 hy.1.symm
    subst this
    simp only [afold, Option.some.injEq] at h; subst h
    exact ⟨x', rfl, hx⟩
  | y :: ys, [], x, x', v, h, hx, hy => absurd hy.1 (by simp)
  | y :: ys, y' :: ys', x, x', v, h, hx, hy => by
    simp only [afold] at h
    split at h
    · rename_i z hz
      have hy0 : RV φ y y' := hy.2 0 y y' rfl rfl
      unfold amin2 at hz
      split at hz
      · cases hz; cases hx.int_inv; cases hy0.int_inv
        obtain ⟨v', a, b⟩ := afold_min (P := P) (w := w) (ys' := ys') h (.int _ _) ⟨by simpa using hy.1, fun i a b ha hb => hy.2 (i + 1) a b (by simpa using ha) (by simpa using hb)⟩
        exact ⟨v', by simpa [Builtin.min2] using a, b⟩
      · cases hz
    · cases h

theorem afold_max {P : Program} {w : World} {φ : BMap} : ∀ {ys ys' : List Value} {x x' v : Value}, afold amax2 x ys = some v → RV φ x x' → RVs φ ys ys' → ∃ v', (ys'.foldlM Builtin.max2 x').run P w = .ok v' w ∧ RV φ v v'
  | [], ys', x, x', v, h, hx, hy => by
    have : ys' = [] := List.length_eq_zero_iff.1 hy.1.symm
    subst this
    simp only [afold, Option.some.injEq] at h; subst h
    exact ⟨x', rfl, hx⟩
  | y :: ys, [], x, x', v, h, hx, hy => absurd hy.1 (by simp)
  | y :: ys, y' :: ys', x, x', v, h, hx, hy => by
    simp only [afold] at h
    split at h
    · rename_i z hz
      have hy0 : RV φ y y' := hy.2 0 y y' rfl rfl
      unfold amax2 at hz
      split at hz
      · cases hz; cases hx.int_inv; cases hy0.int_inv
        obtain ⟨v', a, b⟩ := afold_max (P := P) (w := w) (ys' := ys') h (.int _ _) ⟨by simpa using hy.1, fun i a b ha hb => hy.2 (i + 1) a b (by simpa using ha) (by simpa using hb)⟩
        exact ⟨v', by simpa [Builtin.max2] using a, b⟩
      · cases hz
    · cases h

theorem alen_ok {P : Program} {φ : BMap} {w : World} {t rt : TypeId} {ts : Array TypeId} {x x' v : Value} (ht : ts[0]? = some t) (h : alen P t x = some v) (hx : RV φ x x') : (Builtin.len_ ts rt #[x']).run P w = .ok v w ∧ RV φ v v := by
  unfold alen at h
  split at h
  · rename_i a n c
    split at h
    · rename_i e hk
      cases h
      have : ∃ a' c', x' = .slice a' n c' := by cases hx <;> exact ⟨_, _, rfl⟩
      obtain ⟨a', c', rfl⟩ := this
      exact ⟨by simp [Builtin.len_, ht, run_underlying (tk_slice hk), goInt], .int _ _⟩
    · cases h
  · split at h
    · rename_i hk
      cases h; cases hx.string_inv
      exact ⟨by simp [Builtin.len_, ht, run_underlying (tk_string hk), goInt], .int _ _⟩
    · cases h
  · cases h
  · split at h
    · rename_i n e hk
      cases h
      obtain ⟨cs', rfl, _⟩ := hx.agg_inv
      exact ⟨by simp [Builtin.len_, ht, run_underlying (tk_array hk), goInt], .int _ _⟩
    · cases h
  · cases h

theorem acap_ok {P : Program} {φ : BMap} {w : World} {t rt : TypeId} {ts : Array TypeId} {x x' v : Value} (ht : ts[0]? = some t) (h : acap P t x = some v) (hx : RV φ x x') : (Builtin.cap_ ts rt #[x']).run P w = .ok v w ∧ RV φ v v := by
  unfold acap at h
  split at h
  · split at h
    · rename_i e hk
      cases h; cases hx.nil_inv
      exact ⟨by simp [Builtin.cap_, ht, run_underlying (tk_slice hk), goInt], .int _ _⟩
    · cases h
  · cases h

theorem abuiltin_ok {P : Program} {B id : Nat} {φ : BMap} {σ σ' : AHeap} {w : World} {b : Builtin} {ts : Array TypeId} {rt : TypeId} {cst : Array Bool} {vs vs' : List Value} {u : Value} (hr : RH P φ σ w B) (hid : φ id = none) (hlt : id < σ.next)
    (h : abuiltin P σ id b ts vs = some (u, σ')) (hv : RVs φ vs vs') :
    OpOk P B id φ σ w ((builtin b ts rt cst vs'.toArray).run P w) u σ' := by
  have one : ∀ {x : Value}, vs = [x] → ∃ x', vs' = [x'] ∧ RV φ x x' := fun {x} e => by
    subst e
    have hl := hv.1
    match vs', hl with
    | [x'], _ => exact ⟨x', rfl, hv.2 0 _ _ rfl rfl⟩
  have two : ∀ {x y : Value}, vs = [x, y] → ∃ x' y', vs' = [x', y'] ∧ RV φ x x' ∧ RV φ y y' := fun {x y} e => by
    subst e
    have hl := hv.1
    match vs', hl with
    | [x', y'], _ => exact ⟨x', y', rfl, hv.2 0 _ _ rfl rfl, hv.2 1 _ _ rfl rfl⟩
  have wrap : ∀ {s : Sem Value} {v' : Value} {w' : World}, s.run P w = .ok v' w' → (do Pure.pure (Next.value (← s)) : Sem Next).run P w = .ok (.value v') w' := fun {s v' w'} e => by simp [e]
  unfold abuiltin at h
  split at h
  · -- len
    rename_i x
    obtain ⟨x', rfl, hx⟩ := one rfl
    split at h
    · rename_i t ht
      rw [Option.map_eq_some_iff] at h
      obtain ⟨v, hv1, heq⟩ := h
      cases heq
      obtain ⟨a, b⟩ := alen_ok (P := P) (w := w) (rt := rt) ht hv1 hx
      exact .pure hr (by simp only [builtin]; exact wrap a) b
    · cases h
  · -- cap
    rename_i x
    obtain ⟨x', rfl, hx⟩ := one rfl
    split at h
    · rename_i t ht
      rw [Option.map_eq_some_iff] at h
      obtain ⟨v, hv1, heq⟩ := h
      cases heq
      obtain ⟨a, b⟩ := acap_ok (P := P) (w := w) (rt := rt) ht hv1 hx
      exact .pure hr (by simp only [builtin]; exact wrap a) b
    · cases h
  · -- append
    rename_i v x
    obtain ⟨v', x', rfl, hv1, hx⟩ := two rfl
    split at h
    · rename_i t u' ht hu
      obtain ⟨r, w', φ', a, b, c, d⟩ := aappend_ok (rt := rt) hr hid hlt h hv1 hx
      have hts : Builtin.append_ ts rt #[v', x'] = Builtin.append_ #[t, u'] rt #[v', x'] := by simp [Builtin.append_, ht, hu]
      exact ⟨r, w', φ', .inl (by simp only [builtin]; exact wrap (by rw [show ([v', x'] : List Value).toArray = #[v', x'] from rfl, hts]; exact a)), b, c, d⟩
    · cases h
  · -- copy
    rename_i d x
    obtain ⟨d', x', rfl, hd, hx⟩ := two rfl
    split at h
    · rename_i t u' ht hu
      obtain ⟨r, w', a, b, c, e⟩ := acopy_ok (id := id) (rt := rt) hr h hd hx
      have hts : Builtin.copy_ ts rt #[d', x'] = Builtin.copy_ #[t, u'] rt #[d', x'] := by simp [Builtin.copy_, ht]
      exact ⟨r, w', φ, .inl (by simp only [builtin]; exact wrap (by rw [show ([d', x'] : List Value).toArray = #[d', x'] from rfl, hts]; exact a)), b, c, e⟩
    · cases h
  · -- clear
    rename_i x
    obtain ⟨x', rfl, hx⟩ := one rfl
    split at h
    · rename_i t ht
      split at h
      case isFalse => cases h
      rename_i htk
      rw [Option.map_eq_some_iff] at h
      obtain ⟨s, hs, heq⟩ := h
      cases heq
      have hsome : (P.underlying t).isSome = true := by
        unfold tk at htk
        split at htk
        · rename_i T hT; obtain ⟨d, hd, _⟩ := akind_of hT; rw [hd]; rfl
        · cases htk
      obtain ⟨w', a, b, c⟩ := aclear_ok (id := id) (rt := rt) hr ht hs hx hsome
      exact ⟨.tuple #[], w', φ, .inl (by simp only [builtin]; exact wrap a), RV.tuple_of (xs := []) (xs' := []) (.nil φ), b, c⟩
    · cases h
  · -- min
    rename_i x r
    rw [Option.map_eq_some_iff] at h
    obtain ⟨v, hv1, heq⟩ := h
    cases heq
    cases vs' with
    | nil => exact absurd hv.1 (by simp)
    | cons x' r' =>
      obtain ⟨v', a, b⟩ := afold_min (P := P) (w := w) (ys' := r') hv1 (hv.2 0 _ _ rfl rfl) ⟨by simpa using hv.1, fun i a b ha hb => hv.2 (i + 1) a b (by simpa using ha) (by simpa using hb)⟩
      exact .pure hr (by simp only [builtin]; exact wrap (by simpa [Builtin.min_] using a)) b
  · -- max
    rename_i x r
    rw [Option.map_eq_some_iff] at h
    obtain ⟨v, hv1, heq⟩ := h
    cases heq
    cases vs' with
    | nil => exact absurd hv.1 (by simp)
    | cons x' r' =>
      obtain ⟨v', a, b⟩ := afold_max (P := P) (w := w) (ys' := r') hv1 (hv.2 0 _ _ rfl rfl) ⟨by simpa using hv.1, fun i a b ha hb => hv.2 (i + 1) a b (by simpa using ha) (by simpa using hb)⟩
      exact .pure hr (by simp only [builtin]; exact wrap (by simpa [Builtin.max_] using a)) b
  · cases h

theorem aextract_ok {P : Program} {φ : BMap} {w : World} {x x' v : Value} {i : Nat} (h : aextract x i = some v) (hx : RV φ x x') : ∃ v', (Instr.extract x' i).run P w = .ok v' w ∧ RV φ v v' := by
  unfold aextract at h
  split at h
  · obtain ⟨xs', rfl, hs⟩ := hx.tuple_inv
    obtain ⟨v', a, b⟩ := hs.get (i := i) (v := v) (by simpa using h)
    have a' : xs'[i]? = some v' := by simpa using a
    exact ⟨v', by simp [Instr.extract, a'], b⟩
  · cases h

end Go.Abs
